/- Packed. -/
import Derived.Test.YtidjpalnmnehmaaGreatDoorK37
import Derived.Shelf.Strings.Builder1
set_option maxRecDepth 99999
set_option maxHeartbeats 40000000
set_option linter.all false
namespace Go.Proofs.YtidjpalnmnehmaaGreatDoor
open Go.ChangeShapes Go.WideShapes Go.ChangeAt Go.RowKit Go.Lib
def FbOut (x:Wf.Sc) (k:Wf.K) (s:List UInt8) (w:World) (e:Ending) (w':World):Prop:=match Wf.getVal x k s with
 | some v=>∃ cs sk,e=.returned (.tuple #[.agg cs.toArray,sk,.bool true])/\VC w' (fun b=>w.heap.size<=b) v cs/\w'.ownsRow w.heap.size 3 1 sk (skB x 12 k s).length ((skB x 12 k s).map ix)
 | none=>e=.returned (.tuple #[.agg #[.int .u8 0,.string ⟨#[]⟩,.int .i64 0,.slice none 0 0],.slice none 0 0,.bool false])
theorem FbOut.no {x:Wf.Sc} {k:Wf.K} {s:List UInt8} {w w':World} {e:Ending} (h:Wf.getVal x k s=none) (he:e=.returned (.tuple #[.agg #[.int .u8 0,.string ⟨#[]⟩,.int .i64 0,.slice none 0 0],.slice none 0 0,.bool false])):FbOut x k s w e w':=by
 unfold FbOut;rw[h];exact he
theorem FbOut.yes {x:Wf.Sc} {k:Wf.K} {s:List UInt8} {w w':World} {e:Ending} {v:Wf.V} (h:Wf.getVal x k s=some v) (he:∃ cs sk,e=.returned (.tuple #[.agg cs.toArray,sk,.bool true])/\VC w' (fun b=>w.heap.size<=b) v cs/\w'.ownsRow w.heap.size 3 1 sk (skB x 12 k s).length ((skB x 12 k s).map ix)):FbOut x k s w e w':=by
 unfold FbOut;rw[h];exact he
theorem start_from (w:World) (SG BS NM S:ByteArray) (s:List UInt8) (hS:(⟨s.toArray⟩:ByteArray)=S) (sb:Nat) (W1:World) (hW1:((w.alloc (.cells #[.string SG,.string BS,.string NM] 48)).alloc (.cells #[.int .u8 0,.string ⟨#[]⟩,.int .i64 0,.slice none 0 0] 51)).alloc (.cells #[ptr sb,.string S,.bool false,.slice none 0 0,.int .i64 0] 88)=W1) :
  W1.cell? ⟨w.heap.size,0,none⟩=some (.string SG)/\W1.cell? ⟨w.heap.size,1,none⟩=some (.string BS)/\W1.cell? ⟨w.heap.size,2,none⟩=some (.string NM)/\Zero W1 (w.heap.size+1)/\Br W1 (w.heap.size+1+1) sb s false (.slice none 0 0) 0/\Below w.heap.size w W1 :=
 start_part w sb 0 s SG BS NM S hS W1 hW1
section
variable (x:Wf.Sc) (k:Wf.K) (sb:Nat) (s:List UInt8) (W w:World)
theorem from_long (hs:¬ s.length<=600) (hs2:s.length<=9000000000):Calls Tryz.prog 32 #[ptr sb,kV k,tx s] w fun e w'=>FbOut x k s w e w'/\Below w.heap.size w w':=by
 have HV:=hid (show Wf.getVal x k s=none by unfold Wf.getVal;rw[if_neg hs]);obtain⟨SG,hSG⟩:∃ SG:ByteArray,(⟨k.signs.toArray⟩:ByteArray)=SG:=⟨_,rfl⟩;obtain⟨BS,hBS⟩:∃ BS:ByteArray,(⟨k.base.toArray⟩:ByteArray)=BS:=⟨_,rfl⟩;obtain⟨NM,hNM⟩:∃ NM:ByteArray,(⟨k.name.toArray⟩:ByteArray)=NM:=⟨_,rfl⟩;obtain⟨S,hS⟩:∃ S:ByteArray,(⟨s.toArray⟩:ByteArray)=S:=⟨_,rfl⟩;have hsz:600<S.size:=by rw[<-hS];show 600<s.length;omega
 have hsz2:S.size<=9000000000:=by rw[<-hS];exact hs2
 simp only[kV,tx,hSG,hBS,hNM,hS];clear hSG hBS hNM hS hs hs2;go_enter Tryz.func32,Tryz.ntmps32;go_wp2_with fail
 exact zbD (v:=.tuple #[.agg #[.int .u8 0,.string ⟨#[]⟩,.int .i64 0,.slice none 0 0],.slice none 0 0,.bool false]) (by simp[results,Tryz.results32,go_sem, *]) rfl ⟨FbOut.no HV.out rfl,by repeat (first|with_reducible exact zaB|with_reducible refine zbE ?_|with_reducible refine zbF ?_ (by simp) _|with_reducible refine zbG ?_ (by first|exact zaA|simp) _)⟩
theorem from_short (hx:Wf.ScOk x) (lo:Nat) (hsc:ScL W lo sb x) (hk:KOk x k) (hs:s.length<=600) (hW:Below W.heap.size W w):Calls Tryz.prog 32 #[ptr sb,kV k,tx s] w fun e w'=>FbOut x k s w e w'/\Below w.heap.size w w':=by
 have hgv:Wf.getVal x k s=(match Wf.getB x 13 k s with|some (v,[])=>if v.print.length<=400/\v.deep<=12 then some v else none|_=>none):=by
  unfold Wf.getVal;rw[if_pos hs];rcases Wf.getB x 13 k s with _|⟨v,_|⟨a,r⟩⟩ <;> rfl
 have hrd:=fun wz hb h=>bvalue_top x hx lo sb (w.heap.size+1+1) W hsc (by have:=hW.size;omega) k hk s wz hb h hs;obtain⟨SG,hSG⟩:∃ SG:ByteArray,(⟨k.signs.toArray⟩:ByteArray)=SG:=⟨_,rfl⟩;obtain⟨BS,hBS⟩:∃ BS:ByteArray,(⟨k.base.toArray⟩:ByteArray)=BS:=⟨_,rfl⟩;obtain⟨NM,hNM⟩:∃ NM:ByteArray,(⟨k.name.toArray⟩:ByteArray)=NM:=⟨_,rfl⟩;obtain⟨S,hS⟩:∃ S:ByteArray,(⟨s.toArray⟩:ByteArray)=S:=⟨_,rfl⟩;have hsz:S.size<=600:=by rw[<-hS];exact hs
 have hkv:kV k=.agg #[.string SG,.string BS,.string NM]:=by simp only[kV,tx,hSG,hBS,hNM]
 have ST:=hid fun W1 h=>start_from w SG BS NM S s hS sb W1 h;have HW:=hid hW;have HS6:=hid hs;have HX:=hid hx;obtain⟨L,hL⟩:∃ L,skB x 12 k s=L:=⟨_,rfl⟩;rw[hkv,hL] at hrd;have HLL:=hid hL;simp only[hkv,tx,hS];clear hkv hSG hBS hNM hS hL hs hW hsc hx hk;have hrb:w.heap.size+1<w.heap.size+1+1:=by omega
 cases hg:Wf.getB x 13 k s with
 | none =>
  have HV:=hid (show Wf.getVal x k s=none by rw[hgv,hg]);have HRD:=hid fun wz (hb:Below W.heap.size W wz) (h:Br wz (w.heap.size+1+1) sb s false (.slice none 0 0) 0)=>(hrd wz hb h).mono (R':=fun e w'=>∃ cs v r sk',e=.returned (.agg cs.toArray)/\VC w' (fun b=>wz.heap.size<=b) v cs/\aA (w.heap.size+1+1) wz w'/\Br w' (w.heap.size+1+1) sb r true sk' 0) fun e w' ⟨cs,v,r,sk',h1,h2,h3,_,h4⟩=>⟨cs,v,r,sk',h1,h2,h3,by rcases h4 with⟨h4,_⟩|⟨_,h4⟩;(· rw[hg] at h4;cases h4);(· exact h4)⟩;clear hgv hrd hg;go_enter Tryz.func32,Tryz.ntmps32;go_wp2_with (go_at_call 57;obtain⟨d0,d1,d2,z0,sn0,b0⟩:=ST.out _ rfl;refine(HRD.out _ (HW.out.trans (b0.mono HW.out.size)) sn0).mono ?_;rintro e w2 ⟨cs,v,r,sk',rfl,hvc,hb2,hs2⟩;obtain⟨u0,u1,u2,u3,T2,a2,rfl⟩:=hvc.aY;have t1:=hs2.c1;have t2:=hs2.c2;have t3:=hs2.lt;have Z2:=hid (z0.step hb2 (by omega));obtain⟨zl,zr0,zr1,zr2,zr3,zf0,zf1,zf2,zf3⟩:=Z2.out;have BW2:=hid (aA.below (Below.refl w.heap.size w) (zaA) (by omega) ((aA.aF (rb:=w.heap.size+1+1) b0 (zaA)).trans hb2));clear hvc hb2 d0 d1 d2 z0 sn0 b0 hs2)
  all_goals exact zbD (v:=.tuple #[.agg #[.int .u8 0,.string ⟨#[]⟩,.int .i64 0,.slice none 0 0],.slice none 0 0,.bool false]) (by simp[results,Tryz.results32,go_sem, *]) rfl ⟨FbOut.no HV.out rfl,by have B:=BW2.out;repeat (first|with_reducible exact B|with_reducible refine zbE ?_|with_reducible refine zbF ?_ (by simp) _|with_reducible refine zbG ?_ (by first|exact B.size|(simp;omega)) _)⟩
 | some y =>
  obtain⟨v,r⟩:=y;have HRD:=hid fun wz (hb:Below W.heap.size W wz) (h:Br wz (w.heap.size+1+1) sb s false (.slice none 0 0) 0)=>(hrd wz hb h).mono (R':=fun e w'=>∃ cs sk',e=.returned (.agg cs.toArray)/\VC w' (fun b=>wz.heap.size<=b) v cs/\aA (w.heap.size+1+1) wz w'/\Br w' (w.heap.size+1+1) sb r false sk' 0/\w'.ownsRow wz.heap.size 3 1 sk' L.length (L.map ix)) fun e w' ⟨cs,v',r',sk',h1,h2,h3,_,h4⟩=>by
   rcases h4 with⟨h4,h5,h6⟩|⟨h4,_⟩
   ·rw[hg] at h4
    simp only[zaE,zaK] at h4;obtain⟨rfl,rfl⟩:=h4;exact⟨cs,sk',h1,h2,h3,h5,h6⟩
   ·rw[hg] at h4;cases h4
  have hpl:v.print.length<=1000000:=by
   have:=Wf.getB_short 13 k s v r hg;have:=HS6.out;omega
  have hdp:v.deep<=1000000:=by
   have:=(Wf.iO 13 k v (Wf.fB (Wf.eH HX.out) 13 k s v r hg)).2;omega
  have HPL:=hid hpl;have HDP:=hid hdp;clear hpl hdp hrd;cases r with
  | cons c0 r0 =>
   have HV:=hid (show Wf.getVal x k s=none by rw[hgv,hg]);obtain⟨R,hR⟩:∃ R:ByteArray,(⟨(c0::r0).toArray⟩:ByteArray)=R:=⟨_,rfl⟩;have hre:(R.toList==[])=false:=(by rw[<-hR,zaZ];rfl);have HRR:=hid hR;clear hgv hg hR;go_enter Tryz.func32,Tryz.ntmps32;go_wp2_with (go_at_call 57;obtain⟨d0,d1,d2,z0,sn0,b0⟩:=ST.out _ rfl;refine(HRD.out _ (HW.out.trans (b0.mono HW.out.size)) sn0).mono ?_;rintro e w2 ⟨cs,sk',rfl,hvc,hb2,hs2,_⟩;obtain⟨u0,u1,u2,u3,T2,a2,rfl⟩:=hvc.aY;have t1:=hs2.c1;rw[tx,HRR.out] at t1;have t2:=hs2.c2;have t3:=hs2.lt;have Z2:=hid (z0.step hb2 (by omega));obtain⟨zl,zr0,zr1,zr2,zr3,zf0,zf1,zf2,zf3⟩:=Z2.out;have BW2:=hid (aA.below (Below.refl w.heap.size w) (zaA) (by omega) ((aA.aF (rb:=w.heap.size+1+1) b0 (zaA)).trans hb2));clear hvc hb2 d0 d1 d2 z0 sn0 b0 hs2)
   all_goals exact zbD (v:=.tuple #[.agg #[.int .u8 0,.string ⟨#[]⟩,.int .i64 0,.slice none 0 0],.slice none 0 0,.bool false]) (by simp[results,Tryz.results32,go_sem, *]) rfl ⟨FbOut.no HV.out rfl,by have B:=BW2.out;repeat (first|with_reducible exact B|with_reducible refine zbE ?_|with_reducible refine zbF ?_ (by simp) _|with_reducible refine zbG ?_ (by first|exact B.size|(simp;omega)) _)⟩
  | nil =>
   obtain⟨B,hB⟩:∃ B,(decide (v.print.length<=400)&&decide (v.deep<=12))=B:=⟨_,rfl⟩;have HFT:=hid fun(q:Nat) (n:Nat) (c:Nat) (g:Int) (T:ByteArray) (a:Option Addr) (P:Nat->Prop) (W2 w2:World) (hv:VC W2 P v [.int .u8 q,.string T,.int .i64 g,.slice a n c]) (hb:Below W2.heap.size W2 w2)=>(by
    have h:=fits v q n c g T a P W2 w2 hv hb HPL.out HDP.out;rw[hB] at h;exact h:Calls Tryz.prog 58 #[.agg #[.int .u8 q,.string T,.int .i64 g,.slice a n c]] w2 fun e w'=>e=.returned (.bool B)/\Below w2.heap.size w2 w')
   cases B with
   | false =>
    have HV:=hid (show Wf.getVal x k s=none by
     rw[hgv,hg];dsimp only;rw[if_neg];rintro⟨h1,h2⟩;rw[decide_eq_true h1,decide_eq_true h2] at hB;cases hB)
    clear hgv hg hB;go_enter Tryz.func32,Tryz.ntmps32;go_wp2_with (first|(go_at_call 58;refine(HFT.out _ _ _ _ _ _ _ w2 _ HVC.out ((zaB).alloc (zaA) _)).mono ?_;rintro e w4 ⟨rfl,hb4⟩;have hb24:=hid (aC ((Below.refl w2.heap.size w2).alloc (zaA) _) hb4);have B4:=hid (BW2.out.trans (hb24.out.mono BW2.out.size));obtain⟨yl,yr0,yr1,yr2,yr3,yf0,yf1,yf2,yf3⟩:=Z2.out.below hb24.out Z2.out.lt;clear hb4)|(go_at_call 57;obtain⟨d0,d1,d2,z0,sn0,b0⟩:=ST.out _ rfl;refine(HRD.out _ (HW.out.trans (b0.mono HW.out.size)) sn0).mono ?_;rintro e w2 ⟨cs,sk',rfl,hvc,hb2,hs2,_⟩;obtain⟨u0,u1,u2,u3,T2,a2,rfl⟩:=hvc.aY;have HVC:=hid hvc;have t1:=hs2.c1;have t2:=hs2.c2;have t3:=hs2.lt;have Z2:=hid (z0.step hb2 (by omega));obtain⟨zl,zr0,zr1,zr2,zr3,zf0,zf1,zf2,zf3⟩:=Z2.out;have BW2:=hid (aA.below (Below.refl w.heap.size w) (zaA) (by omega) ((aA.aF (rb:=w.heap.size+1+1) b0 (zaA)).trans hb2));clear hvc hb2 d0 d1 d2 z0 sn0 b0 hs2))
    all_goals exact zbD (v:=.tuple #[.agg #[.int .u8 0,.string ⟨#[]⟩,.int .i64 0,.slice none 0 0],.slice none 0 0,.bool false]) (by simp[results,Tryz.results32,go_sem, *]) rfl ⟨FbOut.no HV.out rfl,by have B:=B4.out;repeat (first|with_reducible exact B|with_reducible refine zbE ?_|with_reducible refine zbF ?_ (by simp) _|with_reducible refine zbG ?_ (by first|exact B.size|(simp;omega)) _)⟩
   | true =>
    have HV:=hid (show Wf.getVal x k s=some v by
     rw[hgv,hg];dsimp only;rw[if_pos];rw[Bool.and_eq_true,decide_eq_true_eq,decide_eq_true_eq] at hB;exact hB)
    clear hgv hg hB;go_enter Tryz.func32,Tryz.ntmps32;go_wp2_with (first|(go_at_call 58;refine(HFT.out _ _ _ _ _ _ _ w2 _ HVC.out ((zaB).alloc (zaA) _)).mono ?_;rintro e w4 ⟨rfl,hb4⟩;have hb24:=hid (aC ((Below.refl w2.heap.size w2).alloc (zaA) _) hb4);have B4:=hid (BW2.out.trans (hb24.out.mono BW2.out.size));obtain⟨yl,yr0,yr1,yr2,yr3,yf0,yf1,yf2,yf3⟩:=Z2.out.below hb24.out Z2.out.lt;have n0:w4.cell? ⟨w2.heap.size,0,none⟩=some (.int .u8 u0):=(hb4.cell (p:=⟨w2.heap.size,0,none⟩) (by simp)).trans (by simp[go_sem]);have n1:w4.cell? ⟨w2.heap.size,1,none⟩=some (.string T2):=(hb4.cell (p:=⟨w2.heap.size,1,none⟩) (by simp)).trans (by simp[go_sem]);have n2:w4.cell? ⟨w2.heap.size,2,none⟩=some (.int .i64 u1):=(hb4.cell (p:=⟨w2.heap.size,2,none⟩) (by simp)).trans (by simp[go_sem]);have n3:w4.cell? ⟨w2.heap.size,3,none⟩=some (.slice a2 u2 u3):=(hb4.cell (p:=⟨w2.heap.size,3,none⟩) (by simp)).trans (by simp[go_sem]);have nl:w2.heap.size<w4.heap.size:=zaC (by simp) hb4.size;have n5:=(hb24.out.cell (p:=⟨w.heap.size+1+1,3,none⟩) t3).trans t5;have n6:=zaC t3 hb24.out.size;clear hb4)|(go_at_call 57;obtain⟨d0,d1,d2,z0,sn0,b0⟩:=ST.out _ rfl;have hz3:=sn0.lt;refine(HRD.out _ (HW.out.trans (b0.mono HW.out.size)) sn0).mono ?_;rintro e w2 ⟨cs,sk',rfl,hvc,hb2,hs2,hown⟩;obtain⟨u0,u1,u2,u3,T2,a2,rfl⟩:=hvc.aY;have HVC:=hid hvc;have HOWN:=hid hown;have t1:=hs2.c1;have t2:=hs2.c2;have t3:=hs2.lt;have t5:=hs2.c3;have Z2:=hid (z0.step hb2 (by omega));obtain⟨zl,zr0,zr1,zr2,zr3,zf0,zf1,zf2,zf3⟩:=Z2.out;have BW2:=hid (aA.below (Below.refl w.heap.size w) (zaA) (by omega) ((aA.aF (rb:=w.heap.size+1+1) b0 (zaA)).trans hb2));clear hvc hown hb2 d0 d1 d2 z0 sn0 b0 hs2))
    have hne:¬ w2.heap.size=w.heap.size+1:=(by omega);go_region
    all_goals (go_wp2_with fail)
    all_goals exact zbD (v:=.tuple #[.agg #[.int .u8 u0,.string T2,.int .i64 u1,.slice a2 u2 u3],sk',.bool true]) (by simp[results,Tryz.results32,go_sem, *]) rfl (by
     have hR:∀ W4,aA (w.heap.size+1) w4 W4->Below w.heap.size w W4->(FbOut x k s w (.returned (.tuple #[.agg #[.int .u8 u0,.string T2,.int .i64 u1,.slice a2 u2 u3],sk',.bool true])) W4/\Below w.heap.size w W4):=fun W4 hb hb0=>by
      refine⟨FbOut.yes HV.out ⟨[.int .u8 u0,.string T2,.int .i64 u1,.slice a2 u2 u3],sk',rfl,VC.keep (fun b hp hlt=>?_) (zaI hb24.out.size hb.size) _ _ HVC.out,?_⟩,hb0⟩
      ·have h3:w.heap.size+1+1+1<=b:=by simpa using hp
       exact⟨by omega,(hb.block b (zaC hlt hb24.out.size) (by omega)).trans (hb24.out.block b hlt)⟩
      ·rw[HLL.out]
       exact owns_base (dQ (bY HOWN.out hb24.out) hb (by first|(simp;done)|(simp;omega))) (by first|(simp;done)|(simp;omega))
     refine hR _ ?_ ?_
     ·repeat (first|with_reducible exact aA.refl _ _|with_reducible refine aA.drew ?_|with_reducible refine aA.trans ?_ (aA.set _ _ _ _))
     ·have B:=B4.out
      repeat (first|with_reducible exact B|with_reducible refine zbE ?_|with_reducible refine zbF ?_ (by simp) _))
theorem fromBytes (hx:Wf.ScOk x) (lo:Nat) (hsc:ScL W lo sb x) (hk:KOk x k) (hs:s.length<=9000000) (hW:Below W.heap.size W w):Calls Tryz.prog 32 #[ptr sb,kV k,tx s] w fun e w'=>FbOut x k s w e w'/\Below w.heap.size w w':=by
 by_cases h:s.length<=600
 ·exact from_short x k sb s W w hx lo hsc hk h hW
 ·exact from_long x k sb s w h (by omega)
end
end Go.Proofs.YtidjpalnmnehmaaGreatDoor

namespace Go.Proofs.YtidjpalnmnehmaaGreatDoor
open Go.ChangeShapes Go.WideShapes Go.ChangeAt Go.RowKit
theorem l1Put_any (k:Nat):∀ (n:Int) (w:World),n<=k->0<=n->n<=999999 ->
  Calls Tryz.prog 53 #[.int .i64 n] w fun e w'=>e=.returned (.string ⟨(Wf.putN n.toNat).toArray⟩)/\Below w.heap.size w w':=by
 induction k with
 | zero =>
  intro n w hk h0 _;obtain rfl:n=0:=by omega
  have hcv:=run_convert_lit (P:=Tryz.prog) 22 9 5 Tryz.underlying22 Tryz.underlying5 Tryz.underlying9;go_enter Tryz.func53,Tryz.ntmps53;go_wp2_with fail
  go_ret
  exact⟨by rw[Wf.bM (by omega)];rfl,(zaB).alloc (zaA) _⟩
 | succ k ih0 =>
  have ih:=Lib.hid ih0;clear ih0;intro n w hk h0 hn;by_cases h:n<128
  ·have hcv:=run_convert_lit (P:=Tryz.prog) 22 9 5 Tryz.underlying22 Tryz.underlying5 Tryz.underlying9
   have E:=Lib.hid (show(Wf.putN n.toNat).toArray = #[UInt8.ofNat n.toNat] by rw[Wf.bM (by omega)]);go_enter Tryz.func53,Tryz.ntmps53;go_wp2_with fail
   go_ret
   exact⟨by rw[E.out];rfl,(zaB).alloc (zaA) _⟩
  ·have E:=Lib.hid (show Wf.putN n.toNat=[UInt8.ofNat (128+n % 128).toNat]++Wf.putN (n / 128).toNat by
    rw[Wf.cB (by omega),show(128+n % 128).toNat=128+n.toNat % 128 by omega,show(n / 128).toNat=n.toNat / 128 by omega];simp)
   have hc1:=fun W a c=>run_convert_one (P:=Tryz.prog) 22 9 5 Tryz.underlying22 Tryz.underlying5 Tryz.underlying9 W a c (128+n % 128);have hl:=(Wf.bZ (n / 128).toNat (by omega)).2;have w0:n.tdiv 128=n / 128:=Int.tdiv_eq_ediv_of_nonneg (by omega);have w1:IntKind.i64.wrap (n / 128)=n / 128:=zbI _ (by omega);have w2:n.tmod 128=n % 128:=Int.tmod_eq_emod_of_nonneg (by omega);have w3:IntKind.i64.wrap (128+n % 128)=128+n % 128:=zbI _ (by omega);have w4:IntKind.u8.wrap (128+n % 128)=128+n % 128:=IntWalk.u8_in _ (by omega);have w5:∀ W:World,(Op.stringOp .add ⟨#[UInt8.ofNat (128+n % 128).toNat]⟩ ⟨(Wf.putN (n / 128).toNat).toArray⟩).run Tryz.prog W=.ok (.string ⟨(Wf.putN n.toNat).toArray⟩) W :=
    run_add_bytes [UInt8.ofNat (128+n % 128).toNat] (Wf.putN (n / 128).toNat) _ (by simp;omega) E.out
   clear E;go_enter Tryz.func53,Tryz.ntmps53;go_wp2_with fail
   go_region_with (go_at_call 53;refine(ih.out (n / 128) _ (by omega) (by omega) (by omega)).mono ?_;rintro e w' ⟨rfl,hb⟩;have hc:=(bcell hb).1)
   all_goals go_wp2
   all_goals go_ret
   ·exact⟨rfl,(((zaB).alloc (zaA) _).drew).trans (hb.mono (by simp))⟩
   ·exact⟨rfl,(((zaB).alloc (zaA) _).drew).trans (hb.mono (by simp))⟩
   ·exact⟨rfl,((zaB).drew.trans hb).alloc (by have:=hb.size;simpa using this) _⟩
def putL (n:Int):List UInt8:=if 0<=n/\n<=999999 then Wf.putN n.toNat else []
def putB (n:Int):Bool:=decide (0<=n/\n<=999999)
def putV (n:Int):Value:=.tuple #[.string ⟨(putL n).toArray⟩,.bool (putB n)]
theorem ret_sb {a b:ByteArray} {x y:Bool} (h1:a=b) (h2:x=y):Ending.returned (.tuple #[.string a,.bool x])=.returned (.tuple #[.string b,.bool y]):=by rw[h1,h2]
theorem put_no {n:Int} (h:¬ (0<=n/\n<=999999)):Ending.returned (.tuple #[.string ⟨#[]⟩,.bool false])=.returned (putV n):=ret_sb (by rw[putL,if_neg h]) (by rw[putB,decide_eq_false h])
theorem put_yes {n:Int} {s:ByteArray} (h:0<=n/\n<=999999) (hs:s=⟨(Wf.putN n.toNat).toArray⟩):Ending.returned (.tuple #[.string s,.bool true])=.returned (putV n):=ret_sb (by rw[putL,if_pos h,hs]) (by rw[putB,decide_eq_true h])
theorem info_u8:(Tryz.prog.info? 5).map (fun i=>(i.zero,i.size,i.bytes))=some (some (.int .u8 0),1,1):=by kernel_rfl
def Room (k:Nat) (m:Int):Prop:=(k=0/\m<=999999)\/(k=1/\m<=7812)\/(k=2/\m<=61)
theorem Room.more {l:List UInt8} {m:Int} {c:UInt8} (h:128<=m) (hr:Room l.length m):Room (l++[c]).length (m / 128):=by
 have e:(l++[c]).length=l.length+1:=by simp
 rw[e];unfold Room at hr ⊢;omega
theorem Room.le {k:Nat} {m:Int} (hr:Room k m):k<=2/\m<=999999:=by unfold Room at hr;omega
theorem numPut_impl (n:Int) (w:World):Calls Tryz.prog 17 #[.int .i64 n] w fun e w'=>e=.returned (putV n)/\Below w.heap.size w w':=by
 by_cases h:0<=n/\n<=999999
 ·have h1:=h.1
  have h2:=h.2;have H:=Lib.hid h;clear h;have hcv:=fun wx v (l:List UInt8) hl=>run_convert_owned (P:=Tryz.prog) wx 22 9 5 (base:=w.heap.size) (et:=5) (v:=v) (l:=l) Tryz.underlying22 Tryz.underlying5 Tryz.underlying9 hl;have HCV:=Lib.hid hcv;clear hcv;go_enter Tryz.func17,Tryz.ntmps17;go_wp2;go_loopw [4,0] (fun v i wr=>∃ (l:List UInt8) (m:Int),0<=m/\Room l.length m/\i=.int .i64 m/\Hid (l++Wf.putN m.toNat=Wf.putN n.toNat)/\wr.ownsRow w.heap.size 5 1 v l.length (Lib.byteCells l)/\Below w.heap.size w wr)
   (fun _ i _=>(intOf i).toNat)
  case atStart=>exact⟨[],n,h1,.inl ⟨rfl,h2⟩,rfl,rfl,World.ownsRow_nil _ _ _ _,zaB⟩
  case round =>
   obtain⟨l,m,hm1,hroom,rfl,hput,hown,hbel⟩:=hrel;have hl:=hroom.le.1;have hm2:=hroom.le.2;by_cases hlt:m<128
   ·have hm:IntKind.u8.wrap m=m:=IntWalk.u8_in _ (by omega)
    have hsz:=hbel.size;have HMC:=Lib.hid (show m=((UInt8.ofNat m.toNat).toNat:Int) by rw[Wf.toNat_ofNat (by omega)];omega);clear hroom;go_wp2_with (at_builtin;refine wpList_append_byte _ rfl (.tmp 22) (.tmp 25) 22 rfl w.heap.size 5 Tryz.underlying22 info_u8 _ l rfl (hown.alloc _) ⟨wr.heap.size,0,none⟩ m rfl (by simp) (UInt8.ofNat m.toNat) HMC.out (by omega) (by simp;omega) ?_;intro v1 w1 hown1 hb1;have hc1:=HCV.out w1 v1 _ hown1)
    go_ret2
    exact⟨put_yes H.out (by rw[<-hput.out,Wf.bM (by omega)]),(hbel.alloc hsz _).trans hb1⟩
   ·have hm0:m % 128+128<256:=by omega
    have hmu:IntKind.u8.wrap (m % 128+128)=m % 128+128:=IntWalk.u8_in _ (by omega);have hsz:=hbel.size;have HMC:=Lib.hid (show m % 128+128=((UInt8.ofNat (m % 128+128).toNat).toNat:Int) by rw[Wf.toNat_ofNat (by omega)];omega);have HL:=Lib.hid (hroom.more (c:=UInt8.ofNat (m % 128+128).toNat) (by omega));clear hroom;have HP:=Lib.hid (show(l++[UInt8.ofNat (m % 128+128).toNat])++Wf.putN (m / 128).toNat=Wf.putN n.toNat by
     rw[<-hput.out,Wf.cB (show 128<=m.toNat by omega),show(m % 128+128).toNat=128+m.toNat % 128 by omega,show(m / 128).toNat=m.toNat / 128 by omega];simp)
    go_wp2_with (at_builtin;refine wpList_append_byte _ rfl (.tmp 13) (.tmp 18) 22 rfl w.heap.size 5 Tryz.underlying22 info_u8 _ l rfl (hown.alloc _) ⟨wr.heap.size,0,none⟩ (m % 128+128) rfl (by simp) (UInt8.ofNat (m % 128+128).toNat) HMC.out (by omega) (by simp;omega) ?_;intro v1 w1 hown1 hb1)
    go_roundw
    case rel=>exact⟨_,_,by omega,HL.out,rfl,HP.out,hown1,(hbel.alloc hsz _).trans hb1⟩
    case measure=>simp[intOf];omega
 ·have H:=Lib.hid h
  have h1:n<0\/999999<n:=by omega
  clear h;go_enter Tryz.func17,Tryz.ntmps17;go_wp2;all_goals go_ret2
  all_goals exact⟨put_no H.out,zaB⟩
end Go.Proofs.YtidjpalnmnehmaaGreatDoor

namespace Go.Proofs.YtidjpalnmnehmaaGreatDoor
open Go.ChangeShapes Go.WideShapes Go.ChangeAt Go.RowKit Go.Lib
theorem putV_nat (n:Nat) (hn:n<=999999):putV n=.tuple #[tx (Wf.putN n),.bool true]:=by
 unfold putV putL putB;rw[if_pos ⟨by omega,by omega⟩,decide_eq_true ⟨by omega,by omega⟩,Int.toNat_natCast]
theorem numText (n:Nat) (hn:n<=999999) (w:World):Calls Tryz.prog 77 #[.int .i64 n] w fun e w'=>e=.returned (tx (Wf.putN n))/\Below w.heap.size w w':=by
 have HP:=hid fun wz=>numPut_impl (n:Int) wz;rw[putV_nat n hn] at HP;obtain⟨B,hB⟩:∃ B:ByteArray,(⟨(Wf.putN n).toArray⟩:ByteArray)=B:=⟨_,rfl⟩;simp only[tx,hB] at HP ⊢;clear hB;go_enter Tryz.func77,Tryz.ntmps77;go_wp2_with (go_at_call 17;refine(HP.out _).mono ?_;rintro e w2 ⟨rfl,hb2⟩;have HB2:=hid hb2;clear hb2)
 go_ret
 exact⟨rfl,HB2.out⟩
theorem sized (s:ByteArray) (hs:s.size<=999999) (w:World):Calls Tryz.prog 78 #[.string s] w fun e w'=>e=.returned (tx (Wf.putN s.data.toList.length++s.data.toList))/\Below w.heap.size w w':=by
 have HP:=hid fun wz=>numText s.size hs wz;obtain⟨B,hB⟩:∃ B:ByteArray,(⟨(Wf.putN s.size).toArray⟩:ByteArray)=B:=⟨_,rfl⟩;have hBs:B.size<=3:=by rw[<-hB];exact(Wf.bZ s.size hs).2
 have HF:=hid (show(⟨(Wf.putN s.data.toList.length++s.data.toList).toArray⟩:ByteArray)=B++s from
  ((aQ (B++s) _).2 (by rw[zaU,zaW,<-hB,aE])).symm)
 have a1:=fun wz=>zbH (P:=Tryz.prog) (w:=wz) B s (by omega);simp only[tx,hB] at HP;clear hB;go_enter Tryz.func78,Tryz.ntmps78;go_wp2_with (go_at_call 77;refine(HP.out _).mono ?_;rintro e w2 ⟨rfl,hb2⟩;have HB2:=hid hb2;clear hb2)
 go_ret
 exact⟨by rw[tx,HF.out];rfl,HB2.out⟩

def Bu (B b:Nat) (l:List UInt8) (w:World):Prop:=Lib.IsBuilder 135 5 B b (Lib.byteCells l) w
theorem Bu.below {B b:Nat} {l:List UInt8} {w w':World} (h:Bu B b l w) (hb:Below w.heap.size w w'):Bu B b l w':=by
 have k:∀ p,Lib.BuilderAt 135 5 B b p (Lib.byteCells l) w->Lib.BuilderAt 135 5 B b p (Lib.byteCells l) w':=fun p h=>by
  have hlt:=h.lt;obtain⟨h1,v,h2,h3,h4⟩:=h;exact⟨h1,v,(hb.block b hlt).trans h2,bY h3 hb,h4⟩
 exact h.imp (k _) (k _)
theorem Bu.lt {B b:Nat} {l:List UInt8} {w:World} (h:Bu B b l w):B<=b/\b<w.heap.size:=by
 rcases h with h|h
 ·exact⟨h.1,h.lt⟩
 ·exact⟨h.1,h.lt⟩
theorem Bu.new (w:World):Bu w.heap.size w.heap.size [] (w.alloc (.cells #[.pointer none,.slice none 0 0] 135)):=Lib.fresh_isBuilder _ _ _
theorem wstr (B b:Nat) (l:List UInt8) (s:ByteArray) (w:World) (h:Bu B b l w) (hl:l.length+s.size<=1000000000) (hB:B<=w.heap.size):Calls Tryz.prog 79 #[ptr b,.string s] w fun e w'=>e=.returned (.tuple #[.int .i64 s.size,.nilIface])/\Bu B b (l++s.data.toList) w'/\Below B w w':=by
 refine(Any.Builder_WriteString { Tryz.lays156 with } Tryz.Builder_Extra_156 B b (Lib.byteCells l) s w h (by rw[Lib.byteCells_length];omega) hB).mono ?_;rintro e w' ⟨h1,h2,h3⟩;refine⟨h1,.inr ?_,h3⟩;have e0:Lib.byteCells (l++s.data.toList)=Lib.byteCells l++Lib.strCells s:=by unfold Lib.byteCells Lib.strCells;rw[List.map_append]
 rw[e0];exact h2
theorem bstr (B b:Nat) (l:List UInt8) (w:World) (h:Bu B b l w) (hB:B<=w.heap.size):Calls Tryz.prog 80 #[ptr b] w fun e w'=>e=.returned (tx l)/\Below B w w' :=
 Any.Builder_String_any Tryz.lays169 Tryz.Builder_Extra_169 B b l w h hB
theorem flat_take {l:List Wf.V} {i:Nat} (hi:i<l.length):((l.take (i+1)).map Wf.V.bytes).flatten=((l.take i).map Wf.V.bytes).flatten++(l[i]).bytes:=by
 have e:l.take (i+1)=l.take i++[l[i]]:=by rw[List.take_add_one,zaV hi];rfl
 rw[e,List.map_append,List.flatten_append,zaX,List.map_nil,List.flatten_cons,List.flatten_nil,List.append_nil]
theorem flat_mem {l:List Wf.V} {v:Wf.V} (h:v∈l):v.bytes.length<=(l.map Wf.V.bytes).flatten.length:=by
 induction l with
 | nil=>cases h
 | cons a l ih =>
  rw[zaX,List.flatten_cons,zaD];rcases List.mem_cons.1 h with rfl|h
  ·omega
  ·have:=ih h;omega
theorem flat_take_le (l:List Wf.V) (i:Nat):((l.take i).map Wf.V.bytes).flatten.length<=(l.map Wf.V.bytes).flatten.length:=by
 conv=>rhs;rw[<-List.take_append_drop i l]
 rw[List.map_append,List.flatten_append,zaD];omega
theorem BOk.kid {what:UInt8} {text:List UInt8} {tag:Nat} {kids:List Wf.V} (h:Wf.BOk (.mk what text tag kids)) {u:Wf.V} (hu:u∈kids):Wf.BOk u:=by
 cases h with
 | mk _ _ _ _ _ _ _ h8=>exact h8 u hu
theorem BOk.len {what:UInt8} {text:List UInt8} {tag:Nat} {kids:List Wf.V} (h:Wf.BOk (.mk what text tag kids)):kids.length<=1000/\tag<=999999:=by
 cases h with
 | mk _ _ _ _ h5 h6 _ _=>exact⟨h6,h5⟩
theorem bytesI (v:Wf.V):∀ (hok:Wf.BOk v) (P:Nat->Prop) (cs:List Value) (W w:World),VC W P v cs->Below W.heap.size W w->v.bytes.length<=100000->Calls Tryz.prog 49 #[.agg cs.toArray] w fun e w'=>e=.returned (tx v.bytes)/\Below w.heap.size w w':=by
 refine Wf.V.induct (P:=fun v=>∀ (hok:Wf.BOk v) (P:Nat->Prop) (cs:List Value) (W w:World),VC W P v cs->Below W.heap.size W w->v.bytes.length<=100000->Calls Tryz.prog 49 #[.agg cs.toArray] w fun e w'=>e=.returned (tx v.bytes)/\Below w.heap.size w w') ?_ v;intro what text tag kids ih hok P cs W w HV hW hlen;obtain⟨a,c,rfl,hnc,hcm,hsh,hk⟩:=HV.form;simp only[Wf.V.what,Wf.V.text,Wf.V.tag,Wf.V.kids] at *;obtain⟨hkl,htag⟩:=BOk.len hok;obtain⟨n,hn⟩:∃ n,kids.length=n:=⟨_,rfl⟩;obtain⟨q,hq⟩:∃ q,what.toNat=q:=⟨_,rfl⟩;obtain⟨T,hT⟩:∃ T:ByteArray,(⟨text.toArray⟩:ByteArray)=T:=⟨_,rfl⟩;have hTl:T.data.toList=text:=by rw[<-hT]
 have hTs:T.size=text.length:=by rw[<-hT];rfl
 have HN:=hid hn;have HW:=hid hW;have HFC:=hid (Wf.bytes_by hok q hq);have hkb:∀ u,u∈kids->u.bytes.length<=100000->∀ (P:Nat->Prop) (cs:List Value) (W w:World),VC W P u cs->Below W.heap.size W w->Calls Tryz.prog 49 #[.agg cs.toArray] w fun e w'=>e=.returned (tx u.bytes)/\Below w.heap.size w w':=fun u hu hl P cs W w hv hb=>ih u hu (BOk.kid hok hu) P cs W w hv hb hl
 -- of the part at a place
 have KID:=hid fun(i:Nat) (hik:i<kids.length) (hbl:(kids[i]).bytes.length<=100000) (wr:World) (hwr:Below W.heap.size W wr)=>(show ∃ (b o q' n' c' g':Nat) (T':ByteArray) (a':Option Addr),a=some ⟨b,o,none⟩/\b<W.heap.size/\b<wr.heap.size/\wr.cell? ⟨b,o+i*4,none⟩=some (.int .u8 q')/\wr.cell? ⟨b,o+i*4+1,none⟩=some (.string T')/\wr.cell? ⟨b,o+i*4+2,none⟩=some (.int .i64 g')/\wr.cell? ⟨b,o+i*4+3,none⟩=some (.slice a' n' c')/\∀ wz,Below W.heap.size W wz->Calls Tryz.prog 49 #[.agg #[.int .u8 q',.string T',.int .i64 g',.slice a' n' c']] wz fun e w'=>e=.returned (tx (kids[i]).bytes)/\Below wz.heap.size wz w' from by
  rcases hk with h0|⟨b,o,ha,hPb,hbW,hvs⟩
  ·rw[h0] at hik;simp at hik
  obtain⟨cs',hvc,hcell⟩:=hvs.get i hik;obtain⟨a',c',rfl,hnc',hcm',hsh',hk'⟩:=hvc.form;refine⟨b,o,_,_,_,_,_,a',ha,hbW,zaC hbW hwr.size,?_,?_,?_,?_,fun wz hz=>hkb kids[i] (zaQ hik) hbl P _ W wz hvc hz⟩
  ·exact(hwr.cell (p:=⟨b,o+i*4,none⟩) hbW).trans (by have:=hcell 0 _ rfl;rwa[Nat.add_zero] at this)
  ·exact(hwr.cell (p:=⟨b,o+i*4+1,none⟩) hbW).trans (hcell 1 _ rfl)
  ·exact(hwr.cell (p:=⟨b,o+i*4+2,none⟩) hbW).trans (hcell 2 _ rfl)
  ·exact(hwr.cell (p:=⟨b,o+i*4+3,none⟩) hbW).trans (hcell 3 _ rfl))
 have BA:=hid ((Below.refl w.heap.size w).alloc (zaA) (.cells #[.int .u8 q,.string T,.int .i64 tag,.slice a n c] 51));rw[hn] at hnc hkl;unfold maxLen at hcm;simp only[tx,hT,hq,hn];have HNT:=hid fun(m:Nat) (hm:m<=999999) wz=>numText m hm wz;simp only[tx] at HNT;clear ih hkb hk hW hsh HV hT hq hok;rcases HFC.out with⟨rfl,m,hm,hmt,hp⟩|⟨rfl,ht12,hp⟩|⟨rfl,hty,hp⟩|⟨rfl,htn,hp⟩|⟨rfl,hp⟩|⟨rfl,h0,hp⟩|⟨rfl,u,hu,hp⟩|⟨rfl,hp⟩|⟨hq2,u,hu,hp⟩|⟨rfl,hp⟩;all_goals rw[hp] at hlen ⊢
 all_goals try rw[show((91:Nat):Int)=91 from rfl] at BA ⊢
 all_goals try rw[show((82:Nat):Int)=82 from rfl] at BA ⊢
 all_goals try rw[show((63:Nat):Int)=63 from rfl] at BA ⊢
 all_goals clear hp HFC
 ·have HPN:=hid fun wz=>pP T 999999 (zaA) wz
  rw[hTl,hmt,Wf.gQ hm hm,iB (Wf.gQ hm hm)] at HPN;have HPN2:=hid fun wz=>(HPN.out wz).mono (R':=fun e w'=>e=.returned (.tuple #[.int .i64 m,.bool true])/\wz=w') fun e w' h=>h;have HM:=hid (HNT.out m hm);clear HPN hTl hTs hmt HNT;go_enter Tryz.func49,Tryz.ntmps49;go_wp2_with (first|(go_at_call 77;refine(HM.out _).mono ?_;rintro e w3 ⟨rfl,hb3⟩;have B3:=hid (aC BA.out hb3);clear hb3)|(go_at_call 76;refine(HPN2.out _).mono ?_;rintro e w2 ⟨rfl,rfl⟩))
  go_ret
  exact⟨rfl,B3.out⟩
 ·have HS:=hid fun wz=>sized T (by omega) wz
  rw[hTl] at HS;simp only[tx] at HS;clear hTl hTs HNT;go_enter Tryz.func49,Tryz.ntmps49;go_wp2_with (go_at_call 78;refine(HS.out _).mono ?_;rintro e w3 ⟨rfl,hb3⟩;have B3:=hid (aC BA.out hb3);clear hb3)
  go_ret
  exact⟨rfl,B3.out⟩
 ·have hy:(T.toList==[121,101,115])=true:=by rw[zaZ,hTl,hty];rfl
  have hy2:(T.toList==(⟨#[121,101,115]⟩:ByteArray).toList)=true:=by rw[zaZ,zaZ,hTl,hty];rfl
  clear hTl hTs HNT hty;go_enter Tryz.func49,Tryz.ntmps49;go_wp2_with fail
  go_ret
  exact⟨rfl,BA.out⟩
 ·have hy:(T.toList==[121,101,115])=false:=by rw[zaZ,hTl,zaJ];exact htn
  have hy2:(T.toList==(⟨#[121,101,115]⟩:ByteArray).toList)=false:=by rw[zaZ,zaZ,hTl,zaJ];exact htn
  clear hTl hTs HNT htn;go_enter Tryz.func49,Tryz.ntmps49;go_wp2_with fail
  go_ret
  exact⟨rfl,BA.out⟩
 ·have hn1:n<=999999:=by omega
  have HM:=hid (HNT.out n hn1);rw[hn] at hlen ⊢;obtain⟨NB,hNB⟩:∃ NB:ByteArray,(⟨(Wf.putN n).toArray⟩:ByteArray)=NB:=⟨_,rfl⟩;have hNs:NB.size<=3:=by rw[<-hNB];exact(Wf.bZ n hn1).2
  have hNl:NB.data.toList=Wf.putN n:=by rw[<-hNB]
  have HNL:=hid hNl;rw[hNB] at HM;have hNl2:(Wf.putN n).length<=3:=(Wf.bZ n hn1).2;rw[zaD] at hlen;clear hTl hTs HNT hNl hn hNB;have hfl:=hid fun(i:Nat)=>flat_take_le kids i;have hfm:=hid fun(u:Wf.V) (h:u∈kids)=>flat_mem h;go_enter Tryz.func49,Tryz.ntmps49;go_wp2_with (first|(go_at_call 79;have _u:=B1;refine(wstr (w.heap.size+1) (w.heap.size+1) [] NB _ (U1.out) (by simp;omega) (by have:=U1.out.lt;omega)).mono ?_;rintro e w2 ⟨rfl,hu2,hb2⟩;have BU1:=hid (show Bu (w.heap.size+1) (w.heap.size+1) (Wf.putN n) w2 by rw[<-HNL.out];exact hu2);have BW1:=hid (B1.out.trans (hb2.mono (by omega)));have z3:w2.cell? ⟨w.heap.size,3,none⟩=some (.slice a n c):=(hb2.cell (p:=⟨w.heap.size,3,none⟩) (zaH _)).trans y3;have zl:w.heap.size<w2.heap.size:=zaC yl hb2.size;clear hu2 hb2)|(go_at_call 77;refine(HM.out _).mono ?_;rintro e w1 ⟨rfl,hb1⟩;have U1:=hid ((show Bu (w.heap.size+1) (w.heap.size+1) [] ((w.alloc (.cells #[.int .u8 91,.string T,.int .i64 tag,.slice a n c] 51)).alloc (.cells #[.pointer none,.slice none 0 0] 135)) from by have:=Bu.new (w.alloc (.cells #[.int .u8 91,.string T,.int .i64 tag,.slice a n c] 51));simpa using this).below hb1);have B1:=hid (aC (BA.out.alloc BA.out.size (.cells #[.pointer none,.slice none 0 0] 135)) hb1);have y3:w1.cell? ⟨w.heap.size,3,none⟩=some (.slice a n c):=(hb1.cell (p:=⟨w.heap.size,3,none⟩) (by simp;omega)).trans (by simp[go_sem]);have yl:w.heap.size<w1.heap.size:=zaC (by simp;omega) hb1.size;clear hb1))
  go_loopw [43] (fun sI wr=>∃ (i:Nat),sI=.int .i64 i/\i<=n/\Hid (Bu (w.heap.size+1) (w.heap.size+1) (Wf.putN n++((kids.take i).map Wf.V.bytes).flatten) wr/\Below w.heap.size w wr)) (fun sI _=>n-(RowKit.intOf sI).toNat)
  case atStart=>exact⟨0,rfl,Nat.zero_le _,hid ⟨by simpa using BU1.out,BW1.out⟩⟩
  case round =>
   obtain⟨i,rfl,hi,hh⟩:=hrel;have BW:=hid (HW.out.trans (hh.out.2.mono HW.out.size));by_cases hlt:i<n
   ·have hik:i<kids.length:=by rw[HN.out];exact hlt
    have hkl1:=hfm.out _ (zaQ hik);obtain⟨b,o,q',n',c',g',T',a',rfl,hbW,hb,k0,k1,k2,k3,hrec⟩:=KID.out i hik (by omega) wr BW.out;obtain⟨R,hR⟩:∃ R:ByteArray,(⟨(kids[i]).bytes.toArray⟩:ByteArray)=R:=⟨_,rfl⟩;have hRs:R.size=(kids[i]).bytes.length:=(by rw[<-hR];rfl);have HFT:=hid (show((kids.take (i+1)).map Wf.V.bytes).flatten=((kids.take i).map Wf.V.bytes).flatten++R.data.toList by rw[flat_take hik,<-hR]);have hfl1:=hfl.out i;have HLE:=hid (show(Wf.putN n++((kids.take i).map Wf.V.bytes).flatten).length+R.size<=1000000000 by(try simp only[zaD] at hlen ⊢);omega);simp only[tx,hR] at hrec;have HR:=hid hrec;clear hrec hR hRs hkl1 hfl1;go_wp2_with (first|(go_at_call 79;have _u:=B2;refine(wstr (w.heap.size+1) (w.heap.size+1) _ R _ (hh.out.1.below B2.out) HLE.out (by have h1:=hh.out.1.lt;have:=B2.out.size;omega)).mono ?_;rintro e w3 ⟨rfl,hu3,hb3⟩;have U3:=hid hu3;have B3:=hid hb3;clear hu3 hb3)|(go_at_call 49;refine(HR.out _ (BW.out.trans (((zaB).alloc (zaA) _).mono BW.out.size))).mono ?_;rintro e w2 ⟨rfl,hb2⟩;have B2:=hid (aC ((Below.refl wr.heap.size wr).alloc (zaA) _) hb2);clear hb2))
    go_roundw
    case rel=>exact⟨i+1,by go_num,by omega,hid ⟨by rw[HFT.out];simpa only [zaT] using U3.out,hh.out.2.trans ((B2.out.mono hh.out.2.size).trans (B3.out.mono (by omega)))⟩⟩
    case measure=>simp[RowKit.intOf];omega
   ·have hin:n=i:=by omega
    subst hin;have HTK:=hid (show kids.take n=kids from zaS (by rw[HN.out];exact zaA));have HU:=hid (by rw[HTK.out] at hh;exact hh.out.1:Bu (w.heap.size+1) (w.heap.size+1) (Wf.putN n++(kids.map Wf.V.bytes).flatten) wr);go_wp2_with (go_at_call 80;refine(bstr (w.heap.size+1) (w.heap.size+1) _ _ HU.out (by have:=HU.out.lt;omega)).mono ?_;rintro e w2 ⟨rfl,hb2⟩;have B2:=hid hb2;clear hb2)
    go_ret
    exact⟨rfl,hh.out.2.trans (B2.out.mono (by omega))⟩
 ·subst h0
  obtain rfl:n=0:=by rw[<-hn];rfl
  clear hTl hTs HNT hn;go_enter Tryz.func49,Tryz.ntmps49;go_wp2_with fail
  go_ret
  exact⟨rfl,BA.out⟩
 ·subst hu
  obtain rfl:n=1:=by rw[<-hn];rfl
  rw[zaF] at hlen;obtain⟨b,o,q',n',c',g',T',a',rfl,hbW,hb,k0,k1,k2,k3,hrec⟩:=KID.out 0 (by simp) (by show u.bytes.length<=_;omega) _ (HW.out.trans (BA.out.mono HW.out.size));rw[Nat.zero_mul,Nat.add_zero] at k0 k1 k2 k3;obtain⟨R,hR⟩:∃ R:ByteArray,(⟨u.bytes.toArray⟩:ByteArray)=R:=⟨_,rfl⟩;have hRs:R.size=u.bytes.length:=by rw[<-hR];rfl
  have HR:=hid fun wz hz=>(hrec wz hz).mono (R':=fun e w'=>e=.returned (.string R)/\Below wz.heap.size wz w') fun e w' h=>⟨by rw[h.1,<-hR];rfl,h.2⟩;have HF:=hid (show(⟨(1::u.bytes).toArray⟩:ByteArray)=⟨#[1]⟩++R from((aQ (⟨#[1]⟩++R) _).2 (by rw[zaU,zaW,<-hR];rfl)).symm);have a1:=fun wz=>zbH (P:=Tryz.prog) (w:=wz) ⟨#[1]⟩ R (by show 1+R.size<=_;omega);clear hTl hTs HNT hn hrec hR hRs;go_enter Tryz.func49,Tryz.ntmps49;go_wp2_with (go_at_call 49;refine(HR.out _ (HW.out.trans (BA.out.mono HW.out.size))).mono ?_;rintro e w2 ⟨rfl,hb2⟩;have B2:=hid (aC BA.out hb2);clear hb2)
  go_ret
  exact⟨aX HF.out.symm,B2.out⟩
 ·have HM:=hid (HNT.out tag htag)
  clear hTl hTs HNT hn;go_enter Tryz.func49,Tryz.ntmps49;go_wp2_with (go_at_call 77;refine(HM.out _).mono ?_;rintro e w3 ⟨rfl,hb3⟩;have B3:=hid (aC BA.out hb3);clear hb3)
  go_ret
  exact⟨rfl,B3.out⟩
 ·subst hu
  obtain rfl:n=1:=by rw[<-hn];rfl
  have hul:u.bytes.length<=100000:=by simp only[zaD] at hlen;omega
  obtain⟨b,o,q',n',c',g',T',a',rfl,hbW,hb,k0,k1,k2,k3,hrec⟩:=KID.out 0 (by simp) hul _ (HW.out.trans (BA.out.mono HW.out.size));rw[Nat.zero_mul,Nat.add_zero] at k0 k1 k2 k3;obtain⟨R,hR⟩:∃ R:ByteArray,(⟨u.bytes.toArray⟩:ByteArray)=R:=⟨_,rfl⟩;have hRs:R.size=u.bytes.length:=by rw[<-hR];rfl
  have hRl:R.data.toList=u.bytes:=by rw[<-hR]
  obtain⟨D,hD⟩:∃ D:ByteArray,(⟨(Wf.putN tag).toArray⟩:ByteArray)=D:=⟨_,rfl⟩;have hDs:D.size<=3:=by rw[<-hD];exact(Wf.bZ tag htag).2
  obtain⟨Z,hZ⟩:∃ Z:ByteArray,(⟨(Wf.putN u.bytes.length++u.bytes).toArray⟩:ByteArray)=Z:=⟨_,rfl⟩;have hZs:Z.size<=100003:=by rw[<-hZ];show(Wf.putN u.bytes.length++u.bytes).length<=_;rw[zaD];have:=(Wf.bZ u.bytes.length (by omega)).2;omega
  have HM:=hid (HNT.out tag htag);rw[hD] at HM;have HS:=hid fun wz=>sized R (by omega) wz;rw[hRl] at HS;simp only[tx,hZ] at HS;have HR:=hid fun wz hz=>(hrec wz hz).mono (R':=fun e w'=>e=.returned (.string R)/\Below wz.heap.size wz w') fun e w' h=>⟨by rw[h.1,<-hR];rfl,h.2⟩;have HF:=hid (show(⟨(Wf.putN tag++(Wf.putN u.bytes.length++u.bytes)).toArray⟩:ByteArray)=D++Z from((aQ (D++Z) _).2 (by rw[zaU,zaW,<-hD,<-hZ])).symm);have a1:=fun wz=>zbH (P:=Tryz.prog) (w:=wz) D Z (by omega);have y2:(w.alloc (.cells #[.int .u8 q,.string T,.int .i64 tag,.slice (some ⟨b,o,none⟩) 1 c] 51)).cell? ⟨w.heap.size,2,none⟩=some (.int .i64 tag):=by simp[go_sem]
  have y3:(w.alloc (.cells #[.int .u8 q,.string T,.int .i64 tag,.slice (some ⟨b,o,none⟩) 1 c] 51)).cell? ⟨w.heap.size,3,none⟩=some (.slice (some ⟨b,o,none⟩) 1 c):=by simp[go_sem]
  have yl:w.heap.size<(w.alloc (.cells #[.int .u8 q,.string T,.int .i64 tag,.slice (some ⟨b,o,none⟩) 1 c] 51)).heap.size:=by simp
  clear hTl hTs HNT hn hrec hR hRs hRl hD hZ KID;rcases hq2 with rfl|rfl;all_goals
   go_enter Tryz.func49,Tryz.ntmps49;go_wp2_with fail
   try rw[show((85:Nat):Int)=85 from rfl] at BA y2 y3 yl k0 k1 k2 k3 hb
   try rw[show((61:Nat):Int)=61 from rfl] at BA y2 y3 yl k0 k1 k2 k3 hb
   generalize hW1:w.alloc _=W1 at BA y2 y3 yl k0 k1 k2 k3 hb ⊢;have F:=hid fun(wz:World) (hz:Below W1.heap.size W1 wz)=>(show wz.cell? ⟨w.heap.size,2,none⟩=some (.int .i64 tag)/\wz.cell? ⟨w.heap.size,3,none⟩=some (.slice (some ⟨b,o,none⟩) 1 c)/\wz.cell? ⟨b,o,none⟩=some (.int .u8 q')/\wz.cell? ⟨b,o+1,none⟩=some (.string T')/\wz.cell? ⟨b,o+2,none⟩=some (.int .i64 g')/\wz.cell? ⟨b,o+3,none⟩=some (.slice a' n' c') from⟨(hz.cell (p:=⟨w.heap.size,2,none⟩) yl).trans y2,(hz.cell (p:=⟨w.heap.size,3,none⟩) yl).trans y3,(hz.cell (p:=⟨b,o,none⟩) hb).trans k0,(hz.cell (p:=⟨b,o+1,none⟩) hb).trans k1,(hz.cell (p:=⟨b,o+2,none⟩) hb).trans k2,(hz.cell (p:=⟨b,o+3,none⟩) hb).trans k3⟩);clear hW1;go_region_held3 (fun w'=>w'.cell? ⟨w.heap.size,2,none⟩=some (.int .i64 tag)/\w'.cell? ⟨w.heap.size,3,none⟩=some (.slice (some ⟨b,o,none⟩) 1 c)/\w'.cell? ⟨b,o,none⟩=some (.int .u8 q')/\w'.cell? ⟨b,o+1,none⟩=some (.string T')/\w'.cell? ⟨b,o+2,none⟩=some (.int .i64 g')/\w'.cell? ⟨b,o+3,none⟩=some (.slice a' n' c')) (first|exact FZ.out|exact FD.out|exact FB.out|go_keep) (first|(go_at_call 78;have _u:=TB;refine(HS.out _).mono ?_;rintro e w4 ⟨rfl,hb4⟩;have TZ:=hid (show Below W1.heap.size W1 w4 by first|exact TD.out.trans (hb4.mono TD.out.size)|exact TB.out.trans (hb4.mono TB.out.size));have FZ:=hid (F.out _ TZ.out);clear hb4)|(go_at_call 77;refine(HM.out _).mono ?_;rintro e w3 ⟨rfl,hb3⟩;have TD:=hid (show Below W1.heap.size W1 w3 by first|exact TZ.out.trans (hb3.mono TZ.out.size)|exact TB.out.trans (hb3.mono TB.out.size)|(refine Below.trans (b:=_) ?_ hb3;repeat (first|with_reducible exact zaB|with_reducible refine zbE ?_)));have FD:=hid (F.out _ TD.out);clear hb3)|(go_at_call 49;refine(HR.out _ (HW.out.trans (Below.mono (BA.out.trans (by first|exact TD.out.mono BA.out.size|(refine Below.mono (B:=W1.heap.size) ?_ BA.out.size;repeat (first|with_reducible exact zaB|with_reducible refine zbE ?_)))) HW.out.size))).mono ?_;rintro e w2 ⟨rfl,hb2⟩;have TB:=hid (show Below W1.heap.size W1 w2 by first|exact TD.out.trans (hb2.mono TD.out.size)|(refine Below.trans (b:=_) ?_ hb2;repeat (first|with_reducible exact zaB|with_reducible refine zbE ?_)));have FB:=hid (F.out _ TB.out);clear hb2))
   all_goals go_wp2_with fail
   all_goals go_ret
   all_goals exact⟨aX HF.out.symm,by first|exact BA.out.trans (TZ.out.mono BA.out.size)|exact BA.out.trans (TD.out.mono BA.out.size)⟩
 ·rw[zaD] at hlen
  clear hTl hTs HNT hn;have hfl:=hid fun(i:Nat)=>flat_take_le kids i;have hfm:=hid fun(u:Wf.V) (h:u∈kids)=>flat_mem h;have U1:=hid (show Bu (w.heap.size+1) (w.heap.size+1) [] ((w.alloc (.cells #[.int .u8 82,.string T,.int .i64 tag,.slice a n c] 51)).alloc (.cells #[.pointer none,.slice none 0 0] 135)) from by have:=Bu.new (w.alloc (.cells #[.int .u8 82,.string T,.int .i64 tag,.slice a n c] 51));simpa using this);have BU1:=U1;have BW1:=hid (BA.out.alloc BA.out.size (.cells #[.pointer none,.slice none 0 0] 135));go_enter Tryz.func49,Tryz.ntmps49;go_wp2_with fail
  go_loopw [85] (fun sI wr=>∃ (i:Nat),sI=.int .i64 i/\i<=n/\Hid (Bu (w.heap.size+1) (w.heap.size+1) (((kids.take i).map Wf.V.bytes).flatten) wr/\Below w.heap.size w wr)) (fun sI _=>n-(RowKit.intOf sI).toNat)
  case atStart=>exact⟨0,rfl,Nat.zero_le _,hid ⟨by simpa using BU1.out,BW1.out⟩⟩
  case round =>
   obtain⟨i,rfl,hi,hh⟩:=hrel;have BW:=hid (HW.out.trans (hh.out.2.mono HW.out.size));by_cases hlt:i<n
   ·have hik:i<kids.length:=by rw[HN.out];exact hlt
    have hkl1:=hfm.out _ (zaQ hik);obtain⟨b,o,q',n',c',g',T',a',rfl,hbW,hb,k0,k1,k2,k3,hrec⟩:=KID.out i hik (by omega) wr BW.out;obtain⟨R,hR⟩:∃ R:ByteArray,(⟨(kids[i]).bytes.toArray⟩:ByteArray)=R:=⟨_,rfl⟩;have hRs:R.size=(kids[i]).bytes.length:=(by rw[<-hR];rfl);have HFT:=hid (show((kids.take (i+1)).map Wf.V.bytes).flatten=((kids.take i).map Wf.V.bytes).flatten++R.data.toList by rw[flat_take hik,<-hR]);have hfl1:=hfl.out i;have HLE:=hid (show(((kids.take i).map Wf.V.bytes).flatten).length+R.size<=1000000000 by(try simp only[zaD] at hlen ⊢);omega);simp only[tx,hR] at hrec;have HR:=hid hrec;clear hrec hR hRs hkl1 hfl1;go_wp2_with (first|(go_at_call 79;have _u:=B2;refine(wstr (w.heap.size+1) (w.heap.size+1) _ R _ (hh.out.1.below B2.out) HLE.out (by have h1:=hh.out.1.lt;have:=B2.out.size;omega)).mono ?_;rintro e w3 ⟨rfl,hu3,hb3⟩;have U3:=hid hu3;have B3:=hid hb3;clear hu3 hb3)|(go_at_call 49;refine(HR.out _ (BW.out.trans (((zaB).alloc (zaA) _).mono BW.out.size))).mono ?_;rintro e w2 ⟨rfl,hb2⟩;have B2:=hid (aC ((Below.refl wr.heap.size wr).alloc (zaA) _) hb2);clear hb2))
    go_roundw
    case rel=>exact⟨i+1,by go_num,by omega,hid ⟨by rw[HFT.out];simpa only [zaT] using U3.out,hh.out.2.trans ((B2.out.mono hh.out.2.size).trans (B3.out.mono (by omega)))⟩⟩
    case measure=>simp[RowKit.intOf];omega
   ·have hin:n=i:=by omega
    subst hin;have HTK:=hid (show kids.take n=kids from zaS (by rw[HN.out];exact zaA));have HU:=hid (by rw[HTK.out] at hh;exact hh.out.1:Bu (w.heap.size+1) (w.heap.size+1) ((kids.map Wf.V.bytes).flatten) wr);obtain⟨R,hR⟩:∃ R:ByteArray,(⟨((kids.map Wf.V.bytes).flatten).toArray⟩:ByteArray)=R:=⟨_,rfl⟩;have hRs:R.size=(kids.map Wf.V.bytes).flatten.length:=(by rw[<-hR];rfl);have HF:=hid (show(⟨((kids.map Wf.V.bytes).flatten++[0]).toArray⟩:ByteArray)=R++⟨#[0]⟩ from((aQ (R++⟨#[0]⟩) _).2 (by rw[zaU,zaW,<-hR])).symm);have a1:=fun wz=>zbH (P:=Tryz.prog) (w:=wz) R ⟨#[0]⟩ (by show R.size+1<=_;omega);have HBS:=hid fun wz (h1:Bu (w.heap.size+1) (w.heap.size+1) (kids.map Wf.V.bytes).flatten wz) h2=>(bstr (w.heap.size+1) (w.heap.size+1) _ wz h1 h2).mono (R':=fun e w'=>e=.returned (.string R)/\Below (w.heap.size+1) wz w') fun e w' h=>⟨by rw[h.1,<-hR],h.2⟩;clear hR hRs;go_wp2_with (go_at_call 80;refine(HBS.out _ HU.out (by have:=HU.out.lt;omega)).mono ?_;rintro e w2 ⟨rfl,hb2⟩;have B2:=hid hb2;clear hb2)
    go_ret
    exact⟨aX HF.out.symm,hh.out.2.trans (B2.out.mono (by omega))⟩

def bytesVal (l kt s:List UInt8):Option (List UInt8):=(valOf l kt s).map fun y=>y.2.bytes
theorem bytesVal_len {l kt s b:List UInt8} (h:bytesVal l kt s=some b):b.length<=400:=by
 unfold bytesVal at h;cases hv:valOf l kt s with
 | none=>rw[hv] at h;cases h
 | some y =>
  rw[hv] at h;simp only[zaL,zaE] at h;subst h;obtain⟨_,h2⟩:=lI hv;obtain⟨ht,hs,hl⟩:=Wf.kA h2;have:=Wf.eK 12 _ _ ht (by rw[<-hs];omega);rw[<-hs] at this;exact zaI this hl

theorem toBytes_i (v:Wf.V) (hok:Wf.BOk v) (P:Nat->Prop) (q g n c:Nat) (T:ByteArray) (sa:Option Addr) (W w:World) (hv:VC W P v [.int .u8 q,.string T,.int .i64 g,.slice sa n c]) (hb:Below W.heap.size W w) (hl:v.bytes.length<=400) :
  Calls Tryz.prog 28 #[.agg #[.int .u8 q,.string T,.int .i64 g,.slice sa n c]] w fun e w'=>e=.returned (vfV (some v.bytes))/\Below w.heap.size w w':=by
 have HB:=hid fun(w2:World) (h2:Below W.heap.size W w2)=>bytesI v hok P _ W w2 hv h2 (by omega);obtain⟨B,hB⟩:∃ B:ByteArray,(⟨v.bytes.toArray⟩:ByteArray)=B:=⟨_,rfl⟩;have hBs:B.size<=400:=by rw[<-hB];exact hl
 have HF:=hid (show vfV (some v.bytes)=.tuple #[.string B,.bool true] by rw[<-hB];rfl);have HW:=hid hb;simp only[tx,hB] at HB;clear hv hb hok hl hB;go_enter Tryz.func28,Tryz.ntmps28;go_wp2_with (go_at_call 49;refine(HB.out _ (HW.out.alloc HW.out.size _)).mono ?_;rintro e w2 ⟨rfl,hb2⟩;have B2:=hid (aC ((Below.refl w.heap.size w).alloc (zaA) _) hb2);clear hb2)
 go_ret2
 exact⟨by rw[HF.out];rfl,B2.out⟩
theorem bytesPut_i (s kt v:ByteArray) (m:Int) (w:World) (hm:ML m w) (hs:s.size<=1048576) (hkt:kt.size<=1048576) (hv:v.size<=1048576):Calls Tryz.prog 11 #[.string s,.string kt,.string v] w fun e w'=>e=.returned (vfV (bytesVal s.data.toList kt.data.toList v.data.toList))/\Below w.heap.size w w':=by
 have HG:=hid (given s kt v m w hm hs hkt hv);clear hm;cases hvo:valOf s.data.toList kt.data.toList v.data.toList with
 | none =>
  have HO:=hid fun lo e w' (h:bC s.data.toList kt.data.toList v.data.toList lo e w')=>(by unfold bC at h;rw[hvo] at h;exact h:∃ p a b c,e=.returned (.tuple #[.pointer p,.agg #[.string a,.string b,.string c],.agg #[.int .u8 0,.string ⟨#[]⟩,.int .i64 0,.slice none 0 0],.bool false]));have HD:=hid (show vfV (bytesVal s.data.toList kt.data.toList v.data.toList)=.tuple #[.string ⟨#[]⟩,.bool false] by unfold bytesVal;rw[hvo];rfl);clear hvo;go_enter Tryz.func11,Tryz.ntmps11;go_wp2_with (go_at_call 27;refine HG.out.mono ?_;rintro e w2 ⟨ho,hb2⟩;obtain⟨p,a,b,c,rfl⟩:=HO.out _ _ _ ho;have HB2:=hid hb2;clear ho hb2)
  go_ret2
  exact⟨by rw[HD.out];rfl,by have B:=HB2.out;have hB:=B.size;repeat (first|with_reducible exact B|with_reducible refine zbE ?_|with_reducible refine zbF ?_ (by simp) _|with_reducible refine zbG ?_ (by first|exact B.size|(simp;omega)) _)⟩
 | some y =>
  have HO:=hid fun lo e w' (h:bC s.data.toList kt.data.toList v.data.toList lo e w')=>(by unfold bC at h;rw[hvo] at h;exact h:∃ sb cs,e=.returned (.tuple #[ptr sb,kV y.1.2,.agg cs.toArray,.bool true])/\ScL w' lo sb y.1.1/\VC w' (fun b=>lo<=b) y.2 cs);have hbv:bytesVal s.data.toList kt.data.toList v.data.toList=some y.2.bytes:=by unfold bytesVal;rw[hvo];rfl
  have hl:=bytesVal_len hbv;have hok:=Wf.typed_bok 12 _ _ (Wf.kA (lI hvo).2).1;have HTB:=hid fun(P:Nat->Prop) (q g n c:Nat) (T:ByteArray) (sa:Option Addr) (W2 w2:World) (hv:VC W2 P y.2 [.int .u8 q,.string T,.int .i64 g,.slice sa n c]) (hb:Below W2.heap.size W2 w2)=>toBytes_i y.2 hok P q g n c T sa W2 w2 hv hb hl;obtain⟨R,hR⟩:∃ R:ByteArray,(⟨y.2.bytes.toArray⟩:ByteArray)=R:=⟨_,rfl⟩;have HD:=hid (show vfV (bytesVal s.data.toList kt.data.toList v.data.toList)=.tuple #[.string R,.bool true] by rw[hbv,<-hR];rfl);rw[show vfV (some y.2.bytes)=.tuple #[.string R,.bool true] by rw[<-hR];rfl] at HTB;obtain⟨SG,hSG⟩:∃ SG:ByteArray,(⟨y.1.2.signs.toArray⟩:ByteArray)=SG:=⟨_,rfl⟩;obtain⟨BS,hBS⟩:∃ BS:ByteArray,(⟨y.1.2.base.toArray⟩:ByteArray)=BS:=⟨_,rfl⟩;obtain⟨NM,hNM⟩:∃ NM:ByteArray,(⟨y.1.2.name.toArray⟩:ByteArray)=NM:=⟨_,rfl⟩;have hkv:kV y.1.2=.agg #[.string SG,.string BS,.string NM]:=by simp only[kV,tx,hSG,hBS,hNM]
  rw[hkv] at HO;clear hvo hbv hl hok hR hSG hBS hNM hkv;go_enter Tryz.func11,Tryz.ntmps11;go_wp2_with (first|(go_at_call 28;have _u:=HVC;refine(HTB.out _ q g n d T sa w2 _ HVC.out (((zaB).alloc (zaA) _).alloc (by simp) _)).mono ?_;rintro e w3 ⟨rfl,hb3⟩;have B3:=hid (aC (((Below.refl w2.heap.size w2).alloc (zaA) _).alloc (by simp) _) hb3);clear hb3)|(go_at_call 27;refine HG.out.mono ?_;rintro e w2 ⟨ho,hb2⟩;obtain⟨sb,cs,rfl,_,hvc⟩:=HO.out _ _ _ ho;obtain⟨q,g,n,d,T,sa,rfl⟩:=hvc.aY;have HVC:=hid hvc;have HB2:=hid hb2;clear ho hb2 hvc))
  go_ret2
  exact⟨by rw[HD.out];rfl,HB2.out.trans (B3.out.mono HB2.out.size)⟩

def getIn (l kt s:List UInt8):Option (List UInt8):=(aV l kt).bind fun y=>(Wf.getVal y.1 y.2 s).map Wf.V.print
def canonI (l kt s:List UInt8):Bool:=match aV l kt with|some y=>Wf.canonB y.1 y.2 s|none=>false

theorem bytesGet_i (s kt v:ByteArray) (m:Int) (w:World) (hm:ML m w) (hs:s.size<=1048576) (hkt:kt.size<=1048576) (hv:v.size<=1048576):Calls Tryz.prog 13 #[.string s,.string kt,.string v] w fun e w'=>e=.returned (vfV (getIn s.data.toList kt.data.toList v.data.toList))/\Below w.heap.size w w':=by
 have HBO:=hid (both s kt m w hm hs hkt);clear hm;cases hty:aV s.data.toList kt.data.toList with
 | none =>
  have HTY:=hid hty;have HF:=hid (show vfV (getIn s.data.toList kt.data.toList v.data.toList)=.tuple #[.string ⟨#[]⟩,.bool false] by unfold getIn;rw[hty];rfl);clear hty;go_enter Tryz.func13,Tryz.ntmps13;go_wp2_with (go_at_call 31;refine HBO.out.mono ?_;rintro e w2 ⟨ho,hb2⟩;obtain⟨p,ka,kb,kc,rfl⟩:=ho.no HTY.out;have HB2:=hid hb2;clear ho hb2)
  go_ret2
  exact⟨by rw[HF.out];rfl,by have B:=HB2.out;repeat (first|with_reducible exact B|with_reducible refine zbE ?_|with_reducible refine zbF ?_ (by simp) _|with_reducible refine zbG ?_ (by first|exact B.size|(simp;done)|(simp;omega)|omega) _)⟩
 | some y =>
  obtain⟨hx,hk⟩:=gW hty;obtain⟨x,k⟩:=y;have HTY:=hid hty;have hve:tx v.data.toList=.string v:=by rw[tx,Array.toArray_toList]
  have hvl:v.data.toList.length<=9000000:=by rw[aE];omega
  have HFB:=hid fun(lo sb:Nat) (W wz:World) (hW:Below W.heap.size W wz) (H:ScL W lo sb x)=>fromBytes x k sb v.data.toList W wz hx lo H hk hvl hW;have HG:=hid (show getIn s.data.toList kt.data.toList v.data.toList=(Wf.getVal x k v.data.toList).map Wf.V.print by unfold getIn;rw[hty];rfl);obtain⟨SG,hSG⟩:∃ SG:ByteArray,(⟨k.signs.toArray⟩:ByteArray)=SG:=⟨_,rfl⟩;obtain⟨BS,hBS⟩:∃ BS:ByteArray,(⟨k.base.toArray⟩:ByteArray)=BS:=⟨_,rfl⟩;obtain⟨NM,hNM⟩:∃ NM:ByteArray,(⟨k.name.toArray⟩:ByteArray)=NM:=⟨_,rfl⟩;have HKV:=hid (show kV k=.agg #[.string SG,.string BS,.string NM] by simp only[kV,tx,hSG,hBS,hNM]);rw[HKV.out,hve] at HFB;clear hty hve hvl hSG hBS hNM hx hk;cases hgv:Wf.getVal x k v.data.toList with
  | none =>
   have HF:=hid (show vfV (getIn s.data.toList kt.data.toList v.data.toList)=.tuple #[.string ⟨#[]⟩,.bool false] by rw[HG.out,hgv];rfl);have HO:=hid fun(w1:World) (e:Ending) (w':World) (h:FbOut x k v.data.toList w1 e w')=>(by unfold FbOut at h;rw[hgv] at h;exact h:e=.returned (.tuple #[.agg #[.int .u8 0,.string ⟨#[]⟩,.int .i64 0,.slice none 0 0],.slice none 0 0,.bool false]));clear hgv;go_enter Tryz.func13,Tryz.ntmps13;go_wp2_with (first|(go_at_call 32;have _u:=HSL;refine(HFB.out _ _ w2 _ (by have B:=Below.refl w2.heap.size w2;repeat (first|with_reducible exact B|with_reducible refine zbE ?_|with_reducible refine zbG ?_ (by first|exact B.size|(simp;done)|(simp;omega)|omega) _)) HSL.out).mono ?_;rintro e w3 ⟨ho3,hb3⟩;obtain rfl:=HO.out _ _ _ ho3;have HB3:=hid (HB2.out.trans ((aC ((Below.refl w2.heap.size w2).alloc (zaA) _) hb3).mono HB2.out.size));clear ho3 hb3)|(go_at_call 31;refine HBO.out.mono ?_;rintro e w2 ⟨ho,hb2⟩;obtain⟨sb,rfl,hsl⟩:=ho.yes HTY.out;rw[HKV.out];have HSL:=hid hsl;have HB2:=hid hb2;clear ho hb2 hsl))
   go_ret2
   exact⟨by rw[HF.out];rfl,by have B:=HB3.out;repeat (first|with_reducible exact B|with_reducible refine zbE ?_|with_reducible refine zbF ?_ (by simp) _|with_reducible refine zbG ?_ (by first|exact B.size|(simp;done)|(simp;omega)|omega) _)⟩
  | some u =>
   obtain⟨T,hT⟩:∃ T:ByteArray,(⟨u.print.toArray⟩:ByteArray)=T:=⟨_,rfl⟩;have HF:=hid (show vfV (getIn s.data.toList kt.data.toList v.data.toList)=.tuple #[.string T,.bool true] by rw[HG.out,hgv,<-hT];rfl);have HO:=hid fun(w1:World) (e:Ending) (w':World) (h:FbOut x k v.data.toList w1 e w')=>(by unfold FbOut at h;rw[hgv] at h;obtain⟨cs,sk,h1,h2,_⟩:=h;exact⟨cs,sk,h1,h2⟩:∃ cs sk,e=.returned (.tuple #[.agg cs.toArray,sk,.bool true])/\VC w' (fun b=>w1.heap.size<=b) u cs);have hp:=(Wf.getVal_some hgv).2.2.1;have HP:=hid fun(P:Nat->Prop) (cs:List Value) (W wz:World) (h1:VC W P u cs) (h2:Below W.heap.size W wz)=>(by have h:=print u P cs W wz h1 h2 (by omega);rw[tx,hT] at h;exact h:Calls Tryz.prog 33 #[.agg cs.toArray] wz fun e w'=>e=.returned (.string T)/\Below wz.heap.size wz w');clear hgv hT hp;go_enter Tryz.func13,Tryz.ntmps13;go_wp2_with (first|(go_at_call 33;have _u:=HVC;refine(HP.out _ [.int .u8 u0,.string T2,.int .i64 u1,.slice a2 u2 u3] w3 _ HVC.out ((zaB).alloc (zaA) _)).mono ?_;rintro e w4 ⟨rfl,hb4⟩;have HB4:=hid (HB3.out.trans ((aC ((Below.refl w3.heap.size w3).alloc (zaA) _) hb4).mono HB3.out.size));clear hb4)|(go_at_call 32;have _u:=HSL;refine(HFB.out _ _ w2 _ (by have B:=Below.refl w2.heap.size w2;repeat (first|with_reducible exact B|with_reducible refine zbE ?_|with_reducible refine zbG ?_ (by first|exact B.size|(simp;done)|(simp;omega)|omega) _)) HSL.out).mono ?_;rintro e w3 ⟨ho3,hb3⟩;obtain⟨cs,sk,rfl,hvc⟩:=HO.out _ _ _ ho3;obtain⟨u0,u1,u2,u3,T2,a2,rfl⟩:=hvc.aY;have HVC:=hid hvc;have HB3:=hid (HB2.out.trans ((aC ((Below.refl w2.heap.size w2).alloc (zaA) _) hb3).mono HB2.out.size));clear ho3 hb3 hvc)|(go_at_call 31;refine HBO.out.mono ?_;rintro e w2 ⟨ho,hb2⟩;obtain⟨sb,rfl,hsl⟩:=ho.yes HTY.out;rw[HKV.out];have HSL:=hid hsl;have HB2:=hid hb2;clear ho hb2 hsl))
   go_ret2
   exact⟨by rw[HF.out];rfl,by have B:=HB4.out;repeat (first|with_reducible exact B|with_reducible refine zbE ?_|with_reducible refine zbF ?_ (by simp) _|with_reducible refine zbG ?_ (by first|exact B.size|(simp;done)|(simp;omega)|omega) _)⟩

def skipIn (l kt s:List UInt8):Option (List Nat):=(aV l kt).bind fun y=>(Wf.recTy y.1 y.2).bind fun t=>(Wf.getVal y.1 y.2 s).bind fun _=>(Wf.getFields y.1 t (fun k' s'=>Wf.getB y.1 12 k' s') s.length 0 s).map fun z=>z.2.1
