/- Packed. -/
import Derived.Test.YtidjpalnmnehmaaGreatDoorG27
import Derived.WalkSmall
import Derived.Lib.PathFns
import Derived.Test.YtidjpalnmnehmaaGreatDoorG3
import Derived.Laws.Cover1
set_option maxRecDepth 99999
set_option maxHeartbeats 40000000
set_option linter.all false
namespace Go.Proofs.YtidjpalnmnehmaaGreatDoor
open Go.ChangeShapes Go.WideShapes Go.ChangeAt Go.RowKit Go.Lib
section
variable (x:Wf.Sc) (rb sb:Nat) (W:World) (n:Nat) (t:Wf.Ty) (nm:List UInt8) (w:World)
def Rel (x:Wf.Sc) (t:Wf.Ty) (n rb sb:Nat) (w wr:World) (r cur:List UInt8) (last:Nat) (a:Option Addr) (c:Nat) (l:List Wf.V) (es:List (List Value)):Prop :=
 Rst rb sb w wr cur false a c l es/\Wf.pl l+cur.length=r.length/\Wf.bX x t (fun k' s'=>Wf.parse x n k' s') [] 0 r=Wf.bX x t (fun k' s'=>Wf.parse x n k' s') l last cur
theorem nF (hx:Wf.ScOk x) (htx:t∈x) (r:List UInt8) (hr:r.head? ≠ some 125) (hf:x.find nm=some t) (ht:t.fields.length<=1000) (lo tb:Nat) (hW:Below W.heap.size W w) (hsc:ScL W lo sb x) (hT:TyL W lo tb t) (h82:t.sort=82) (hWr:W.heap.size<=rb) (IH:∀ f∈t.fields,Reads x rb sb W n f.kind) (hn:r.length<n) (h400:r.length<=400) (H:Sn w rb sb (123::r) false):Calls Tryz.prog 116 #[ptr rb,ptr tb] w fun e w'=>aP (Wf.parse x (n+1) (.ref nm) (123::r)) (123::r) rb sb w e w':=by
 have HP:=hid (Wf.tA x n hf h82 hr);have HN:=hid fun hp=>hr ((pre1 125 r).1 hp);obtain⟨htb,c0⟩:=hT.sort;rw[h82] at c0;have y0:w.cell? ⟨tb,0,none⟩=some (.int .u8 82):=(hW.cell (p:=⟨tb,0,none⟩) htb).trans c0;have htw:tb<w.heap.size:=zaC htb hW.size;have htw1:tb<w.heap.size+1:=by omega
 have h69:t.sort≠69:=by rw[h82];decide
 have HW:=hid hW;have HSC:=hid hsc;have HT:=hid hT;have HIH:=hid IH;have H69:=hid h69;have HX:=hid hx;have HTX:=hid htx;have hrb:=H.lt;have HH:=hid H;have ST:=hid fun W1 h=>jY w rb 82 W1 h;clear H hW hsc hT IH hr hf h82 h69 hx htx c0;go_enter Tryz.func116,Tryz.ntmps116;go_wp2_with (first|(go_at_call 112;have _u:=hS1;refine(dE rb sb _ r [125] false hS1.out (.inr HN.out)).mono ?_;rintro e w2 ⟨rfl,rfl⟩)|(go_at_call 113;obtain⟨z0,bl0,b0⟩:=ST.out _ rfl;refine(bP rb sb _ [123] r (HH.out.below b0)).mono ?_;rintro e w1 ⟨rfl,hs1,hb1⟩;have Z1:=hid (z0.step hb1 (by omega));have BL:=hid (bl0.step hrb hb1);have hS1:=hid hs1;have HB1:=hid ((aA.aF b0 (zaA)).trans hb1);have cb2:=hs1.c2;have hbl:=hs1.lt;clear z0 bl0 b0 hs1 hb1))
 go_loopw [8] (fun s8 wr=>∃ (last:Nat) (cur:List UInt8) (a:Option Addr) (c:Nat) (l:List Wf.V) (es:List (List Value)),s8=.int .i64 last/\last<=200/\Hid (Rel x t n rb sb w wr r cur last a c l es)) (fun _ wr=>eY wr rb)
 case atStart=>exact⟨0,r,none,0,[],[],rfl,Nat.zero_le _,hid ⟨⟨Z1.out,BL.out,hS1.out⟩,by rw[Wf.kC,Nat.zero_add],rfl⟩⟩
 case round =>
  obtain⟨last,cur,a,c,l,es,rfl,hl200,hh⟩:=hrel;have hl400:es.length<=400:=by
   have h1:=hh.out.1.bld.hl;have h2:=hh.out.2.1;unfold Wf.pl at h2;omega
  have hcn:cur.length<n:=by have:=hh.out.2.1;omega
  have hc400:cur.length<=400:=by have:=hh.out.2.1;omega
  obtain⟨m,hm⟩:∃ m,es.length=m:=⟨_,rfl⟩;have HM:=hid hm;have BW:=hid (aA.below HW.out HW.out.size hWr hh.out.1.bld.fr);have hs2:=hh.out.1.sn.c2;have hrw:rb<wr.heap.size:=hh.out.1.sn.lt;have hbw:w.heap.size+1<wr.heap.size:=by have:=hh.out.1.bld.sz;omega
  have HST:=hid (Wf.fldsL_step (x:=x) (t:=t) (p:=fun k' s'=>Wf.parse x n k' s') (fun k s v r h=>Wf.dP (v:=v) (r:=r) h) l last cur);rw[hm] at hl400;clear hm;by_cases hno:∃ g q f,Wf.aM 200 cur=some (g,61::q)/\t.field g=some f
  ·obtain⟨g0,q0,f0,hn0,hf0⟩:=hno
   have hq0:q0.length<n:=(by have:=Wf.iF hn0;simp at this;omega);have HFLD:=hid (rN x rb sb W n t cur wr f0 g0 q0 hn0 hf0 ht hc400 lo tb BW.out HT.out hWr hh.out.1.sn H69.out (HIH.out f0 (Wf.eK hf0).1) hq0);clear hn0 hf0 hq0;go_wp2_with (go_at_call 145;refine HFLD.out.mono ?_;rintro e w2 ⟨hb2,cs,f,v,r2,fb,o,rfl,hfm,hf2,hfa,hvc,ho⟩;obtain⟨G,hG⟩:∃ G,f.tag=G:=⟨_,rfl⟩;rw[hG] at hvc hf2;obtain⟨b2,o2,c2,q3,g3,n3,c3,T3,a3,rfl,h1c,hcm,hpb,hb2lt,hvk,k0,k1,k2,k3⟩:=hvc.fld;have HTG:=hid (show W.cell? ⟨fb,o,none⟩=some (.int .i64 G) by(obtain⟨_,_,_,_,hc⟩:=fK t.sort f;rw[<-hG];exact hfa.2 0 _ (by rw[hc];rfl)));have HVC:=hid hvc;have HVK:=hid hvk;have HB2:=hid hb2;have HO:=hid ho;have HFA:=hid hfa;have HFM:=hid hfm;have HCM:=hid hcm;have HGG:=hid hG;clear hvc hvk hb2 ho hfa hfm hcm hG)
   have hal:=(Below.refl w2.heap.size w2).alloc (zaA) (.cells #[.int .u8 61,.string ⟨#[]⟩,.int .i64 G,.slice (some ⟨b2,o2,none⟩) 1 c2] 51);have z0:(w2.alloc (.cells #[.int .u8 61,.string ⟨#[]⟩,.int .i64 G,.slice (some ⟨b2,o2,none⟩) 1 c2] 51)).cell? ⟨w2.heap.size,0,none⟩=some (.int .u8 61):=(by simp[go_sem]);have z1:(w2.alloc (.cells #[.int .u8 61,.string ⟨#[]⟩,.int .i64 G,.slice (some ⟨b2,o2,none⟩) 1 c2] 51)).cell? ⟨w2.heap.size,1,none⟩=some (.string ⟨#[]⟩):=(by simp[go_sem]);have z2:(w2.alloc (.cells #[.int .u8 61,.string ⟨#[]⟩,.int .i64 G,.slice (some ⟨b2,o2,none⟩) 1 c2] 51)).cell? ⟨w2.heap.size,2,none⟩=some (.int .i64 G):=(by simp[go_sem]);have z3:(w2.alloc (.cells #[.int .u8 61,.string ⟨#[]⟩,.int .i64 G,.slice (some ⟨b2,o2,none⟩) 1 c2] 51)).cell? ⟨w2.heap.size,3,none⟩=some (.slice (some ⟨b2,o2,none⟩) 1 c2):=(by simp[go_sem]);have hz:w2.heap.size<(w2.alloc (.cells #[.int .u8 61,.string ⟨#[]⟩,.int .i64 G,.slice (some ⟨b2,o2,none⟩) 1 c2] 51)).heap.size:=(by simp);obtain⟨W3,hW3⟩:∃ W3,w2.alloc (.cells #[.int .u8 61,.string ⟨#[]⟩,.int .i64 G,.slice (some ⟨b2,o2,none⟩) 1 c2] 51)=W3:=⟨_,rfl⟩;rw[hW3] at hal z0 z1 z2 z3 hz;rw[hW3];have hbs:w.heap.size+1<wr.heap.size:=hbw;have hwr2:wr.heap.size<=w2.heap.size:=HB2.out.size;have BWr:=hid (aA.below BW.out BW.out.size hWr HB2.out);have BW3:=hid (BWr.out.trans (hal.mono BWr.out.size));have HAL:=hid hal;have hfbw:fb<W3.heap.size:=zaC HFA.out.1 BW3.out.size;have hrb3:rb<W3.heap.size:=(by omega);have hb23:b2<W3.heap.size:=by omega
   -- what lies there while the nX value and the text are made
   have F:=hid fun(wz:World) (hz:Below W3.heap.size W3 wz)=>(show wz.cell? ⟨fb,o,none⟩=some (.int .i64 G)/\wz.cell? ⟨w2.heap.size,3,none⟩=some (.slice (some ⟨b2,o2,none⟩) 1 c2)/\wz.cell? ⟨b2,o2,none⟩=some (.int .u8 q3)/\wz.cell? ⟨b2,o2+1,none⟩=some (.string T3)/\wz.cell? ⟨b2,o2+2,none⟩=some (.int .i64 g3)/\wz.cell? ⟨b2,o2+3,none⟩=some (.slice a3 n3 c3)/\wz.cell? ⟨rb,0,none⟩=some (ptr sb) from by
    have cb:=fun k (u:Value) (hk:w2.cell? ⟨b2,k,none⟩=some u)=>(hz.cell (p:=⟨b2,k,none⟩) hb23).trans ((HAL.out.cell (p:=⟨b2,k,none⟩) hb2lt).trans hk);refine⟨(hz.cell (p:=⟨fb,o,none⟩) hfbw).trans ((BW3.out.cell (p:=⟨fb,o,none⟩) HFA.out.1).trans HTG.out),(hz.cell (p:=⟨w2.heap.size,3,none⟩) (by assumption)).trans z3,cb _ _ k0,cb _ _ k1,cb _ _ k2,cb _ _ k3,?_⟩;rcases HO.out with⟨_,hs⟩|⟨_,_,hs⟩
    ·exact((hs.below HAL.out).below hz).c0
    ·exact((hs.below HAL.out).below hz).c0)
   have HSNX:=hid fun(wz:World) (hz:Below W3.heap.size W3 wz)=>(show ∃ b,Sn wz rb sb r2 b from by
    rcases HO.out with⟨_,hs⟩|⟨_,_,hs⟩
    ·exact⟨_,(hs.below HAL.out).below hz⟩
    ·exact⟨_,(hs.below HAL.out).below hz⟩)
   obtain⟨f0,f1,f2,f3,f4,f5,f6⟩:=F.out W3 (zaB);clear hal hW3;have hfd:=(HX.out.tys t HTX.out).fds f HFM.out;have hk12:=eW hfd;have hhas:=HX.out.refs t HTX.out H69.out f HFM.out;obtain⟨PT,hPT⟩:∃ PT:ByteArray,(⟨v.print.toArray⟩:ByteArray)=PT:=⟨_,rfl⟩;obtain⟨ST,hST⟩:∃ ST:ByteArray,(⟨(Wf.aO x f).toArray⟩:ByteArray)=ST:=⟨_,rfl⟩;have hpl:v.print.length<=1000000:=by
    rcases HO.out with⟨hp,_⟩|⟨_,⟨q,hq,hbv⟩,_⟩
    ·have:=iQ hp
     rw[Wf.dO] at this;simp at this;omega
    ·have:=hbv.1
     omega
   have HPR:=hid fun(wz:World) (hz:Below W3.heap.size W3 wz)=>(show Calls Tryz.prog 33 #[.agg #[.int .u8 q3,.string T3,.int .i64 g3,.slice a3 n3 c3]] wz fun e w'=>e=.returned (.string PT)/\Below wz.heap.size wz w' by
    rw[<-hPT];exact print v _ _ w2 wz HVK.out (HAL.out.trans (hz.mono HAL.out.size)) hpl)
   have HOF:=hid fun(wz:World) (hz:Below W3.heap.size W3 wz)=>(show Calls Tryz.prog 42 #[ptr sb,.pointer (some ⟨fb,o,none⟩)] wz fun e w'=>e=.returned (.string ST)/\Below wz.heap.size wz w' by
    rw[<-hST];exact of x HX.out lo sb fb o t.sort f W wz (BW3.out.trans (hz.mono BW3.out.size)) HSC.out H69.out HFA.out hk12 hhas)
   have HEQ:=hid (show(PT.toList==ST.toList)=decide (v.print=Wf.aO x f) by rw[<-hPT,<-hST,zaZ,zaZ,Bool.beq_eq_decide_eq]);clear hfd hk12 hhas hPT hST hpl;go_cut [59] from 25 to 75 (fun s59 wx=>∃ B:Bool,s59=.bool B/\Hid (B=(decide (G<=last) || decide (v.print=Wf.aO x f))/\Below W3.heap.size W3 wx))
   case first =>
    by_cases hle:G<=last
    ·have d1:decide (G<=last)=true:=decide_eq_true hle
     go_quiet (fail)
     all_goals (go_wp2_with fail;go_meet)
     all_goals exact⟨true,rfl,hid ⟨by rw[d1];rfl,⟨rfl,rfl,rfl,zaA,fun _ _=>rfl⟩⟩⟩
    ·have d1:decide (G<=last)=false:=decide_eq_false hle
     have hlt:last<G:=(by omega);go_region_held3 (fun w'=>w'.cell? ⟨fb,o,none⟩=some (.int .i64 G)/\w'.cell? ⟨w2.heap.size,3,none⟩=some (.slice (some ⟨b2,o2,none⟩) 1 c2)/\w'.cell? ⟨b2,o2,none⟩=some (.int .u8 q3)/\w'.cell? ⟨b2,o2+1,none⟩=some (.string T3)/\w'.cell? ⟨b2,o2+2,none⟩=some (.int .i64 g3)/\w'.cell? ⟨b2,o2+3,none⟩=some (.slice a3 n3 c3)/\w'.cell? ⟨rb,0,none⟩=some (ptr sb)) (first|exact⟨p0,p1,p2,p3,p4,p5,p6⟩|exact⟨t0,t1,t2,t3,t4,t5,t6⟩|go_keep) (first|(go_at_call 33;refine(HPR.out _ (by first|exact TS.out|(repeat (first|with_reducible exact zaB|with_reducible refine zbE ?_)))).mono ?_;rintro e w3 ⟨rfl,hb3⟩;have TD:=Lib.hid (show Below W3.heap.size W3 w3 by first|exact TS.out.trans (hb3.mono TS.out.size)|(refine Below.trans (b:=_) ?_ hb3;repeat (first|with_reducible exact zaB|with_reducible refine zbE ?_)));obtain⟨p0,p1,p2,p3,p4,p5,p6⟩:=F.out _ TD.out;clear hb3)|(go_at_call 42;refine(HOF.out _ (by first|exact TD.out|(repeat (first|with_reducible exact zaB|with_reducible refine zbE ?_)))).mono ?_;rintro e w4 ⟨rfl,hb4⟩;have TS:=Lib.hid (show Below W3.heap.size W3 w4 by first|exact TD.out.trans (hb4.mono TD.out.size)|(refine Below.trans (b:=_) ?_ hb4;repeat (first|with_reducible exact zaB|with_reducible refine zbE ?_)));obtain⟨t0,t1,t2,t3,t4,t5,t6⟩:=F.out _ TS.out;clear hb4))
     all_goals (go_wp2_with fail;go_meet)
     all_goals exact⟨_,rfl,hid ⟨by rw[d1,HEQ.out,Bool.false_or],by first|exact TS.out.trans (TD.out.mono TS.out.size)|exact TS.out|exact TD.out⟩⟩
   case rest =>
    obtain⟨B,rfl,hh2⟩:=hcut;have HBC:=hid (HB2.out.trans (aA.aF (rb:=rb) (HAL.out.trans (hh2.out.2.mono HAL.out.size)) (zaA)));have HAC:=hid (HAL.out.trans (hh2.out.2.mono HAL.out.size));obtain⟨bad2,HSN,HCS⟩:∃ bad2,Hid (Sn wc rb sb r2 bad2)/\Hid ((bad2=false/\Wf.fieldTok t (fun k s=>Wf.parse x n k s) cur=some (f,v,r2))\/(bad2=true/\Wf.fieldTok t (fun k s=>Wf.parse x n k s) cur=none/\∃ q,q.length+2<=cur.length/\Wf.Badv q r2 v)):=by
     rcases HO.out with⟨hp,hs⟩|⟨hp,hq,hs⟩
     ·exact⟨false,hid (hs.below HAC.out),hid (.inl ⟨rfl,hp⟩)⟩
     ·exact⟨true,hid (hs.below HAC.out),hid (.inr ⟨rfl,hp,hq⟩)⟩
    have HRL:=hid (show r2.length<=cur.length by
     rcases HCS.out with⟨_,hp⟩|⟨_,_,q,hq,hbv⟩
     ·have:=iQ hp;omega
     ·have:=hbv.2;omega)
    have hcw:W3.heap.size<=wc.heap.size:=hh2.out.2.size;have hvc1:w.heap.size+1<wc.heap.size:=(by omega);have RC:=hid (hh.out.1.step hrb HBC.out HSN.out);have sc2:=HSN.out.c2;have sf2:=HSN.out.f2;have slt:=HSN.out.lt;have HVCC:=hid (HVC.out.below HAC.out);clear f0 f1 f2 f3 f4 f5 f6 k0 k1 k2 k3 hs2;cases B with
    | true =>
     have HRES:=hid (show Wf.parse x (n+1) (.ref nm) (123::r)=none by
      rw[HP.out,hh.out.2.2,HST.out];rcases HCS.out with⟨_,hp⟩|⟨_,hp,_⟩
      ·rw[hp]
       have hb:f.tag<=last\/v.print=Wf.aO x f:=by
        have h:=hh2.out.1.symm;rw[Bool.or_eq_true,decide_eq_true_eq,decide_eq_true_eq] at h;rw[HGG.out];exact h
       dsimp only;rw[if_pos hb];rfl
      ·rw[hp];rfl)
     have HBAD:=hid (sO hh.out.2.1 HRL.out);go_wp2_with (go_at_call 113;refine(bT rb sb _ r2 [125] true HSN.out.fail (.inl rfl)).mono ?_;rintro e w6 ⟨rfl,hs6,hb6⟩;have S6:=hid hs6;have R6:=hid (RC.out.step hrb ((aA.set rb wc 2 _).trans hb6) hs6);have HB6:=hid (HBC.out.trans ((aA.set rb wc 2 _).trans hb6));clear hs6 hb6;have v0:=R6.out.bld.v0;have v1:=R6.out.bld.v1;have v2:=R6.out.bld.v2;have v3:=R6.out.bld.v3;rw[HM.out] at v3;obtain⟨zl,zr0,zr1,zr2,zr3,zf0,zf1,zf2,zf3⟩:=R6.out.zero;have hvl:w.heap.size+1<w6.heap.size:=(by have:=R6.out.bld.sz;omega))
     all_goals exact zbD (v:=.agg #[.int .u8 82,.string ⟨#[]⟩,.int .i64 0,.slice a m c]) (by simp[results,Tryz.results116,go_sem, *]) rfl (by
      have hR:∀ W4,aA w.heap.size w6 W4->aP (Wf.parse x (n+1) (.ref nm) (123::r)) (123::r) rb sb w (.returned (.agg #[.int .u8 82,.string ⟨#[]⟩,.int .i64 0,.slice a m c])) W4:=fun W4 hb=>by
       obtain⟨hv,hf⟩:=R6.out.bld.out hb (zaA) (by omega) HM.out 82 [] 0 ⟨by omega,fun _=>.inr (.inr (.inr (.inl rfl))),fun h=>absurd h (by decide)⟩;exact⟨_,.mk 82 [] 0 l,r2,rfl,hv,hf,.inr ⟨HRES.out,HBAD.out,S6.out.beside hb (by omega)⟩⟩
      refine hR _ ?_
      (repeat (first|with_reducible exact aA.refl _ _|with_reducible refine aA.drew ?_|with_reducible refine aA.trans ?_ (aA.set _ _ _ _))))
    | false =>
     have HNB:=hid (show ¬ (f.tag<=last\/v.print=Wf.aO x f) by
      have h:=hh2.out.1.symm;rw[Bool.or_eq_false_iff,decide_eq_false_iff_not,decide_eq_false_iff_not] at h;rw[HGG.out];rintro(h1|h1)
      ·exact h.1 h1
      ·exact h.2 h1)
     have HM2:=hid fun(cs:List Value)=>(show(es++[cs]).length=m+1 by rw[zaD,HM.out];rfl);have HOWN:=hid (show wc.ownsRow (w.heap.size+1+1) 51 4 (.slice a m c) m es.flatten by have h:=RC.out.bld.own;rw[HM.out] at h;exact h);obtain⟨i0,hi0,hz0,hz1,hz2⟩:=info_parts jQ;have HI0:=hid hi0;have HZ0:=hid hz0;have HZ1:=hid hz1;have HZ2:=hid hz2;have v3:=RC.out.bld.v3;have vf:=RC.out.bld.f3;rw[HM.out] at v3;have hw2c:w2.heap.size<wc.heap.size:=(by omega);have x0:=(hh2.out.2.cell (p:=⟨w2.heap.size,0,none⟩) (by assumption)).trans z0;have x1:=(hh2.out.2.cell (p:=⟨w2.heap.size,1,none⟩) (by assumption)).trans z1;have x2:=(hh2.out.2.cell (p:=⟨w2.heap.size,2,none⟩) (by assumption)).trans z2;have x3:=(hh2.out.2.cell (p:=⟨w2.heap.size,3,none⟩) (by assumption)).trans z3;have hfc:fb<wc.heap.size:=(by omega);have xt:=(hh2.out.2.cell (p:=⟨fb,o,none⟩) hfbw).trans ((BW3.out.cell (p:=⟨fb,o,none⟩) HFA.out.1).trans HTG.out);clear hi0 hz0 hz1 hz2 z0 z1 z2 z3;have hcase:(∃ p,bad2=false/\r2=44::p)\/Hid (bad2=true\/¬ [44] <+: r2):=by
      cases bad2 with
      | true=>exact .inr (hid (.inl rfl))
      | false =>
       by_cases h4:[44] <+: r2
       ·obtain⟨p,hp⟩:=h4;exact .inl ⟨p,rfl,hp.symm⟩
       ·exact .inr (hid (.inr h4))
     rcases hcase with⟨p,rfl,rfl⟩|HC
     ·have hp:Wf.fieldTok t (fun k s=>Wf.parse x n k s) cur=some (f,v,44::p):=by
       rcases HCS.out with⟨_,hp⟩|⟨hb,_⟩
       ·exact hp
       ·cases hb
      have hlen:=iQ hp;have HE:=hid (show Wf.pl (l++[.mk 61 [] G [v]])+p.length=r.length/\p.length<cur.length/\Wf.bX x t (fun k' s'=>Wf.parse x n k' s') [] 0 r=Wf.bX x t (fun k' s'=>Wf.parse x n k' s') (l++[.mk 61 [] G [v]]) G p by
       rw[HGG.out] at hlen;simp only[zaF] at hlen;refine⟨?_,by omega,?_⟩
       ·rw[Wf.gM];have:=hh.out.2.1;omega
       ·rw[hh.out.2.2,HST.out,hp]
        dsimp only;rw[if_neg HNB.out,HGG.out];rfl)
      clear hp hlen;go_wp2_with (first|(go_at_call 112;have RS:=hid (Rst.put hh.out.1 hrb HBC.out HM.out HVCC.out ((zaB).alloc (zaA) _) HG4.out HOWN4.out HAT4.out HSN.out);refine(fJ rb sb _ [44] p RS.out.sn).mono ?_;rintro e w6 ⟨rfl,hs6,hb6⟩;have S6:=hid hs6;have R6:=hid (RS.out.step hrb hb6 hs6);clear hs6 hb6)|(at_builtin;refine wpList_append_lies _ rfl (.tmp 68) (.tmp 70) 49 rfl (w.heap.size+1+1) 51 i0 (.agg #[.int .u8 0,tx [],.int .i64 0,.slice none 0 0]) 4 56 Tryz.underlying49 HI0.out HZ0.out HZ1.out HZ2.out rfl (by decide) (.slice a m c) m _ (by rfl) (HOWN.out.alloc _) ⟨wc.heap.size,0,none⟩ 1 1 [.int .u8 61,.string ⟨#[]⟩,.int .i64 G,.slice (some ⟨b2,o2,none⟩) 1 c2] (by rfl) rfl (World.news_of_block (MapKept.heap_alloc wc (.cells #[.int .u8 61,.string ⟨#[]⟩,.int .i64 G,.slice (some ⟨b2,o2,none⟩) 1 c2] 51)).1) (fP _ _ _ _ _ _) (by decide) (by unfold maxLen;omega) (by omega) (by simp;omega) _ rfl ?_;intro g cap w4 hown4 hgrow4 hat4 hlt4;have B4:=hid (aV (base:=w.heap.size+1+1) hgrow4 (fun g hg=>(aQ HOWN.out g hg).1) (by simp;omega));have u3:w4.cell? ⟨w.heap.size+1,3,none⟩=some (.slice a m c):=((B4.out.cell (p:=⟨w.heap.size+1,3,none⟩) (zaH _)).trans ((zbB wc _ ⟨w.heap.size+1,3,none⟩ hvc1).trans v3));have uf:w4.frozen? ⟨w.heap.size+1,3,none⟩=false:=((B4.out.frozen (p:=⟨w.heap.size+1,3,none⟩) (zaH _)).trans ((((Below.refl wc.heap.size wc).alloc (zaA) _).frozen (p:=⟨w.heap.size+1,3,none⟩) hvc1).trans vf));have HOWN4:=hid hown4;have HG4:=hid hgrow4;have HAT4:=hid hat4;clear hown4 hgrow4 hat4))
      go_roundw
      case rel=>exact⟨G,p,some ⟨g,0,none⟩,cap,_,_,rfl,by omega,hid ⟨R6.out,HE.out.1,HE.out.2.2⟩⟩
      case measure =>
       rw[S6.out.size,hh.out.1.sn.size];have:=HE.out.2.1;omega
     ·have hcase2:(∃ p,bad2=false/\r2=125::p)\/Hid (bad2=true\/¬ [125] <+: r2):=by
       cases bad2 with
       | true=>exact .inr (hid (.inl rfl))
       | false =>
        by_cases h4:[125] <+: r2
        ·obtain⟨p,hp⟩:=h4;exact .inl ⟨p,rfl,hp.symm⟩
        ·exact .inr (hid (.inr h4))
      rcases hcase2 with⟨p,rfl,rfl⟩|HC2
      ·have HRES:=hid (show Wf.parse x (n+1) (.ref nm) (123::r)=some (.mk 82 [] 0 (l++[.mk 61 [] G [v]]),p) by
        have hp:Wf.fieldTok t (fun k s=>Wf.parse x n k s) cur=some (f,v,125::p):=by
         rcases HCS.out with⟨_,hp⟩|⟨hb,_⟩
         ·exact hp
         ·cases hb
        rw[HP.out,hh.out.2.2,HST.out,hp];dsimp only;rw[if_neg HNB.out,HGG.out];rfl)
       go_wp2_with (first|(go_at_call 113;refine(bP rb sb _ [125] p RS.out.sn).mono ?_;rintro e w6 ⟨rfl,hs6,hb6⟩;have S6:=hid hs6;have R6:=hid (RS.out.step hrb hb6 hs6);clear hs6 hb6;have v0:=R6.out.bld.v0;have v1:=R6.out.bld.v1;have v2:=R6.out.bld.v2;have v3:=R6.out.bld.v3;rw[HM2.out] at v3;obtain⟨zl,zr0,zr1,zr2,zr3,zf0,zf1,zf2,zf3⟩:=R6.out.zero;have hvl:w.heap.size+1<w6.heap.size:=(by have:=R6.out.bld.sz;omega))|(go_at_call 112;have RS:=hid (Rst.put hh.out.1 hrb HBC.out HM.out HVCC.out ((zaB).alloc (zaA) _) HG4.out HOWN4.out HAT4.out HSN.out);refine(dE rb sb _ (125::p) [44] false RS.out.sn HC.out).mono ?_;rintro e w5 ⟨rfl,rfl⟩)|(at_builtin;refine wpList_append_lies _ rfl (.tmp 68) (.tmp 70) 49 rfl (w.heap.size+1+1) 51 i0 (.agg #[.int .u8 0,tx [],.int .i64 0,.slice none 0 0]) 4 56 Tryz.underlying49 HI0.out HZ0.out HZ1.out HZ2.out rfl (by decide) (.slice a m c) m _ (by rfl) (HOWN.out.alloc _) ⟨wc.heap.size,0,none⟩ 1 1 [.int .u8 61,.string ⟨#[]⟩,.int .i64 G,.slice (some ⟨b2,o2,none⟩) 1 c2] (by rfl) rfl (World.news_of_block (MapKept.heap_alloc wc (.cells #[.int .u8 61,.string ⟨#[]⟩,.int .i64 G,.slice (some ⟨b2,o2,none⟩) 1 c2] 51)).1) (fP _ _ _ _ _ _) (by decide) (by unfold maxLen;omega) (by omega) (by simp;omega) _ rfl ?_;intro g cap w4 hown4 hgrow4 hat4 hlt4;have B4:=hid (aV (base:=w.heap.size+1+1) hgrow4 (fun g hg=>(aQ HOWN.out g hg).1) (by simp;omega));have u3:w4.cell? ⟨w.heap.size+1,3,none⟩=some (.slice a m c):=((B4.out.cell (p:=⟨w.heap.size+1,3,none⟩) (zaH _)).trans ((zbB wc _ ⟨w.heap.size+1,3,none⟩ hvc1).trans v3));have uf:w4.frozen? ⟨w.heap.size+1,3,none⟩=false:=((B4.out.frozen (p:=⟨w.heap.size+1,3,none⟩) (zaH _)).trans ((((Below.refl wc.heap.size wc).alloc (zaA) _).frozen (p:=⟨w.heap.size+1,3,none⟩) hvc1).trans vf));have HOWN4:=hid hown4;have HG4:=hid hgrow4;have HAT4:=hid hat4;clear hown4 hgrow4 hat4))
       all_goals exact zbD (v:=.agg #[.int .u8 82,.string ⟨#[]⟩,.int .i64 0,.slice (some ⟨g,0,none⟩) (m+1) cap]) (by simp[results,Tryz.results116,go_sem, *]) rfl (by
        have hR:∀ W4,aA w.heap.size w6 W4->aP (Wf.parse x (n+1) (.ref nm) (123::r)) (123::r) rb sb w (.returned (.agg #[.int .u8 82,.string ⟨#[]⟩,.int .i64 0,.slice (some ⟨g,0,none⟩) (m+1) cap])) W4:=fun W4 hb=>by
         obtain⟨hv,hf⟩:=R6.out.bld.out hb (zaA) (by omega) (HM2.out _) 82 [] 0 ⟨by omega,fun _=>.inr (.inr (.inr (.inl rfl))),fun h=>absurd h (by decide)⟩;exact⟨_,_,p,rfl,hv,hf,.inl ⟨HRES.out,S6.out.beside hb (by omega)⟩⟩
        refine hR _ ?_
        (repeat (first|with_reducible exact aA.refl _ _|with_reducible refine aA.drew ?_|with_reducible refine aA.trans ?_ (aA.set _ _ _ _))))
      ·have HRES:=hid (show Wf.parse x (n+1) (.ref nm) (123::r)=none/\Wf.Badv (123::r) r2 (.mk 82 [] 0 (l++[.mk 61 [] G [v]])) by
        rcases HCS.out with⟨hb,hp⟩|⟨hb,hp,q,hq,hbv⟩
        ·have h44:¬ [44] <+: r2:=by
          rcases HC.out with h|h
          ·rw[hb] at h;cases h
          ·exact h
         have h125:¬ [125] <+: r2:=by
          rcases HC2.out with h|h
          ·rw[hb] at h;cases h
          ·exact h
         have hlen:=iQ hp;rw[HGG.out] at hlen;refine⟨?_,Wf.lH (.inr rfl) (s0:=r) rfl (by simp) (by rw[Wf.gM];have:=hh.out.2.1;omega)⟩;rw[HP.out,hh.out.2.2,HST.out,hp];dsimp only;rw[if_neg HNB.out];split
         ·exact absurd ⟨_,rfl⟩ h44
         ·exact absurd ⟨_,rfl⟩ h125
         ·rfl
        ·exact⟨by rw[HP.out,hh.out.2.2,HST.out,hp];rfl,Wf.sZ (.inr rfl) (s0:=r) (s1:=cur) rfl hh.out.2.1 (Wf.mR (by omega) hq hbv)⟩)
       go_wp2_with (first|(go_at_call 113;refine(bT rb sb _ r2 [125] bad2 RS.out.sn HC2.out).mono ?_;rintro e w6 ⟨rfl,hs6,hb6⟩;have S6:=hid hs6;have R6:=hid (RS.out.step hrb hb6 hs6);clear hs6 hb6;have v0:=R6.out.bld.v0;have v1:=R6.out.bld.v1;have v2:=R6.out.bld.v2;have v3:=R6.out.bld.v3;rw[HM2.out] at v3;obtain⟨zl,zr0,zr1,zr2,zr3,zf0,zf1,zf2,zf3⟩:=R6.out.zero;have hvl:w.heap.size+1<w6.heap.size:=(by have:=R6.out.bld.sz;omega))|(go_at_call 112;have RS:=hid (Rst.put hh.out.1 hrb HBC.out HM.out HVCC.out ((zaB).alloc (zaA) _) HG4.out HOWN4.out HAT4.out HSN.out);refine(dE rb sb _ r2 [44] bad2 RS.out.sn HC.out).mono ?_;rintro e w5 ⟨rfl,rfl⟩)|(at_builtin;refine wpList_append_lies _ rfl (.tmp 68) (.tmp 70) 49 rfl (w.heap.size+1+1) 51 i0 (.agg #[.int .u8 0,tx [],.int .i64 0,.slice none 0 0]) 4 56 Tryz.underlying49 HI0.out HZ0.out HZ1.out HZ2.out rfl (by decide) (.slice a m c) m _ (by rfl) (HOWN.out.alloc _) ⟨wc.heap.size,0,none⟩ 1 1 [.int .u8 61,.string ⟨#[]⟩,.int .i64 G,.slice (some ⟨b2,o2,none⟩) 1 c2] (by rfl) rfl (World.news_of_block (MapKept.heap_alloc wc (.cells #[.int .u8 61,.string ⟨#[]⟩,.int .i64 G,.slice (some ⟨b2,o2,none⟩) 1 c2] 51)).1) (fP _ _ _ _ _ _) (by decide) (by unfold maxLen;omega) (by omega) (by simp;omega) _ rfl ?_;intro g cap w4 hown4 hgrow4 hat4 hlt4;have B4:=hid (aV (base:=w.heap.size+1+1) hgrow4 (fun g hg=>(aQ HOWN.out g hg).1) (by simp;omega));have u3:w4.cell? ⟨w.heap.size+1,3,none⟩=some (.slice a m c):=((B4.out.cell (p:=⟨w.heap.size+1,3,none⟩) (zaH _)).trans ((zbB wc _ ⟨w.heap.size+1,3,none⟩ hvc1).trans v3));have uf:w4.frozen? ⟨w.heap.size+1,3,none⟩=false:=((B4.out.frozen (p:=⟨w.heap.size+1,3,none⟩) (zaH _)).trans ((((Below.refl wc.heap.size wc).alloc (zaA) _).frozen (p:=⟨w.heap.size+1,3,none⟩) hvc1).trans vf));have HOWN4:=hid hown4;have HG4:=hid hgrow4;have HAT4:=hid hat4;clear hown4 hgrow4 hat4))
       all_goals exact zbD (v:=.agg #[.int .u8 82,.string ⟨#[]⟩,.int .i64 0,.slice (some ⟨g,0,none⟩) (m+1) cap]) (by simp[results,Tryz.results116,go_sem, *]) rfl (by
        have hR:∀ W4,aA w.heap.size w6 W4->aP (Wf.parse x (n+1) (.ref nm) (123::r)) (123::r) rb sb w (.returned (.agg #[.int .u8 82,.string ⟨#[]⟩,.int .i64 0,.slice (some ⟨g,0,none⟩) (m+1) cap])) W4:=fun W4 hb=>by
         obtain⟨hv,hf⟩:=R6.out.bld.out hb (zaA) (by omega) (HM2.out _) 82 [] 0 ⟨by omega,fun _=>.inr (.inr (.inr (.inl rfl))),fun h=>absurd h (by decide)⟩;exact⟨_,_,r2,rfl,hv,hf,.inr ⟨HRES.out.1,HRES.out.2,S6.out.beside hb (by omega)⟩⟩
        refine hR _ ?_
        (repeat (first|with_reducible exact aA.refl _ _|with_reducible refine aA.drew ?_|with_reducible refine aA.trans ?_ (aA.set _ _ _ _))))
  ·have HFLD:=hid (mC rb sb W t cur wr false ht hc400 lo tb BW.out HT.out hWr hh.out.1.sn (fun h=>hno h.2))
   have HRES:=hid (show Wf.parse x (n+1) (.ref nm) (123::r)=none by
    rw[HP.out,hh.out.2.2,HST.out,tO x n t cur hno];rfl)
   clear hno;go_wp2_with (go_at_call 145;refine HFLD.out.mono ?_;rintro e w2 ⟨hb2,r2,rfl,hrl,hsn⟩;have HB2:=hid hb2;have S2:=hid hsn;have HRL:=hid hrl;have sc2:=hsn.c2;have sf2:=hsn.f2;have slt:=hsn.lt;clear hb2 hsn hrl)
   have HBAD:=hid (sO hh.out.2.1 HRL.out);have hal:=hid fun k=>(show Below w2.heap.size w2 ((w2.alloc (.cells #[.int .u8 0,.string ⟨#[]⟩,.int .i64 0,.slice none 0 0] 51)).drewN k) from((Below.refl w2.heap.size w2).alloc (zaA) _).trans ⟨rfl,rfl,rfl,zaA,fun _ _=>rfl⟩);go_quiet (fail)
   go_wp2_with (go_at_call 113;refine(bT rb sb _ r2 [125] true (S2.out.below (hal.out _)).fail (.inl rfl)).mono ?_;rintro e w6 ⟨rfl,hs6,hb6⟩;have S6:=hid hs6;have HB6:=hid ((aA.aF (rb:=rb) (hal.out _) (zaA)).trans ((aA.set rb _ 2 _).trans hb6));have R6:=hid (hh.out.1.step hrb (HB2.out.trans HB6.out) hs6);clear hs6 hb6;have v0:=R6.out.bld.v0;have v1:=R6.out.bld.v1;have v2:=R6.out.bld.v2;have v3:=R6.out.bld.v3;rw[HM.out] at v3;obtain⟨zl,zr0,zr1,zr2,zr3,zf0,zf1,zf2,zf3⟩:=R6.out.zero;have hvl:w.heap.size+1<w6.heap.size:=(by have:=R6.out.bld.sz;omega))
   all_goals exact zbD (v:=.agg #[.int .u8 82,.string ⟨#[]⟩,.int .i64 0,.slice a m c]) (by simp[results,Tryz.results116,go_sem, *]) rfl (by
    have hR:∀ W4,aA w.heap.size w6 W4->aP (Wf.parse x (n+1) (.ref nm) (123::r)) (123::r) rb sb w (.returned (.agg #[.int .u8 82,.string ⟨#[]⟩,.int .i64 0,.slice a m c])) W4:=fun W4 hb=>by
     obtain⟨hv,hf⟩:=R6.out.bld.out hb (zaA) (by omega) HM.out 82 [] 0 ⟨by omega,fun _=>.inr (.inr (.inr (.inl rfl))),fun h=>absurd h (by decide)⟩;exact⟨_,.mk 82 [] 0 l,r2,rfl,hv,hf,.inr ⟨HRES.out,HBAD.out,S6.out.beside hb (by omega)⟩⟩
    refine hR _ ?_
    (repeat (first|with_reducible exact aA.refl _ _|with_reducible refine aA.drew ?_|with_reducible refine aA.trans ?_ (aA.set _ _ _ _))))
theorem a4Y (s:List UInt8) (hx:Wf.ScOk x) (htx:t∈x) (hf:x.find nm=some t) (ht:t.fields.length<=1000) (lo tb:Nat) (hW:Below W.heap.size W w) (hsc:ScL W lo sb x) (hT:TyL W lo tb t) (h82:t.sort=82) (hWr:W.heap.size<=rb) (IH:∀ f∈t.fields,Reads x rb sb W n f.kind) (hn:s.length<n+1) (h400:s.length<=400) (H:Sn w rb sb s false):Calls Tryz.prog 116 #[ptr rb,ptr tb] w fun e w'=>aP (Wf.parse x (n+1) (.ref nm) s) s rb sb w e w':=by
 cases s with
 | nil=>exact nG x rb sb W n t nm [] w hf lo tb hW hT h82 H (by simp)
 | cons a r =>
  by_cases ha:a=123
  ·subst ha
   cases r with
   | nil=>exact nF x rb sb W n t nm w hx htx [] (by simp) hf ht lo tb hW hsc hT h82 hWr IH (by simpa using hn) (by simp) H
   | cons b q =>
    by_cases hb:b=125
    ·subst hb;exact zF x rb sb W n t nm w q hf lo tb hW hT h82 H
    ·exact nF x rb sb W n t nm w hx htx (b::q) (by simpa using hb) hf ht lo tb hW hsc hT h82 hWr IH (by simp at hn ⊢;omega) (by simp at h400 ⊢;omega) H
  ·exact nG x rb sb W n t nm (a::r) w hf lo tb hW hT h82 H (by simpa using ha)
theorem ofType (s:List UInt8) (hx:Wf.ScOk x) (htx:t∈x) (hf:x.find nm=some t) (lo tb:Nat) (hW:Below W.heap.size W w) (hsc:ScL W lo sb x) (hT:TyL W lo tb t) (hWr:W.heap.size<=rb) (IH:t.sort≠69->∀ f∈t.fields,Reads x rb sb W n f.kind) (hn:s.length<n+1) (h400:s.length<=400) (H:Sn w rb sb s false):Calls Tryz.prog 116 #[ptr rb,ptr tb] w fun e w'=>aP (Wf.parse x (n+1) (.ref nm) s) s rb sb w e w':=by
 have htok:=hx.tys t htx;have ht:t.fields.length<=1000:=by have:=htok.len;omega
 rcases htok.sort with h|h|h
 ·exact a4Y x rb sb W n t nm w s hx htx hf ht lo tb hW hsc hT h hWr (IH (by rw[h];decide)) hn h400 H
 ·exact uJ rb sb W t s w x n nm h400 hn hf ht lo tb hW hT h hWr H (IH (by rw[h];decide))
 ·exact a4X rb sb W t s w x n nm h400 hf ht lo tb hW hT h hWr H
end

theorem a4D (x:Wf.Sc) (rb sb:Nat) (W:World) (n:Nat) (nm:List UInt8) (hnm:nm.length<=1000000) (s:List UInt8) (w:World) (lo mb tb:Nat) (hW:Below W.heap.size W w) (hWr:W.heap.size<=rb) (hsb:sb<W.heap.size) (c1:W.cell? ⟨sb,1,none⟩=some (.map (some mb))) (look:∀ wz,Below W.heap.size W wz->(Instr.lookup 114 (.map (some mb)) (.string ⟨nm.toArray⟩) false).run Tryz.prog wz=.ok (ptr tb) wz)
  (hof:∀ w2,Below W.heap.size W w2->Sn w2 rb sb s false->Calls Tryz.prog 116 #[ptr rb,ptr tb] w2 fun e w'=>aP (Wf.parse x (n+1) (.ref nm) s) s rb sb w2 e w') (H:Sn w rb sb s false):Calls Tryz.prog 74 #[ptr rb,kV (.ref nm)] w fun e w'=>aP (Wf.parse x (n+1) (.ref nm) s) s rb sb w e w':=by
 have hrb:=H.lt;have c2:=H.c2;have HH:=hid H;have HW:=hid hW;have HOT:=hid hof;have HLK:=hid look;have HC1:=hid c1;have HSG:=hid fun w2=>sign (.ref nm) w2;obtain⟨NM,hNM⟩:∃ NM:ByteArray,(⟨nm.toArray⟩:ByteArray)=NM:=⟨_,rfl⟩;have hkv:kV (.ref nm)=.agg #[.string ⟨#[]⟩,.string ⟨#[64]⟩,.string NM]:=by rw[<-hNM];rfl
 rw[hkv] at HSG;rw[hkv];rw[hNM] at HLK;have hsn:bV (.ref nm)=0:=rfl;rw[hsn] at HSG;have ST:=hid fun W1 h=>eQ w ⟨#[]⟩ ⟨#[64]⟩ NM W1 h;have hsw:sb<w.heap.size:=zaC hsb hW.size;clear H hW hof look c1 hNM hkv hsn;go_enter Tryz.func74,Tryz.ntmps74;go_wp2_with (go_at_call 95;obtain⟨d0,d1,d2,z0,b0⟩:=ST.out _ rfl;refine(HSG.out _).mono ?_;rintro e w1 ⟨rfl,hb1⟩;have b01:=aE b0 hb1;have hz:=zaC (zaH _) (Nat.le_of_lt z0.lt);have e0:=(hb1.cell (p:=⟨w.heap.size,0,none⟩) hz).trans d0;have e1:=(hb1.cell (p:=⟨w.heap.size,1,none⟩) hz).trans d1;have e2:=(hb1.cell (p:=⟨w.heap.size,2,none⟩) hz).trans d2;have S1:=hid (HH.out.below b01);have HB1:=hid (aA.aF (rb:=rb) b01 (zaA));have Z1:=hid (z0.below hb1 z0.lt);have BW1:=hid (aA.below HW.out HW.out.size hWr HB1.out);have s0:=S1.out.c0;have m1:=(BW1.out.cell (p:=⟨sb,1,none⟩) hsb).trans HC1.out;have hz1:=zaC hz hb1.size;have hs1:=S1.out.lt;have hsb1:=zaC hsw HB1.out.size;have l0:=HLK.out w1 BW1.out;have l1:=HLK.out w1.drew BW1.out.drew;clear hb1 b01 b0 d0 d1 d2 z0 hz)
 go_region_held3 (fun w'=>w'.cell? ⟨rb,0,none⟩=some (ptr sb)/\w'.cell? ⟨sb,1,none⟩=some (.map (some mb))/\w'.cell? ⟨w.heap.size,2,none⟩=some (.string NM)/\(Instr.lookup 114 (.map (some mb)) (.string NM) false).run Tryz.prog w'=.ok (ptr tb) w') (first|exact⟨j0,j1,j2,j3⟩|(refine FK.out _ ?_;repeat (first|with_reducible exact zaB|with_reducible refine zbF ?_ (by show w.heap.size+1<=w.heap.size+1;omega) _))|go_keep) ((go_at_call 116;refine(HOT.out _ BW1.out.drew (S1.out.drewN 1)).mono ?_;rintro e w3 ⟨cs,v,r,rfl,hvc,hb3,ho⟩;obtain⟨q2,g2,n2,c2,T2,a2,rfl⟩:=hvc.bA;have HVC:=hid hvc;have HO:=hid ho;have HB3:=hid (HB1.out.trans ((aA.drew (aA.refl rb w1)).trans hb3));have Z3:=hid (Z1.out.step ((aA.drew (aA.refl rb w1)).trans hb3) (by omega));obtain⟨zl,zr0,zr1,zr2,zr3,zf0,zf1,zf2,zf3⟩:=Z3.out;have BW3:=hid (aA.below HW.out HW.out.size hWr HB3.out);have j0:w3.cell? ⟨rb,0,none⟩=some (ptr sb):=(by rcases ho with⟨_,h⟩|⟨_,_,h⟩ <;> exact h.c0);have j1:=(BW3.out.cell (p:=⟨sb,1,none⟩) hsb).trans HC1.out;have j2:w3.cell? ⟨w.heap.size,2,none⟩=some (.string NM):=(hb3.cell (p:=⟨w.heap.size,2,none⟩) hz1 (by show w.heap.size≠rb;omega)).trans e2;have j3:=HLK.out w3 BW3.out;have FK:=hid fun(wz:World) (hz:Below (w.heap.size+1) w3 wz)=>(show wz.cell? ⟨rb,0,none⟩=some (ptr sb)/\wz.cell? ⟨sb,1,none⟩=some (.map (some mb))/\wz.cell? ⟨w.heap.size,2,none⟩=some (.string NM)/\(Instr.lookup 114 (.map (some mb)) (.string NM) false).run Tryz.prog wz=.ok (ptr tb) wz from⟨(hz.cell (p:=⟨rb,0,none⟩) (by show rb<w.heap.size+1;omega)).trans j0,(hz.cell (p:=⟨sb,1,none⟩) (by show sb<w.heap.size+1;omega)).trans j1,(hz.cell (p:=⟨w.heap.size,2,none⟩) (by show w.heap.size<w.heap.size+1;omega)).trans j2,HLK.out wz (BW3.out.trans (hz.mono (by have:=HW.out.size;omega)))⟩);clear hvc ho hb3))
 all_goals (go_wp2_with fail)
 all_goals exact zbD (v:=.agg #[.int .u8 q2,.string T2,.int .i64 g2,.slice a2 n2 c2]) (by simp[results,Tryz.results74,go_sem, *]) rfl (by
  have hR:∀ W4,aA (w.heap.size+1) w3 W4->aP (Wf.parse x (n+1) (.ref nm) s) s rb sb w (.returned (.agg #[.int .u8 q2,.string T2,.int .i64 g2,.slice a2 n2 c2])) W4:=fun W4 hb=>by
   refine⟨[.int .u8 q2,.string T2,.int .i64 g2,.slice a2 n2 c2],v,r,rfl,VC.keep (P:=fun b=>w1.heap.size<=b) (fun b hp hlt=>⟨zaI HB1.out.size hp,hb.block b hlt (by have h1:w1.heap.size<=b:=hp;have h2:=Z1.out.lt;omega)⟩) hb.size _ _ HVC.out,HB3.out.on hb (by omega),?_⟩;rcases HO.out with⟨hp,sn⟩|⟨hp,hbv,sn⟩
   ·exact .inl ⟨hp,sn.beside hb (by omega)⟩
   ·exact .inr ⟨hp,hbv,sn.beside hb (by omega)⟩
  refine hR _ ?_;repeat (first|with_reducible exact aA.refl _ _|with_reducible refine aA.drew ?_|with_reducible refine aA.trans ?_ (aA.set _ _ _ _)))
theorem KOk.list {x:Wf.Sc} {k:Wf.K} (h:KOk x (.list k)):KOk x k:=⟨by have:=h.len;simp[Wf.K.text] at this;omega,h.ref⟩
theorem KOk.opt {x:Wf.Sc} {k:Wf.K} (h:KOk x (.opt k)):KOk x k:=⟨by have:=h.len;simp[Wf.K.text] at this;omega,h.ref⟩
theorem KOk.fld {x:Wf.Sc} (hx:Wf.ScOk x) {t:Wf.Ty} (ht:t∈x) (h69:t.sort≠69) {f:Wf.Fd} (hf:f∈t.fields):KOk x f.kind:=⟨eW ((hx.tys t ht).fds f hf),hx.refs t ht h69 f hf⟩
theorem value (x:Wf.Sc) (hx:Wf.ScOk x) (lo rb sb:Nat) (W:World) (hsc:ScL W lo sb x) (hWr:W.heap.size<=rb):∀ (n:Nat) (k:Wf.K),KOk x k->Reads x rb sb W n k:=by
 intro n;induction n with
 | zero=>intro k _ s w _ _ h;omega
 | succ n ih =>
  intro k hk s w hW H hn h400;cases k with
  | num=>exact a0Z rb sb s w x n h400 H
  | txt=>exact a1J rb sb s w x n h400 H
  | flag=>exact a1S rb sb s w x n H
  | list k=>exact a5A x rb sb W n k s w hW hWr (ih k hk.list) hn h400 H
  | opt k =>
   cases s with
   | nil=>exact qE x rb sb W n k [] w (by simp) (by simp) hW hWr H
   | cons a r =>
    by_cases h45:a=45
    ·subst h45;exact xN x rb sb n k r w H
    ·by_cases h43:a=43
     ·subst h43
      exact wF x rb sb W n k r w hW hWr (ih k hk.opt) (by simp at hn;omega) (by simp at h400;omega) H
     ·exact qE x rb sb W n k (a::r) w (by simpa using h45) (by simpa using h43) hW hWr H
  | ref nm =>
   obtain⟨mb,hsz,hc1,hnm⟩:=hsc.named;obtain⟨t,ht⟩:=Option.isSome_iff_exists.1 (show(x.find nm).isSome=true by simpa[Wf.aL,Wf.K.base,Wf.K.name] using hk.ref);have hnl:nm.length<=12:=(by have:=eZ (.ref nm);have h2:=hk.len;simp only[Wf.K.name] at this;omega);rcases hnm ⟨nm.toArray⟩ (by rw[aW];omega) with⟨h0,_⟩|⟨t',b,h1,hT,hl⟩
   ·rw[show(⟨nm.toArray⟩:ByteArray).data.toList=nm from rfl,ht] at h0;cases h0
   rw[show(⟨nm.toArray⟩:ByteArray).data.toList=nm from rfl,ht] at h1;obtain rfl:t=t':=Option.some.inj h1;have hm:=(Wf.bK ht).1;exact a4D x rb sb W n nm (by omega) s w lo mb b hW hWr hsz hc1 hl (fun w2 hb hs=>ofType x rb sb W n t nm w2 s hx hm ht lo b hb hsc hT hWr (fun h69 f hf=>ih f.kind (KOk.fld hx hm h69 hf)) hn h400 hs) H
end Go.Proofs.YtidjpalnmnehmaaGreatDoor

namespace Go.Proofs.YtidjpalnmnehmaaGreatDoor
open Go.ChangeShapes Go.WideShapes Go.ChangeAt Go.RowKit Go.Lib Go.Lib.Pa
theorem ngi_e0 (s:ByteArray) (w:World) (_hl:s.size<=9223372036854775807) (h0:s.size=0) :
  Calls Tryz.prog 71 #[.string s] w fun e w'=>e=.returned (.tuple #[.int .i64 0,.string ⟨#[]⟩,.bool false])/\∃ n,w'=w.drewN n:=by
 go_enter Tryz.func71,Tryz.ntmps71;go_wp2;refine wp_loop_rounds 4 ?_;rw[rounds_succ];go_wp2;all_goals go_ret3
 all_goals exact⟨rfl,0,rfl⟩
theorem ngi_y0 (s:ByteArray) (w:World) (_hl:s.size<=9223372036854775807) (h1:1<=s.size) (a:Nat) (e0:∀ h,(s[0]'h).toNat=a) (ha:a<128) :
  Calls Tryz.prog 71 #[.string s] w fun e w'=>e=.returned (.tuple #[.int .i64 ((a:Int) % 128),.string (s.extract 1 s.size),.bool true])/\∃ n,w'=w.drewN n:=by
 go_enter Tryz.func71,Tryz.ntmps71;go_wp2;refine wp_loop_rounds 4 ?_;rw[rounds_succ];go_wp2;go_region
 go_wp2;all_goals go_ret3
 all_goals exact⟨rfl,1,rfl⟩
theorem ngi_e1 (s:ByteArray) (w:World) (_hl:s.size<=9223372036854775807) (h1:s.size=1) (a:Nat) (e0:∀ h,(s[0]'h).toNat=a) (ha:128<=a) (ha2:a<256) :
  Calls Tryz.prog 71 #[.string s] w fun e w'=>e=.returned (.tuple #[.int .i64 0,.string ⟨#[]⟩,.bool false])/\∃ n,w'=w.drewN n:=by
 go_enter Tryz.func71,Tryz.ntmps71;go_wp2;refine wp_loop_rounds 4 ?_;rw[rounds_succ];go_wp2;rw[rounds_succ];go_wp2;all_goals go_ret3
 all_goals exact⟨rfl,0,rfl⟩
theorem ngi_z1 (s:ByteArray) (w:World) (_hl:s.size<=9223372036854775807) (h2:2<=s.size) (a:Nat) (e0:∀ h,(s[0]'h).toNat=a) (ha:128<=a) (ha2:a<256) (e1:∀ h,(s[1]'h).toNat=0) :
  Calls Tryz.prog 71 #[.string s] w fun e w'=>e=.returned (.tuple #[.int .i64 0,.string ⟨#[]⟩,.bool false])/\∃ n,w'=w.drewN n:=by
 go_enter Tryz.func71,Tryz.ntmps71;go_wp2;refine wp_loop_rounds 4 ?_;rw[rounds_succ];go_wp2;rw[rounds_succ];go_wp2;all_goals go_ret3
 all_goals exact⟨rfl,0,rfl⟩
theorem ngi_y1 (s:ByteArray) (w:World) (_hl:s.size<=9223372036854775807) (h2:2<=s.size) (a:Nat) (e0:∀ h,(s[0]'h).toNat=a) (ha:128<=a) (ha2:a<256) (b:Nat) (e1:∀ h,(s[1]'h).toNat=b) (hb:b<128) (hb0:0<b) :
  Calls Tryz.prog 71 #[.string s] w fun e w'=>e=.returned (.tuple #[.int .i64 ((a:Int) % 128+(b:Int) % 128*128),.string (s.extract 2 s.size),.bool true])/\∃ n,w'=w.drewN n:=by
 have hq:((b:Int)==0)=false:=by rw[zaJ];omega
 go_enter Tryz.func71,Tryz.ntmps71;go_wp2;refine wp_loop_rounds 4 ?_;rw[rounds_succ];go_wp2;rw[rounds_succ];go_wp2;go_region
 go_wp2;all_goals go_ret3
 all_goals exact⟨rfl,1,rfl⟩
theorem ngi_e2 (s:ByteArray) (w:World) (_hl:s.size<=9223372036854775807) (h2:s.size=2) (a:Nat) (e0:∀ h,(s[0]'h).toNat=a) (ha:128<=a) (ha2:a<256) (b:Nat) (e1:∀ h,(s[1]'h).toNat=b) (hb:128<=b) (hb2:b<256) :
  Calls Tryz.prog 71 #[.string s] w fun e w'=>e=.returned (.tuple #[.int .i64 0,.string ⟨#[]⟩,.bool false])/\∃ n,w'=w.drewN n:=by
 go_enter Tryz.func71,Tryz.ntmps71;go_wp2;refine wp_loop_rounds 4 ?_;rw[rounds_succ];go_wp2;rw[rounds_succ];go_wp2;rw[rounds_succ];go_wp2;all_goals go_ret3
 all_goals exact⟨rfl,0,rfl⟩
theorem ngi_z2 (s:ByteArray) (w:World) (_hl:s.size<=9223372036854775807) (h2:3<=s.size) (a:Nat) (e0:∀ h,(s[0]'h).toNat=a) (ha:128<=a) (ha2:a<256) (b:Nat) (e1:∀ h,(s[1]'h).toNat=b) (hb:128<=b) (hb2:b<256) (e2:∀ h,(s[2]'h).toNat=0) :
  Calls Tryz.prog 71 #[.string s] w fun e w'=>e=.returned (.tuple #[.int .i64 0,.string ⟨#[]⟩,.bool false])/\∃ n,w'=w.drewN n:=by
 go_enter Tryz.func71,Tryz.ntmps71;go_wp2;refine wp_loop_rounds 4 ?_;rw[rounds_succ];go_wp2;rw[rounds_succ];go_wp2;rw[rounds_succ];go_wp2;all_goals go_ret3
 all_goals exact⟨rfl,0,rfl⟩
theorem ngi_b2 (s:ByteArray) (w:World) (_hl:s.size<=9223372036854775807) (h2:3<=s.size) (a:Nat) (e0:∀ h,(s[0]'h).toNat=a) (ha:128<=a) (ha2:a<256) (b:Nat) (e1:∀ h,(s[1]'h).toNat=b) (hb:128<=b) (hb2:b<256) (c:Nat) (e2:∀ h,(s[2]'h).toNat=c) (hc:c<128) (hc0:0<c) (hbig:999999<(a:Int) % 128+(b:Int) % 128*128+(c:Int) % 128*16384) :
  Calls Tryz.prog 71 #[.string s] w fun e w'=>e=.returned (.tuple #[.int .i64 0,.string ⟨#[]⟩,.bool false])/\∃ n,w'=w.drewN n:=by
 have hq:((c:Int)==0)=false:=by rw[zaJ];omega
 go_enter Tryz.func71,Tryz.ntmps71;go_wp2;refine wp_loop_rounds 4 ?_;rw[rounds_succ];go_wp2;rw[rounds_succ];go_wp2;rw[rounds_succ];go_wp2;all_goals go_ret3
 all_goals exact⟨rfl,0,rfl⟩
theorem ngi_y2 (s:ByteArray) (w:World) (_hl:s.size<=9223372036854775807) (h2:3<=s.size) (a:Nat) (e0:∀ h,(s[0]'h).toNat=a) (ha:128<=a) (ha2:a<256) (b:Nat) (e1:∀ h,(s[1]'h).toNat=b) (hb:128<=b) (hb2:b<256) (c:Nat) (e2:∀ h,(s[2]'h).toNat=c) (hc:c<128) (hc0:0<c) (hbig:(a:Int) % 128+(b:Int) % 128*128+(c:Int) % 128*16384<=999999) :
  Calls Tryz.prog 71 #[.string s] w fun e w'=>e=.returned (.tuple #[.int .i64 ((a:Int) % 128+(b:Int) % 128*128+(c:Int) % 128*16384),.string (s.extract 3 s.size),.bool true])/\∃ n,w'=w.drewN n:=by
 have hq:((c:Int)==0)=false:=by rw[zaJ];omega
 go_enter Tryz.func71,Tryz.ntmps71;go_wp2;refine wp_loop_rounds 4 ?_;rw[rounds_succ];go_wp2;rw[rounds_succ];go_wp2;rw[rounds_succ];go_wp2;go_region
 go_wp2;all_goals go_ret3
 all_goals exact⟨rfl,1,rfl⟩
theorem ngi_e3 (s:ByteArray) (w:World) (_hl:s.size<=9223372036854775807) (h2:3<=s.size) (a:Nat) (e0:∀ h,(s[0]'h).toNat=a) (ha:128<=a) (ha2:a<256) (b:Nat) (e1:∀ h,(s[1]'h).toNat=b) (hb:128<=b) (hb2:b<256) (c:Nat) (e2:∀ h,(s[2]'h).toNat=c) (hc:128<=c) (hc2:c<256) :
  Calls Tryz.prog 71 #[.string s] w fun e w'=>e=.returned (.tuple #[.int .i64 0,.string ⟨#[]⟩,.bool false])/\∃ n,w'=w.drewN n:=by
 go_enter Tryz.func71,Tryz.ntmps71;go_wp2;refine wp_loop_rounds 4 ?_;rw[rounds_succ];go_wp2;rw[rounds_succ];go_wp2;rw[rounds_succ];go_wp2;rw[rounds_succ];go_wp2;all_goals go_ret3
 all_goals exact⟨rfl,0,rfl⟩
def getNV (o:Option (Nat × Wf.Bs)):Value :=
 match o with
 | none=>.tuple #[.int .i64 0,.string ⟨#[]⟩,.bool false]
 | some (n,r)=>.tuple #[.int .i64 (n:Int),.string ⟨r.toArray⟩,.bool true]
theorem ret3 {a b:Int} {s t:ByteArray} {x y:Bool} (h1:a=b) (h2:s=t) (h3:x=y):Ending.returned (.tuple #[.int .i64 a,.string s,.bool x])=.returned (.tuple #[.int .i64 b,.string t,.bool y]):=by rw[h1,h2,h3]
theorem byte_fact {s:ByteArray} {l:List UInt8} (hs:s.data.toList=l) {i:Nat} {c:UInt8} (hc:l[i]? = some c):∀ h:i<s.size,(s[i]'h).toNat=c.toNat:=by
 intro h;subst hs;have:s.data.toList[i]? = some (s[i]'h):=by
  rw[Array.getElem?_toList,Array.getElem?_eq_getElem (by exact h)];rfl
 rw[this] at hc;simp only[zaE] at hc;rw[hc]
theorem numGet_impl (s:ByteArray) (w:World) (hl:s.size<=9223372036854775807) :
  Calls Tryz.prog 71 #[.string s] w fun e w'=>e=.returned (getNV (Wf.getN s.data.toList))/\∃ n,w'=w.drewN n:=by
 obtain⟨l,hs⟩:∃ l,s.data.toList=l:=⟨_,rfl⟩;have hsz:s.size=l.length:=by rw[<-hs];exact Array.length_toList.symm
 rw[hs];match l with
 | []=>exact ngi_e0 s w hl (by simpa using hsz)
 | a::r =>
  simp only[zaF] at hsz;have e0:=byte_fact hs (i:=0) (c:=a) rfl;have ha:=a.toNat_lt;by_cases h1:a.toNat<128
  ·have hg:Wf.getN (a::r)=some (a.toNat,r):=by simp[Wf.getN,h1]
   rw[hg];refine(ngi_y0 s w hl (by omega) _ e0 h1).mono fun e w' ⟨he,hw⟩=>⟨?_,hw⟩;rw[he,Go.Lib.Pa.extract_from,hs];exact ret3 (by omega) rfl rfl
  ·match r with
   | [] =>
    have hg:Wf.getN [a]=none:=(by simp[Wf.getN,h1]);rw[hg];exact ngi_e1 s w hl (by simpa using hsz) _ e0 (by omega) ha
   | b::r2 =>
    simp only[zaF] at hsz;have e1:=byte_fact hs (i:=1) (c:=b) rfl;have hb:=b.toNat_lt;by_cases h2:b.toNat<128
    ·by_cases h3:b.toNat=0
     ·have hg:Wf.getN (a::b::r2)=none:=by simp[Wf.getN,h1,h3]
      rw[hg];rw[h3] at e1;exact ngi_z1 s w hl (by omega) _ e0 (by omega) ha e1
     ·have hg:Wf.getN (a::b::r2)=some (a.toNat % 128+b.toNat*128,r2):=by simp[Wf.getN,h1,h2,h3]
      rw[hg];refine(ngi_y1 s w hl (by omega) _ e0 (by omega) ha _ e1 h2 (by omega)).mono fun e w' ⟨he,hw⟩=>⟨?_,hw⟩;rw[he,Go.Lib.Pa.extract_from,hs];exact ret3 (by omega) rfl rfl
    ·match r2 with
     | [] =>
      have hg:Wf.getN [a,b]=none:=(by simp[Wf.getN,h1,h2]);rw[hg];exact ngi_e2 s w hl (by simpa using hsz) _ e0 (by omega) ha _ e1 (by omega) hb
     | c::r3 =>
      simp only[zaF] at hsz;have e2:=byte_fact hs (i:=2) (c:=c) rfl;have hc:=c.toNat_lt;by_cases h4:c.toNat<128
      ·by_cases h5:c.toNat=0
       ·have hg:Wf.getN (a::b::c::r3)=none:=by simp[Wf.getN,h1,h2,h4,h5]
        rw[hg];rw[h5] at e2;exact ngi_z2 s w hl (by omega) _ e0 (by omega) ha _ e1 (by omega) hb e2
       ·by_cases h6:999999<a.toNat % 128+b.toNat % 128*128+c.toNat*16384
        ·have hg:Wf.getN (a::b::c::r3)=none:=by simp only[Wf.getN,if_neg h1,if_neg h2,if_pos h4];rw[if_pos (.inr h6)]
         rw[hg];exact ngi_b2 s w hl (by omega) _ e0 (by omega) ha _ e1 (by omega) hb _ e2 h4 (by omega) (by omega)
        ·have hg:Wf.getN (a::b::c::r3)=some (a.toNat % 128+b.toNat % 128*128+c.toNat*16384,r3):=by simp only[Wf.getN,if_neg h1,if_neg h2,if_pos h4];rw[if_neg (by omega)]
         rw[hg];refine(ngi_y2 s w hl (by omega) _ e0 (by omega) ha _ e1 (by omega) hb _ e2 h4 (by omega) (by omega)).mono fun e w' ⟨he,hw⟩=>⟨?_,hw⟩;rw[he,Go.Lib.Pa.extract_from,hs];exact ret3 (by omega) rfl rfl
      ·have hg:Wf.getN (a::b::c::r3)=none:=by simp[Wf.getN,h1,h2,h4]
       rw[hg];exact ngi_e3 s w hl (by omega) _ e0 (by omega) ha _ e1 (by omega) hb _ e2 (by omega) hc
end Go.Proofs.YtidjpalnmnehmaaGreatDoor

namespace Go.Proofs.YtidjpalnmnehmaaGreatDoor
open Go.ChangeShapes Go.WideShapes Go.ChangeAt Go.RowKit Go.Lib
structure Br (W:World) (rb sb:Nat) (s:List UInt8) (bad:Bool) (sk:Value) (d:Nat):Prop where
 lt:rb<W.heap.size
 c0:W.cell? ⟨rb,0,none⟩=some (ptr sb)
 c1:W.cell? ⟨rb,1,none⟩=some (tx s)
 c2:W.cell? ⟨rb,2,none⟩=some (.bool bad)
 c3:W.cell? ⟨rb,3,none⟩=some sk
 c4:W.cell? ⟨rb,4,none⟩=some (.int .i64 d)
 f1:W.frozen? ⟨rb,1,none⟩=false
 f2:W.frozen? ⟨rb,2,none⟩=false
 f3:W.frozen? ⟨rb,3,none⟩=false
 f4:W.frozen? ⟨rb,4,none⟩=false
section
variable {W W':World} {rb sb:Nat} {s r:List UInt8} {bad:Bool} {sk:Value} {d:Nat}
theorem Br.keep (h:Br W rb sb s bad sk d) (hs:W.heap.size<=W'.heap.size) (hb:W'.heap[rb]? = W.heap[rb]?):Br W' rb sb s bad sk d:=by
 have cd:=fun o=>zbJ (w:=W) (w':=W') (a:=⟨rb,o,none⟩) hb;have cf:=fun o=>World.frozen?_of_block (w:=W) (w':=W') (a:=⟨rb,o,none⟩) hb;exact⟨zaC h.lt hs,(cd 0).trans h.c0,(cd 1).trans h.c1,(cd 2).trans h.c2,(cd 3).trans h.c3,(cd 4).trans h.c4,(cf 1).trans h.f1,(cf 2).trans h.f2,(cf 3).trans h.f3,(cf 4).trans h.f4⟩
theorem Br.cZ (h:Br W rb sb s bad sk d) {B:Nat} (hb:Below B W W') (hB:rb<B):Br W' rb sb s bad sk d:=h.keep hb.size (hb.block rb hB)
theorem Br.below (h:Br W rb sb s bad sk d) (hb:Below W.heap.size W W'):Br W' rb sb s bad sk d:=h.cZ hb h.lt
theorem Br.beside (h:Br W rb sb s bad sk d) {b:Nat} (hb:aA b W W') (hn:rb≠b):Br W' rb sb s bad sk d:=h.keep hb.size (hb.block rb h.lt hn)
theorem Br.drewN (h:Br W rb sb s bad sk d) (n:Nat):Br (W.drewN n) rb sb s bad sk d:=h.below ⟨rfl,rfl,rfl,zaA,fun _ _=>rfl⟩
theorem Br.text (h:Br W rb sb s bad sk d) (r:List UInt8):Br (W.setCell ⟨rb,1,none⟩ (tx r)) rb sb r bad sk d :=
 ⟨by simpa using h.lt,(zbA W _ _ _ (by simp)).trans h.c0,zbC W _ _ h.c1,(zbA W _ _ _ (by simp)).trans h.c2,(zbA W _ _ _ (by simp)).trans h.c3,(zbA W _ _ _ (by simp)).trans h.c4,by simpa using h.f1,by simpa using h.f2,by simpa using h.f3,by simpa using h.f4⟩
theorem Br.fail (h:Br W rb sb s bad sk d):Br (W.setCell ⟨rb,2,none⟩ (.bool true)) rb sb s true sk d :=
 ⟨by simpa using h.lt,(zbA W _ _ _ (by simp)).trans h.c0,(zbA W _ _ _ (by simp)).trans h.c1,zbC W _ _ h.c2,(zbA W _ _ _ (by simp)).trans h.c3,(zbA W _ _ _ (by simp)).trans h.c4,by simpa using h.f1,by simpa using h.f2,by simpa using h.f3,by simpa using h.f4⟩
theorem Br.skp (h:Br W rb sb s bad sk d) (sk':Value):Br (W.setCell ⟨rb,3,none⟩ sk') rb sb s bad sk' d :=
 ⟨by simpa using h.lt,(zbA W _ _ _ (by simp)).trans h.c0,(zbA W _ _ _ (by simp)).trans h.c1,(zbA W _ _ _ (by simp)).trans h.c2,zbC W _ _ h.c3,(zbA W _ _ _ (by simp)).trans h.c4,by simpa using h.f1,by simpa using h.f2,by simpa using h.f3,by simpa using h.f4⟩
theorem Br.dep (h:Br W rb sb s bad sk d) (d':Nat):Br (W.setCell ⟨rb,4,none⟩ (.int .i64 d')) rb sb s bad sk d' :=
 ⟨by simpa using h.lt,(zbA W _ _ _ (by simp)).trans h.c0,(zbA W _ _ _ (by simp)).trans h.c1,(zbA W _ _ _ (by simp)).trans h.c2,(zbA W _ _ _ (by simp)).trans h.c3,zbC W _ _ h.c4,by simpa using h.f1,by simpa using h.f2,by simpa using h.f3,by simpa using h.f4⟩
end
section
variable (rb sb:Nat) (sk:Value) (d:Nat) (w:World)
theorem bnum_yes (s r:List UInt8) (bad:Bool) (n:Nat) (hs:s.length<=1000000) (H:Br w rb sb s bad sk d) (hn:Wf.getN s=some (n,r)):Calls Tryz.prog 45 #[ptr rb] w fun e w'=>e=.returned (.int .i64 n)/\Br w' rb sb r bad sk d/\aA rb w w':=by
 have HH:=hid H;have hc1:=H.c1;have hlt:=H.lt;obtain⟨S,hS⟩:∃ S:ByteArray,(⟨s.toArray⟩:ByteArray)=S:=⟨_,rfl⟩;have hSl:S.data.toList=s:=by rw[<-hS]
 rw[tx,hS] at hc1;obtain⟨R,hR⟩:∃ R:ByteArray,(⟨r.toArray⟩:ByteArray)=R:=⟨_,rfl⟩;have HR:=hid hR;have HN:=hid fun wz=>(numGet_impl S wz (by rw[<-aC,hSl];omega)).mono (R':=fun e w'=>e=.returned (.tuple #[.int .i64 n,.string R,.bool true])/\Below wz.heap.size wz w') fun e w' ⟨h1,q,h2⟩=>⟨by rw[h1,hSl,hn,getNV,hR],by rw[h2];exact⟨rfl,rfl,rfl,zaA,fun _ _=>rfl⟩⟩;clear H hS hSl hn hR;go_enter Tryz.func45,Tryz.ntmps45;go_wp2_with (go_at_call 71;refine(HN.out _).mono ?_;rintro e w1 ⟨rfl,hb⟩;have HS1:=hid (HH.out.below hb);have k1:=HS1.out.c1;have kf:=HS1.out.f1;have kl:=HS1.out.lt;have HB:=hid (aA.aF (rb:=rb) hb (zaA));clear hb)
 go_ret
 exact⟨rfl,by rw[<-HR.out];exact HS1.out.text r,HB.out.trans (aA.set _ _ _ _)⟩
theorem bnum_no (s:List UInt8) (bad:Bool) (hs:s.length<=1000000) (H:Br w rb sb s bad sk d) (hn:Wf.getN s=none):Calls Tryz.prog 45 #[ptr rb] w fun e w'=>e=.returned (.int .i64 0)/\Br w' rb sb [] true sk d/\aA rb w w':=by
 have HH:=hid H;have hc1:=H.c1;have hlt:=H.lt;obtain⟨S,hS⟩:∃ S:ByteArray,(⟨s.toArray⟩:ByteArray)=S:=⟨_,rfl⟩;have hSl:S.data.toList=s:=by rw[<-hS]
 rw[tx,hS] at hc1;have HN:=hid fun wz=>(numGet_impl S wz (by rw[<-aC,hSl];omega)).mono (R':=fun e w'=>e=.returned (.tuple #[.int .i64 0,.string ⟨#[]⟩,.bool false])/\Below wz.heap.size wz w') fun e w' ⟨h1,q,h2⟩=>⟨by rw[h1,hSl,hn,getNV],by rw[h2];exact⟨rfl,rfl,rfl,zaA,fun _ _=>rfl⟩⟩;clear H hS hSl hn;go_enter Tryz.func45,Tryz.ntmps45;go_wp2_with (go_at_call 71;refine(HN.out _).mono ?_;rintro e w1 ⟨rfl,hb⟩;have HS1:=hid (HH.out.below hb);have k1:=HS1.out.c1;have k2:=HS1.out.c2;have kf:=HS1.out.f1;have kg:=HS1.out.f2;have kl:=HS1.out.lt;have HB:=hid (aA.aF (rb:=rb) hb (zaA));clear hb)
 go_ret
 exact⟨rfl,HS1.out.fail.text [],(HB.out.trans (aA.set _ _ _ _)).trans (aA.set _ _ _ _)⟩
theorem btake_yes (s:List UInt8) (n:Nat) (hs:s.length<=1000000) (H:Br w rb sb s false sk d) (hn:n<=s.length):Calls Tryz.prog 46 #[ptr rb,.int .i64 n] w fun e w'=>e=.returned (tx (s.take n))/\Br w' rb sb (s.drop n) false sk d/\aA rb w w':=by
 have HH:=hid H;have hc1:=H.c1;have hc2:=H.c2;have hlt:=H.lt;have f1:=H.f1;obtain⟨S,hS⟩:∃ S:ByteArray,(⟨s.toArray⟩:ByteArray)=S:=⟨_,rfl⟩;have hSl:S.data.toList=s:=by rw[<-hS]
 have hSs:S.size=s.length:=by rw[<-hS];rfl
 rw[tx,hS] at hc1;have hn2:n<=S.size:=by omega
 have hs2:S.size<=1000000:=by omega
 have HA:=hid (show S.extract 0 n=⟨(s.take n).toArray⟩ from cU _ _ (by rw[bB,List.drop_zero,Nat.sub_zero,hSl]));have HD:=hid (show S.extract n S.size=⟨(s.drop n).toArray⟩ from cU _ _ (by rw[bB,hSl,hSs,zaS (by rw[List.length_drop];exact zaA)]));clear H hS hSl hs hn hSs;go_enter Tryz.func46,Tryz.ntmps46;go_wp2_with fail
 go_ret
 exact⟨aX HA.out,by have:=HH.out.text (s.drop n);rw[tx,<-HD.out] at this;exact this,aA.set _ _ _ _⟩
theorem btake_bad (s:List UInt8) (n:Nat) (H:Br w rb sb s true sk d):Calls Tryz.prog 46 #[ptr rb,.int .i64 n] w fun e w'=>e=.returned (tx [])/\Br w' rb sb s true sk d/\aA rb w w':=by
 have HH:=hid H;have hc2:=H.c2;have hlt:=H.lt;have f2:=H.f2;clear H;go_enter Tryz.func46,Tryz.ntmps46;go_wp2_with fail
 go_ret
 exact⟨rfl,HH.out.fail,aA.set _ _ _ _⟩
theorem btake_long (s:List UInt8) (n:Nat) (hs:s.length<=1000000) (H:Br w rb sb s false sk d) (hn:s.length<n):Calls Tryz.prog 46 #[ptr rb,.int .i64 n] w fun e w'=>e=.returned (tx [])/\Br w' rb sb s true sk d/\aA rb w w':=by
 have HH:=hid H;have hc1:=H.c1;have hc2:=H.c2;have hlt:=H.lt;have f2:=H.f2;obtain⟨S,hS⟩:∃ S:ByteArray,(⟨s.toArray⟩:ByteArray)=S:=⟨_,rfl⟩;have hSs:S.size=s.length:=by rw[<-hS];rfl
 rw[tx,hS] at hc1;have hn2:S.size<n:=by omega
 clear H hS hs hn hSs;go_enter Tryz.func46,Tryz.ntmps46;go_wp2_with fail
 go_ret
 exact⟨rfl,HH.out.fail,aA.set _ _ _ _⟩
theorem btake_no (s:List UInt8) (bad:Bool) (n:Nat) (hs:s.length<=1000000) (H:Br w rb sb s bad sk d) (hn:bad=true\/s.length<n):Calls Tryz.prog 46 #[ptr rb,.int .i64 n] w fun e w'=>e=.returned (tx [])/\Br w' rb sb s true sk d/\aA rb w w':=by
 cases bad with
 | true=>exact btake_bad rb sb sk d w s n H
 | false=>exact btake_long rb sb sk d w s n hs H (hn.resolve_left (by simp))
theorem bflag_w (s r:List UInt8) (b0:Bool) (X:ByteArray) (L E:Bool) (hL:Op.bytesLess X.toList [1]=L) (hE:(X.toList==[1])=E)
  (ht:Calls Tryz.prog 46 #[ptr rb,.int .i64 1] w fun e w'=>e=.returned (.string X)/\Br w' rb sb r b0 sk d/\aA rb w w'):Calls Tryz.prog 97 #[ptr rb] w fun e w'=>e=.returned (.bool E)/\Br w' rb sb r (b0 || (!L && !E)) sk d/\aA rb w w':=by
 have HT:=hid ht;clear ht;cases L <;> cases E
 ·go_enter Tryz.func97,Tryz.ntmps97
  go_wp2_with (go_at_call 46;refine HT.out.mono ?_;rintro e w1 ⟨rfl,hs1,hb1⟩;have S1:=hid hs1;have c2:=hs1.c2;have f2:=hs1.f2;have hl:=hs1.lt;have B1:=hid hb1;clear hs1 hb1)
  go_ret
  exact⟨rfl,by rw[Bool.not_false,Bool.and_true,Bool.or_true];exact S1.out.fail,B1.out.trans (aA.set _ _ _ _)⟩
 all_goals
  go_enter Tryz.func97,Tryz.ntmps97;go_wp2_with (go_at_call 46;refine HT.out.mono ?_;rintro e w1 ⟨rfl,hs1,hb1⟩;have S1:=hid hs1;have c2:=hs1.c2;have f2:=hs1.f2;have hl:=hs1.lt;have B1:=hid hb1;clear hs1 hb1)
  go_ret
  exact⟨rfl,by simpa using S1.out,B1.out⟩
theorem bflag_some (c:UInt8) (r:List UInt8) (hs:(c::r).length<=1000000) (H:Br w rb sb (c::r) false sk d):Calls Tryz.prog 97 #[ptr rb] w fun e w'=>e=.returned (.bool (c==1))/\Br w' rb sb r (decide (1<c)) sk d/\aA rb w w':=by
 have hx:∀ b:UInt8,(false || (!Op.bytesLess [b] [1] && !([b]==[1])))=decide (1<b)/\([b]==[1])=(b==1):=by
  intro b;have h:∀ n:Fin 256,(false || (!Op.bytesLess [UInt8.ofNat n.val] [1] && !([UInt8.ofNat n.val]==[1])))=decide (1<UInt8.ofNat n.val)/\([UInt8.ofNat n.val]==[1])=(UInt8.ofNat n.val==1):=by decide +kernel
  have:=h ⟨b.toNat,b.toNat_lt⟩;simpa using this
 obtain⟨h1,h2⟩:=hx c;have e0:(⟨#[c]⟩:ByteArray).toList=[c]:=by rw[zaZ]
 have:=bflag_w rb sb sk d w (c::r) r false ⟨#[c]⟩ _ _ (by rw[e0]) (by rw[e0]) (btake_yes rb sb sk d w (c::r) 1 hs H (by simp));rw[h1,h2] at this;exact this
theorem bflag_nil (H:Br w rb sb [] false sk d):Calls Tryz.prog 97 #[ptr rb] w fun e w'=>e=.returned (.bool false)/\Br w' rb sb [] true sk d/\aA rb w w':=by
 have e0:(⟨#[]⟩:ByteArray).toList=[]:=by rw[zaZ]
 exact bflag_w rb sb sk d w [] [] true ⟨#[]⟩ true false (by rw[e0];rfl) (by rw[e0];rfl) (btake_no rb sb sk d w [] false 1 (by simp) H (.inr (by simp)))
end
