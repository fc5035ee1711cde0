/- Packed. -/
import Derived.Test.YtidjpalnmnehmaaGreatDoorP29
set_option maxRecDepth 99999
set_option maxHeartbeats 40000000
set_option linter.all false
namespace Go.Proofs.YtidjpalnmnehmaaGreatDoor
open Go.ChangeShapes Go.WideShapes Go.ChangeAt Go.RowKit Go.Lib
section
variable (x:Wf.Sc) (rb sb:Nat) (W:World) (n:Nat) (t:Wf.Ty) (nm:List UInt8) (w:World)
def Rel (x:Wf.Sc) (t:Wf.Ty) (n rb sb:Nat) (w wr:World) (r cur:List UInt8) (last:Nat) (a:Option Addr) (c:Nat) (l:List Wf.V) (es:List (List Value)):Prop :=
 Rst rb sb w wr cur false a c l es/\Wf.pl l+cur.length=r.length/\Wf.bY x t (fun k' s'=>Wf.parse x n k' s') [] 0 r=Wf.bY x t (fun k' s'=>Wf.parse x n k' s') l last cur
theorem qS (hx:Wf.ScOk x) (htx:t∈x) (r:List UInt8) (hr:r.head? ≠ some 125) (hf:x.find nm=some t) (ht:t.fields.length<=1000) (lo tb:Nat) (hW:Below W.heap.size W w) (hsc:ScL W lo sb x) (hT:TyL W lo tb t) (h82:t.sort=82) (hWr:W.heap.size<=rb) (IH:∀ f∈t.fields,Reads x rb sb W n f.kind) (hn:r.length<n) (h400:r.length<=400) (H:Sn w rb sb (123::r) false):Calls Tryz.prog 116 #[ptr rb,ptr tb] w fun e w'=>aQ (Wf.parse x (n+1) (.ref nm) (123::r)) (123::r) rb sb w e w':=by
 have HP:=hid (Wf.nP x n hf h82 hr);have HN:=hid fun hp=>hr ((pre1 125 r).1 hp);obtain⟨htb,c0⟩:=hT.sort;rw[h82] at c0;have y0:w.cell? ⟨tb,0,none⟩=some (.int .u8 82):=(hW.cell (p:=⟨tb,0,none⟩) htb).trans c0;have htw:tb<w.heap.size:=Nat.lt_of_lt_of_le htb hW.size;have htw1:tb<w.heap.size+1:=by omega
 have h69:t.sort≠69:=by rw[h82];decide
 have HW:=hid hW;have HSC:=hid hsc;have HT:=hid hT;have HIH:=hid IH;have H69:=hid h69;have HX:=hid hx;have HTX:=hid htx;have hrb:=H.lt;have HH:=hid H;have ST:=hid fun W1 h=>kL w rb 82 W1 h;clear H hW hsc hT IH hr hf h82 h69 hx htx c0;go_enter Tryz.func116,Tryz.ntmps116;go_wp2_with (first|(go_at_call 112;have _u:=hS1;refine(cZ rb sb _ r [125] false hS1.out (.inr HN.out)).mono ?_;rintro e w2 ⟨rfl,rfl⟩)|(go_at_call 113;obtain⟨z0,bl0,b0⟩:=ST.out _ rfl;refine(bR rb sb _ [123] r (HH.out.below b0)).mono ?_;rintro e w1 ⟨rfl,hs1,hb1⟩;have Z1:=hid (z0.step hb1 (by omega));have BL:=hid (bl0.step hrb hb1);have hS1:=hid hs1;have HB1:=hid ((aA.aI b0 (Nat.le_refl _)).trans hb1);have cb2:=hs1.c2;have hbl:=hs1.lt;clear z0 bl0 b0 hs1 hb1))
 go_loopw [8] (fun s8 wr=>∃ (last:Nat) (cur:List UInt8) (a:Option Addr) (c:Nat) (l:List Wf.V) (es:List (List Value)),s8=.int .i64 last/\last<=200/\Hid (Rel x t n rb sb w wr r cur last a c l es)) (fun _ wr=>iV wr rb)
 case atStart=>exact⟨0,r,none,0,[],[],rfl,Nat.zero_le _,hid ⟨⟨Z1.out,BL.out,hS1.out⟩,by rw[Wf.oK,Nat.zero_add],rfl⟩⟩
 case round =>
  obtain⟨last,cur,a,c,l,es,rfl,hl200,hh⟩:=hrel;have hl400:es.length<=400:=by
   have h1:=hh.out.1.bld.hl;have h2:=hh.out.2.1;unfold Wf.pl at h2;omega
  have hcn:cur.length<n:=by have:=hh.out.2.1;omega
  have hc400:cur.length<=400:=by have:=hh.out.2.1;omega
  obtain⟨m,hm⟩:∃ m,es.length=m:=⟨_,rfl⟩;have HM:=hid hm;have BW:=hid (aA.below HW.out HW.out.size hWr hh.out.1.bld.fr);have hs2:=hh.out.1.sn.c2;have hrw:rb<wr.heap.size:=hh.out.1.sn.lt;have hbw:w.heap.size+1<wr.heap.size:=by have:=hh.out.1.bld.sz;omega
  have HST:=hid (Wf.fldsL_step (x:=x) (t:=t) (p:=fun k' s'=>Wf.parse x n k' s') (fun k s v r h=>Wf.dX (v:=v) (r:=r) h) l last cur);rw[hm] at hl400;clear hm;by_cases hno:∃ g q f,Wf.aO 200 cur=some (g,61::q)/\t.field g=some f
  ·obtain⟨g0,q0,f0,hn0,hf0⟩:=hno
   have hq0:q0.length<n:=(by have:=Wf.iF hn0;simp at this;omega);have HFLD:=hid (oB x rb sb W n t cur wr f0 g0 q0 hn0 hf0 ht hc400 lo tb BW.out HT.out hWr hh.out.1.sn H69.out (HIH.out f0 (Wf.iD hf0).1) hq0);clear hn0 hf0 hq0;go_wp2_with (go_at_call 145;refine HFLD.out.mono ?_;rintro e w2 ⟨hb2,cs,f,v,r2,fb,o,rfl,hfm,hf2,hfa,hvc,ho⟩;obtain⟨G,hG⟩:∃ G,f.tag=G:=⟨_,rfl⟩;rw[hG] at hvc hf2;obtain⟨b2,o2,c2,q3,g3,n3,c3,T3,a3,rfl,h1c,hcm,hpb,hb2lt,hvk,k0,k1,k2,k3⟩:=hvc.fld;have HTG:=hid (show W.cell? ⟨fb,o,none⟩=some (.int .i64 G) by(obtain⟨_,_,_,_,hc⟩:=dW t.sort f;rw[<-hG];exact hfa.2 0 _ (by rw[hc];rfl)));have HVC:=hid hvc;have HVK:=hid hvk;have HB2:=hid hb2;have HO:=hid ho;have HFA:=hid hfa;have HFM:=hid hfm;have HCM:=hid hcm;have HGG:=hid hG;clear hvc hvk hb2 ho hfa hfm hcm hG)
   have hal:=(Below.refl w2.heap.size w2).alloc (Nat.le_refl _) (.cells #[.int .u8 61,.string ⟨#[]⟩,.int .i64 G,.slice (some ⟨b2,o2,none⟩) 1 c2] 51);have z0:(w2.alloc (.cells #[.int .u8 61,.string ⟨#[]⟩,.int .i64 G,.slice (some ⟨b2,o2,none⟩) 1 c2] 51)).cell? ⟨w2.heap.size,0,none⟩=some (.int .u8 61):=(by simp[go_sem]);have z1:(w2.alloc (.cells #[.int .u8 61,.string ⟨#[]⟩,.int .i64 G,.slice (some ⟨b2,o2,none⟩) 1 c2] 51)).cell? ⟨w2.heap.size,1,none⟩=some (.string ⟨#[]⟩):=(by simp[go_sem]);have z2:(w2.alloc (.cells #[.int .u8 61,.string ⟨#[]⟩,.int .i64 G,.slice (some ⟨b2,o2,none⟩) 1 c2] 51)).cell? ⟨w2.heap.size,2,none⟩=some (.int .i64 G):=(by simp[go_sem]);have z3:(w2.alloc (.cells #[.int .u8 61,.string ⟨#[]⟩,.int .i64 G,.slice (some ⟨b2,o2,none⟩) 1 c2] 51)).cell? ⟨w2.heap.size,3,none⟩=some (.slice (some ⟨b2,o2,none⟩) 1 c2):=(by simp[go_sem]);have hz:w2.heap.size<(w2.alloc (.cells #[.int .u8 61,.string ⟨#[]⟩,.int .i64 G,.slice (some ⟨b2,o2,none⟩) 1 c2] 51)).heap.size:=(by simp);obtain⟨W3,hW3⟩:∃ W3,w2.alloc (.cells #[.int .u8 61,.string ⟨#[]⟩,.int .i64 G,.slice (some ⟨b2,o2,none⟩) 1 c2] 51)=W3:=⟨_,rfl⟩;rw[hW3] at hal z0 z1 z2 z3 hz;rw[hW3];have hbs:w.heap.size+1<wr.heap.size:=hbw;have hwr2:wr.heap.size<=w2.heap.size:=HB2.out.size;have BWr:=hid (aA.below BW.out BW.out.size hWr HB2.out);have BW3:=hid (BWr.out.trans (hal.mono BWr.out.size));have HAL:=hid hal;have hfbw:fb<W3.heap.size:=Nat.lt_of_lt_of_le HFA.out.1 BW3.out.size;have hrb3:rb<W3.heap.size:=(by omega);have hb23:b2<W3.heap.size:=by omega
   -- what lies there while the rN value and the text are made
   have F:=hid fun(wz:World) (hz:Below W3.heap.size W3 wz)=>(show wz.cell? ⟨fb,o,none⟩=some (.int .i64 G)/\wz.cell? ⟨w2.heap.size,3,none⟩=some (.slice (some ⟨b2,o2,none⟩) 1 c2)/\wz.cell? ⟨b2,o2,none⟩=some (.int .u8 q3)/\wz.cell? ⟨b2,o2+1,none⟩=some (.string T3)/\wz.cell? ⟨b2,o2+2,none⟩=some (.int .i64 g3)/\wz.cell? ⟨b2,o2+3,none⟩=some (.slice a3 n3 c3)/\wz.cell? ⟨rb,0,none⟩=some (ptr sb) from by
    have cb:=fun k (u:Value) (hk:w2.cell? ⟨b2,k,none⟩=some u)=>(hz.cell (p:=⟨b2,k,none⟩) hb23).trans ((HAL.out.cell (p:=⟨b2,k,none⟩) hb2lt).trans hk);refine⟨(hz.cell (p:=⟨fb,o,none⟩) hfbw).trans ((BW3.out.cell (p:=⟨fb,o,none⟩) HFA.out.1).trans HTG.out),(hz.cell (p:=⟨w2.heap.size,3,none⟩) (by assumption)).trans z3,cb _ _ k0,cb _ _ k1,cb _ _ k2,cb _ _ k3,?_⟩;rcases HO.out with⟨_,hs⟩|⟨_,_,hs⟩
    ·exact((hs.below HAL.out).below hz).c0
    ·exact((hs.below HAL.out).below hz).c0)
   have HSNX:=hid fun(wz:World) (hz:Below W3.heap.size W3 wz)=>(show ∃ b,Sn wz rb sb r2 b from by
    rcases HO.out with⟨_,hs⟩|⟨_,_,hs⟩
    ·exact⟨_,(hs.below HAL.out).below hz⟩
    ·exact⟨_,(hs.below HAL.out).below hz⟩)
   obtain⟨f0,f1,f2,f3,f4,f5,f6⟩:=F.out W3 (Below.refl _ _);clear hal hW3;have hfd:=(HX.out.tys t HTX.out).fds f HFM.out;have hk12:=eI hfd;have hhas:=HX.out.refs t HTX.out H69.out f HFM.out;obtain⟨PT,hPT⟩:∃ PT:ByteArray,(⟨v.print.toArray⟩:ByteArray)=PT:=⟨_,rfl⟩;obtain⟨ST,hST⟩:∃ ST:ByteArray,(⟨(Wf.aL x f).toArray⟩:ByteArray)=ST:=⟨_,rfl⟩;have hpl:v.print.length<=1000000:=by
    rcases HO.out with⟨hp,_⟩|⟨_,⟨q,hq,hbv⟩,_⟩
    ·have:=jT hp
     rw[Wf.eJ] at this;simp at this;omega
    ·have:=hbv.1
     omega
   have HPR:=hid fun(wz:World) (hz:Below W3.heap.size W3 wz)=>(show Calls Tryz.prog 33 #[.agg #[.int .u8 q3,.string T3,.int .i64 g3,.slice a3 n3 c3]] wz fun e w'=>e=.returned (.string PT)/\Below wz.heap.size wz w' by
    rw[<-hPT];exact print v _ _ w2 wz HVK.out (HAL.out.trans (hz.mono HAL.out.size)) hpl)
   have HOF:=hid fun(wz:World) (hz:Below W3.heap.size W3 wz)=>(show Calls Tryz.prog 42 #[ptr sb,.pointer (some ⟨fb,o,none⟩)] wz fun e w'=>e=.returned (.string ST)/\Below wz.heap.size wz w' by
    rw[<-hST];exact of x HX.out lo sb fb o t.sort f W wz (BW3.out.trans (hz.mono BW3.out.size)) HSC.out H69.out HFA.out hk12 hhas)
   have HEQ:=hid (show(PT.toList==ST.toList)=decide (v.print=Wf.aL x f) by rw[<-hPT,<-hST,ByteArray.toList_eq,ByteArray.toList_eq,Bool.beq_eq_decide_eq]);clear hfd hk12 hhas hPT hST hpl;go_cut [59] from 25 to 75 (fun s59 wx=>∃ B:Bool,s59=.bool B/\Hid (B=(decide (G<=last) || decide (v.print=Wf.aL x f))/\Below W3.heap.size W3 wx))
   case first =>
    by_cases hle:G<=last
    ·have d1:decide (G<=last)=true:=decide_eq_true hle
     go_quiet (fail)
     all_goals (go_wp2_with fail;go_meet)
     all_goals exact⟨true,rfl,hid ⟨by rw[d1];rfl,⟨rfl,rfl,rfl,Nat.le_refl _,fun _ _=>rfl⟩⟩⟩
    ·have d1:decide (G<=last)=false:=decide_eq_false hle
     have hlt:last<G:=(by omega);go_region_held3 (fun w'=>w'.cell? ⟨fb,o,none⟩=some (.int .i64 G)/\w'.cell? ⟨w2.heap.size,3,none⟩=some (.slice (some ⟨b2,o2,none⟩) 1 c2)/\w'.cell? ⟨b2,o2,none⟩=some (.int .u8 q3)/\w'.cell? ⟨b2,o2+1,none⟩=some (.string T3)/\w'.cell? ⟨b2,o2+2,none⟩=some (.int .i64 g3)/\w'.cell? ⟨b2,o2+3,none⟩=some (.slice a3 n3 c3)/\w'.cell? ⟨rb,0,none⟩=some (ptr sb)) (first|exact⟨p0,p1,p2,p3,p4,p5,p6⟩|exact⟨t0,t1,t2,t3,t4,t5,t6⟩|go_keep) (first|(go_at_call 33;refine(HPR.out _ (by first|exact TS.out|(repeat (first|with_reducible exact Below.refl _ _|with_reducible refine Below.drew ?_)))).mono ?_;rintro e w3 ⟨rfl,hb3⟩;have TD:=Lib.hid (show Below W3.heap.size W3 w3 by first|exact TS.out.trans (hb3.mono TS.out.size)|(refine Below.trans (b:=_) ?_ hb3;repeat (first|with_reducible exact Below.refl _ _|with_reducible refine Below.drew ?_)));obtain⟨p0,p1,p2,p3,p4,p5,p6⟩:=F.out _ TD.out;clear hb3)|(go_at_call 42;refine(HOF.out _ (by first|exact TD.out|(repeat (first|with_reducible exact Below.refl _ _|with_reducible refine Below.drew ?_)))).mono ?_;rintro e w4 ⟨rfl,hb4⟩;have TS:=Lib.hid (show Below W3.heap.size W3 w4 by first|exact TD.out.trans (hb4.mono TD.out.size)|(refine Below.trans (b:=_) ?_ hb4;repeat (first|with_reducible exact Below.refl _ _|with_reducible refine Below.drew ?_)));obtain⟨t0,t1,t2,t3,t4,t5,t6⟩:=F.out _ TS.out;clear hb4))
     all_goals (go_wp2_with fail;go_meet)
     all_goals exact⟨_,rfl,hid ⟨by rw[d1,HEQ.out,Bool.false_or],by first|exact TS.out.trans (TD.out.mono TS.out.size)|exact TS.out|exact TD.out⟩⟩
   case rest =>
    obtain⟨B,rfl,hh2⟩:=hcut;have HBC:=hid (HB2.out.trans (aA.aI (rb:=rb) (HAL.out.trans (hh2.out.2.mono HAL.out.size)) (Nat.le_refl _)));have HAC:=hid (HAL.out.trans (hh2.out.2.mono HAL.out.size));obtain⟨bad2,HSN,HCS⟩:∃ bad2,Hid (Sn wc rb sb r2 bad2)/\Hid ((bad2=false/\Wf.fieldTok t (fun k s=>Wf.parse x n k s) cur=some (f,v,r2))\/(bad2=true/\Wf.fieldTok t (fun k s=>Wf.parse x n k s) cur=none/\∃ q,q.length+2<=cur.length/\Wf.Badv q r2 v)):=by
     rcases HO.out with⟨hp,hs⟩|⟨hp,hq,hs⟩
     ·exact⟨false,hid (hs.below HAC.out),hid (.inl ⟨rfl,hp⟩)⟩
     ·exact⟨true,hid (hs.below HAC.out),hid (.inr ⟨rfl,hp,hq⟩)⟩
    have HRL:=hid (show r2.length<=cur.length by
     rcases HCS.out with⟨_,hp⟩|⟨_,_,q,hq,hbv⟩
     ·have:=jT hp;omega
     ·have:=hbv.2;omega)
    have hcw:W3.heap.size<=wc.heap.size:=hh2.out.2.size;have hvc1:w.heap.size+1<wc.heap.size:=(by omega);have RC:=hid (hh.out.1.step hrb HBC.out HSN.out);have sc2:=HSN.out.c2;have sf2:=HSN.out.f2;have slt:=HSN.out.lt;have HVCC:=hid (HVC.out.below HAC.out);clear f0 f1 f2 f3 f4 f5 f6 k0 k1 k2 k3 hs2;cases B with
    | true =>
     have HRES:=hid (show Wf.parse x (n+1) (.ref nm) (123::r)=none by
      rw[HP.out,hh.out.2.2,HST.out];rcases HCS.out with⟨_,hp⟩|⟨_,hp,_⟩
      ·rw[hp]
       have hb:f.tag<=last\/v.print=Wf.aL x f:=by
        have h:=hh2.out.1.symm;rw[Bool.or_eq_true,decide_eq_true_eq,decide_eq_true_eq] at h;rw[HGG.out];exact h
       dsimp only;rw[if_pos hb];rfl
      ·rw[hp];rfl)
     have HBAD:=hid (rM hh.out.2.1 HRL.out);go_wp2_with (go_at_call 113;refine(bT rb sb _ r2 [125] true HSN.out.fail (.inl rfl)).mono ?_;rintro e w6 ⟨rfl,hs6,hb6⟩;have S6:=hid hs6;have R6:=hid (RC.out.step hrb ((aA.set rb wc 2 _).trans hb6) hs6);have HB6:=hid (HBC.out.trans ((aA.set rb wc 2 _).trans hb6));clear hs6 hb6;have v0:=R6.out.bld.v0;have v1:=R6.out.bld.v1;have v2:=R6.out.bld.v2;have v3:=R6.out.bld.v3;rw[HM.out] at v3;obtain⟨zl,zr0,zr1,zr2,zr3,zf0,zf1,zf2,zf3⟩:=R6.out.zero;have hvl:w.heap.size+1<w6.heap.size:=(by have:=R6.out.bld.sz;omega))
     all_goals exact bodyPost_ret (v:=.agg #[.int .u8 82,.string ⟨#[]⟩,.int .i64 0,.slice a m c]) (by simp[results,Tryz.results116,go_sem, *]) rfl (by
      have hR:∀ W4,aA w.heap.size w6 W4->aQ (Wf.parse x (n+1) (.ref nm) (123::r)) (123::r) rb sb w (.returned (.agg #[.int .u8 82,.string ⟨#[]⟩,.int .i64 0,.slice a m c])) W4:=fun W4 hb=>by
       obtain⟨hv,hf⟩:=R6.out.bld.out hb (Nat.le_refl _) (by omega) HM.out 82 [] 0 ⟨by omega,fun _=>.inr (.inr (.inr (.inl rfl))),fun h=>absurd h (by decide)⟩;exact⟨_,.mk 82 [] 0 l,r2,rfl,hv,hf,.inr ⟨HRES.out,HBAD.out,S6.out.beside hb (by omega)⟩⟩
      refine hR _ ?_
      (repeat (first|with_reducible exact aA.refl _ _|with_reducible refine aA.drew ?_|with_reducible refine aA.trans ?_ (aA.set _ _ _ _))))
    | false =>
     have HNB:=hid (show ¬ (f.tag<=last\/v.print=Wf.aL x f) by
      have h:=hh2.out.1.symm;rw[Bool.or_eq_false_iff,decide_eq_false_iff_not,decide_eq_false_iff_not] at h;rw[HGG.out];rintro(h1|h1)
      ·exact h.1 h1
      ·exact h.2 h1)
     have HM2:=hid fun(cs:List Value)=>(show(es++[cs]).length=m+1 by rw[List.length_append,HM.out];rfl);have HOWN:=hid (show wc.ownsRow (w.heap.size+1+1) 51 4 (.slice a m c) m es.flatten by have h:=RC.out.bld.own;rw[HM.out] at h;exact h);obtain⟨i0,hi0,hz0,hz1,hz2⟩:=info_parts rB;have HI0:=hid hi0;have HZ0:=hid hz0;have HZ1:=hid hz1;have HZ2:=hid hz2;have v3:=RC.out.bld.v3;have vf:=RC.out.bld.f3;rw[HM.out] at v3;have hw2c:w2.heap.size<wc.heap.size:=(by omega);have x0:=(hh2.out.2.cell (p:=⟨w2.heap.size,0,none⟩) (by assumption)).trans z0;have x1:=(hh2.out.2.cell (p:=⟨w2.heap.size,1,none⟩) (by assumption)).trans z1;have x2:=(hh2.out.2.cell (p:=⟨w2.heap.size,2,none⟩) (by assumption)).trans z2;have x3:=(hh2.out.2.cell (p:=⟨w2.heap.size,3,none⟩) (by assumption)).trans z3;have hfc:fb<wc.heap.size:=(by omega);have xt:=(hh2.out.2.cell (p:=⟨fb,o,none⟩) hfbw).trans ((BW3.out.cell (p:=⟨fb,o,none⟩) HFA.out.1).trans HTG.out);clear hi0 hz0 hz1 hz2 z0 z1 z2 z3;have hcase:(∃ p,bad2=false/\r2=44::p)\/Hid (bad2=true\/¬ [44] <+: r2):=by
      cases bad2 with
      | true=>exact .inr (hid (.inl rfl))
      | false =>
       by_cases h4:[44] <+: r2
       ·obtain⟨p,hp⟩:=h4;exact .inl ⟨p,rfl,hp.symm⟩
       ·exact .inr (hid (.inr h4))
     rcases hcase with⟨p,rfl,rfl⟩|HC
     ·have hp:Wf.fieldTok t (fun k s=>Wf.parse x n k s) cur=some (f,v,44::p):=by
       rcases HCS.out with⟨_,hp⟩|⟨hb,_⟩
       ·exact hp
       ·cases hb
      have hlen:=jT hp;have HE:=hid (show Wf.pl (l++[.mk 61 [] G [v]])+p.length=r.length/\p.length<cur.length/\Wf.bY x t (fun k' s'=>Wf.parse x n k' s') [] 0 r=Wf.bY x t (fun k' s'=>Wf.parse x n k' s') (l++[.mk 61 [] G [v]]) G p by
       rw[HGG.out] at hlen;simp only[List.length_cons] at hlen;refine⟨?_,by omega,?_⟩
       ·rw[Wf.gO];have:=hh.out.2.1;omega
       ·rw[hh.out.2.2,HST.out,hp]
        dsimp only;rw[if_neg HNB.out,HGG.out];rfl)
      clear hp hlen;go_wp2_with (first|(go_at_call 112;have RS:=hid (Rst.put hh.out.1 hrb HBC.out HM.out HVCC.out ((Below.refl _ _).alloc (Nat.le_refl _) _) HG4.out HOWN4.out HAT4.out HSN.out);refine(eZ rb sb _ [44] p RS.out.sn).mono ?_;rintro e w6 ⟨rfl,hs6,hb6⟩;have S6:=hid hs6;have R6:=hid (RS.out.step hrb hb6 hs6);clear hs6 hb6)|(at_builtin;refine wpList_append_lies _ rfl (.tmp 68) (.tmp 70) 49 rfl (w.heap.size+1+1) 51 i0 (.agg #[.int .u8 0,tx [],.int .i64 0,.slice none 0 0]) 4 56 Tryz.underlying49 HI0.out HZ0.out HZ1.out HZ2.out rfl (by decide) (.slice a m c) m _ (by rfl) (HOWN.out.alloc _) ⟨wc.heap.size,0,none⟩ 1 1 [.int .u8 61,.string ⟨#[]⟩,.int .i64 G,.slice (some ⟨b2,o2,none⟩) 1 c2] (by rfl) rfl (World.news_of_block (MapKept.heap_alloc wc (.cells #[.int .u8 61,.string ⟨#[]⟩,.int .i64 G,.slice (some ⟨b2,o2,none⟩) 1 c2] 51)).1) (jD _ _ _ _ _ _) (by decide) (by unfold maxLen;omega) (by omega) (by simp;omega) _ rfl ?_;intro g cap w4 hown4 hgrow4 hat4 hlt4;have B4:=hid (aW (base:=w.heap.size+1+1) hgrow4 (fun g hg=>(aT HOWN.out g hg).1) (by simp;omega));have u3:w4.cell? ⟨w.heap.size+1,3,none⟩=some (.slice a m c):=((B4.out.cell (p:=⟨w.heap.size+1,3,none⟩) (Nat.lt_succ_self _)).trans ((World.cell?_alloc_lt wc _ ⟨w.heap.size+1,3,none⟩ hvc1).trans v3));have uf:w4.frozen? ⟨w.heap.size+1,3,none⟩=false:=((B4.out.frozen (p:=⟨w.heap.size+1,3,none⟩) (Nat.lt_succ_self _)).trans ((((Below.refl wc.heap.size wc).alloc (Nat.le_refl _) _).frozen (p:=⟨w.heap.size+1,3,none⟩) hvc1).trans vf));have HOWN4:=hid hown4;have HG4:=hid hgrow4;have HAT4:=hid hat4;clear hown4 hgrow4 hat4))
      go_roundw
      case rel=>exact⟨G,p,some ⟨g,0,none⟩,cap,_,_,rfl,by omega,hid ⟨R6.out,HE.out.1,HE.out.2.2⟩⟩
      case measure =>
       rw[S6.out.size,hh.out.1.sn.size];have:=HE.out.2.1;omega
     ·have hcase2:(∃ p,bad2=false/\r2=125::p)\/Hid (bad2=true\/¬ [125] <+: r2):=by
       cases bad2 with
       | true=>exact .inr (hid (.inl rfl))
       | false =>
        by_cases h4:[125] <+: r2
        ·obtain⟨p,hp⟩:=h4;exact .inl ⟨p,rfl,hp.symm⟩
        ·exact .inr (hid (.inr h4))
      rcases hcase2 with⟨p,rfl,rfl⟩|HC2
      ·have HRES:=hid (show Wf.parse x (n+1) (.ref nm) (123::r)=some (.mk 82 [] 0 (l++[.mk 61 [] G [v]]),p) by
        have hp:Wf.fieldTok t (fun k s=>Wf.parse x n k s) cur=some (f,v,125::p):=by
         rcases HCS.out with⟨_,hp⟩|⟨hb,_⟩
         ·exact hp
         ·cases hb
        rw[HP.out,hh.out.2.2,HST.out,hp];dsimp only;rw[if_neg HNB.out,HGG.out];rfl)
       go_wp2_with (first|(go_at_call 113;refine(bR rb sb _ [125] p RS.out.sn).mono ?_;rintro e w6 ⟨rfl,hs6,hb6⟩;have S6:=hid hs6;have R6:=hid (RS.out.step hrb hb6 hs6);clear hs6 hb6;have v0:=R6.out.bld.v0;have v1:=R6.out.bld.v1;have v2:=R6.out.bld.v2;have v3:=R6.out.bld.v3;rw[HM2.out] at v3;obtain⟨zl,zr0,zr1,zr2,zr3,zf0,zf1,zf2,zf3⟩:=R6.out.zero;have hvl:w.heap.size+1<w6.heap.size:=(by have:=R6.out.bld.sz;omega))|(go_at_call 112;have RS:=hid (Rst.put hh.out.1 hrb HBC.out HM.out HVCC.out ((Below.refl _ _).alloc (Nat.le_refl _) _) HG4.out HOWN4.out HAT4.out HSN.out);refine(cZ rb sb _ (125::p) [44] false RS.out.sn HC.out).mono ?_;rintro e w5 ⟨rfl,rfl⟩)|(at_builtin;refine wpList_append_lies _ rfl (.tmp 68) (.tmp 70) 49 rfl (w.heap.size+1+1) 51 i0 (.agg #[.int .u8 0,tx [],.int .i64 0,.slice none 0 0]) 4 56 Tryz.underlying49 HI0.out HZ0.out HZ1.out HZ2.out rfl (by decide) (.slice a m c) m _ (by rfl) (HOWN.out.alloc _) ⟨wc.heap.size,0,none⟩ 1 1 [.int .u8 61,.string ⟨#[]⟩,.int .i64 G,.slice (some ⟨b2,o2,none⟩) 1 c2] (by rfl) rfl (World.news_of_block (MapKept.heap_alloc wc (.cells #[.int .u8 61,.string ⟨#[]⟩,.int .i64 G,.slice (some ⟨b2,o2,none⟩) 1 c2] 51)).1) (jD _ _ _ _ _ _) (by decide) (by unfold maxLen;omega) (by omega) (by simp;omega) _ rfl ?_;intro g cap w4 hown4 hgrow4 hat4 hlt4;have B4:=hid (aW (base:=w.heap.size+1+1) hgrow4 (fun g hg=>(aT HOWN.out g hg).1) (by simp;omega));have u3:w4.cell? ⟨w.heap.size+1,3,none⟩=some (.slice a m c):=((B4.out.cell (p:=⟨w.heap.size+1,3,none⟩) (Nat.lt_succ_self _)).trans ((World.cell?_alloc_lt wc _ ⟨w.heap.size+1,3,none⟩ hvc1).trans v3));have uf:w4.frozen? ⟨w.heap.size+1,3,none⟩=false:=((B4.out.frozen (p:=⟨w.heap.size+1,3,none⟩) (Nat.lt_succ_self _)).trans ((((Below.refl wc.heap.size wc).alloc (Nat.le_refl _) _).frozen (p:=⟨w.heap.size+1,3,none⟩) hvc1).trans vf));have HOWN4:=hid hown4;have HG4:=hid hgrow4;have HAT4:=hid hat4;clear hown4 hgrow4 hat4))
       all_goals exact bodyPost_ret (v:=.agg #[.int .u8 82,.string ⟨#[]⟩,.int .i64 0,.slice (some ⟨g,0,none⟩) (m+1) cap]) (by simp[results,Tryz.results116,go_sem, *]) rfl (by
        have hR:∀ W4,aA w.heap.size w6 W4->aQ (Wf.parse x (n+1) (.ref nm) (123::r)) (123::r) rb sb w (.returned (.agg #[.int .u8 82,.string ⟨#[]⟩,.int .i64 0,.slice (some ⟨g,0,none⟩) (m+1) cap])) W4:=fun W4 hb=>by
         obtain⟨hv,hf⟩:=R6.out.bld.out hb (Nat.le_refl _) (by omega) (HM2.out _) 82 [] 0 ⟨by omega,fun _=>.inr (.inr (.inr (.inl rfl))),fun h=>absurd h (by decide)⟩;exact⟨_,_,p,rfl,hv,hf,.inl ⟨HRES.out,S6.out.beside hb (by omega)⟩⟩
        refine hR _ ?_
        (repeat (first|with_reducible exact aA.refl _ _|with_reducible refine aA.drew ?_|with_reducible refine aA.trans ?_ (aA.set _ _ _ _))))
      ·have HRES:=hid (show Wf.parse x (n+1) (.ref nm) (123::r)=none/\Wf.Badv (123::r) r2 (.mk 82 [] 0 (l++[.mk 61 [] G [v]])) by
        rcases HCS.out with⟨hb,hp⟩|⟨hb,hp,q,hq,hbv⟩
        ·have h44:¬ [44] <+: r2:=by
          rcases HC.out with h|h
          ·rw[hb] at h;cases h
          ·exact h
         have h125:¬ [125] <+: r2:=by
          rcases HC2.out with h|h
          ·rw[hb] at h;cases h
          ·exact h
         have hlen:=jT hp;rw[HGG.out] at hlen;refine⟨?_,Wf.lD (.inr rfl) (s0:=r) rfl (by simp) (by rw[Wf.gO];have:=hh.out.2.1;omega)⟩;rw[HP.out,hh.out.2.2,HST.out,hp];dsimp only;rw[if_neg HNB.out];split
         ·exact absurd ⟨_,rfl⟩ h44
         ·exact absurd ⟨_,rfl⟩ h125
         ·rfl
        ·exact⟨by rw[HP.out,hh.out.2.2,HST.out,hp];rfl,Wf.sT (.inr rfl) (s0:=r) (s1:=cur) rfl hh.out.2.1 (Wf.lH (by omega) hq hbv)⟩)
       go_wp2_with (first|(go_at_call 113;refine(bT rb sb _ r2 [125] bad2 RS.out.sn HC2.out).mono ?_;rintro e w6 ⟨rfl,hs6,hb6⟩;have S6:=hid hs6;have R6:=hid (RS.out.step hrb hb6 hs6);clear hs6 hb6;have v0:=R6.out.bld.v0;have v1:=R6.out.bld.v1;have v2:=R6.out.bld.v2;have v3:=R6.out.bld.v3;rw[HM2.out] at v3;obtain⟨zl,zr0,zr1,zr2,zr3,zf0,zf1,zf2,zf3⟩:=R6.out.zero;have hvl:w.heap.size+1<w6.heap.size:=(by have:=R6.out.bld.sz;omega))|(go_at_call 112;have RS:=hid (Rst.put hh.out.1 hrb HBC.out HM.out HVCC.out ((Below.refl _ _).alloc (Nat.le_refl _) _) HG4.out HOWN4.out HAT4.out HSN.out);refine(cZ rb sb _ r2 [44] bad2 RS.out.sn HC.out).mono ?_;rintro e w5 ⟨rfl,rfl⟩)|(at_builtin;refine wpList_append_lies _ rfl (.tmp 68) (.tmp 70) 49 rfl (w.heap.size+1+1) 51 i0 (.agg #[.int .u8 0,tx [],.int .i64 0,.slice none 0 0]) 4 56 Tryz.underlying49 HI0.out HZ0.out HZ1.out HZ2.out rfl (by decide) (.slice a m c) m _ (by rfl) (HOWN.out.alloc _) ⟨wc.heap.size,0,none⟩ 1 1 [.int .u8 61,.string ⟨#[]⟩,.int .i64 G,.slice (some ⟨b2,o2,none⟩) 1 c2] (by rfl) rfl (World.news_of_block (MapKept.heap_alloc wc (.cells #[.int .u8 61,.string ⟨#[]⟩,.int .i64 G,.slice (some ⟨b2,o2,none⟩) 1 c2] 51)).1) (jD _ _ _ _ _ _) (by decide) (by unfold maxLen;omega) (by omega) (by simp;omega) _ rfl ?_;intro g cap w4 hown4 hgrow4 hat4 hlt4;have B4:=hid (aW (base:=w.heap.size+1+1) hgrow4 (fun g hg=>(aT HOWN.out g hg).1) (by simp;omega));have u3:w4.cell? ⟨w.heap.size+1,3,none⟩=some (.slice a m c):=((B4.out.cell (p:=⟨w.heap.size+1,3,none⟩) (Nat.lt_succ_self _)).trans ((World.cell?_alloc_lt wc _ ⟨w.heap.size+1,3,none⟩ hvc1).trans v3));have uf:w4.frozen? ⟨w.heap.size+1,3,none⟩=false:=((B4.out.frozen (p:=⟨w.heap.size+1,3,none⟩) (Nat.lt_succ_self _)).trans ((((Below.refl wc.heap.size wc).alloc (Nat.le_refl _) _).frozen (p:=⟨w.heap.size+1,3,none⟩) hvc1).trans vf));have HOWN4:=hid hown4;have HG4:=hid hgrow4;have HAT4:=hid hat4;clear hown4 hgrow4 hat4))
       all_goals exact bodyPost_ret (v:=.agg #[.int .u8 82,.string ⟨#[]⟩,.int .i64 0,.slice (some ⟨g,0,none⟩) (m+1) cap]) (by simp[results,Tryz.results116,go_sem, *]) rfl (by
        have hR:∀ W4,aA w.heap.size w6 W4->aQ (Wf.parse x (n+1) (.ref nm) (123::r)) (123::r) rb sb w (.returned (.agg #[.int .u8 82,.string ⟨#[]⟩,.int .i64 0,.slice (some ⟨g,0,none⟩) (m+1) cap])) W4:=fun W4 hb=>by
         obtain⟨hv,hf⟩:=R6.out.bld.out hb (Nat.le_refl _) (by omega) (HM2.out _) 82 [] 0 ⟨by omega,fun _=>.inr (.inr (.inr (.inl rfl))),fun h=>absurd h (by decide)⟩;exact⟨_,_,r2,rfl,hv,hf,.inr ⟨HRES.out.1,HRES.out.2,S6.out.beside hb (by omega)⟩⟩
        refine hR _ ?_
        (repeat (first|with_reducible exact aA.refl _ _|with_reducible refine aA.drew ?_|with_reducible refine aA.trans ?_ (aA.set _ _ _ _))))
  ·have HFLD:=hid (lR rb sb W t cur wr false ht hc400 lo tb BW.out HT.out hWr hh.out.1.sn (fun h=>hno h.2))
   have HRES:=hid (show Wf.parse x (n+1) (.ref nm) (123::r)=none by
    rw[HP.out,hh.out.2.2,HST.out,qX x n t cur hno];rfl)
   clear hno;go_wp2_with (go_at_call 145;refine HFLD.out.mono ?_;rintro e w2 ⟨hb2,r2,rfl,hrl,hsn⟩;have HB2:=hid hb2;have S2:=hid hsn;have HRL:=hid hrl;have sc2:=hsn.c2;have sf2:=hsn.f2;have slt:=hsn.lt;clear hb2 hsn hrl)
   have HBAD:=hid (rM hh.out.2.1 HRL.out);have hal:=hid fun k=>(show Below w2.heap.size w2 ((w2.alloc (.cells #[.int .u8 0,.string ⟨#[]⟩,.int .i64 0,.slice none 0 0] 51)).drewN k) from((Below.refl w2.heap.size w2).alloc (Nat.le_refl _) _).trans ⟨rfl,rfl,rfl,Nat.le_refl _,fun _ _=>rfl⟩);go_quiet (fail)
   go_wp2_with (go_at_call 113;refine(bT rb sb _ r2 [125] true (S2.out.below (hal.out _)).fail (.inl rfl)).mono ?_;rintro e w6 ⟨rfl,hs6,hb6⟩;have S6:=hid hs6;have HB6:=hid ((aA.aI (rb:=rb) (hal.out _) (Nat.le_refl _)).trans ((aA.set rb _ 2 _).trans hb6));have R6:=hid (hh.out.1.step hrb (HB2.out.trans HB6.out) hs6);clear hs6 hb6;have v0:=R6.out.bld.v0;have v1:=R6.out.bld.v1;have v2:=R6.out.bld.v2;have v3:=R6.out.bld.v3;rw[HM.out] at v3;obtain⟨zl,zr0,zr1,zr2,zr3,zf0,zf1,zf2,zf3⟩:=R6.out.zero;have hvl:w.heap.size+1<w6.heap.size:=(by have:=R6.out.bld.sz;omega))
   all_goals exact bodyPost_ret (v:=.agg #[.int .u8 82,.string ⟨#[]⟩,.int .i64 0,.slice a m c]) (by simp[results,Tryz.results116,go_sem, *]) rfl (by
    have hR:∀ W4,aA w.heap.size w6 W4->aQ (Wf.parse x (n+1) (.ref nm) (123::r)) (123::r) rb sb w (.returned (.agg #[.int .u8 82,.string ⟨#[]⟩,.int .i64 0,.slice a m c])) W4:=fun W4 hb=>by
     obtain⟨hv,hf⟩:=R6.out.bld.out hb (Nat.le_refl _) (by omega) HM.out 82 [] 0 ⟨by omega,fun _=>.inr (.inr (.inr (.inl rfl))),fun h=>absurd h (by decide)⟩;exact⟨_,.mk 82 [] 0 l,r2,rfl,hv,hf,.inr ⟨HRES.out,HBAD.out,S6.out.beside hb (by omega)⟩⟩
    refine hR _ ?_
    (repeat (first|with_reducible exact aA.refl _ _|with_reducible refine aA.drew ?_|with_reducible refine aA.trans ?_ (aA.set _ _ _ _))))
theorem vU (s:List UInt8) (hx:Wf.ScOk x) (htx:t∈x) (hf:x.find nm=some t) (ht:t.fields.length<=1000) (lo tb:Nat) (hW:Below W.heap.size W w) (hsc:ScL W lo sb x) (hT:TyL W lo tb t) (h82:t.sort=82) (hWr:W.heap.size<=rb) (IH:∀ f∈t.fields,Reads x rb sb W n f.kind) (hn:s.length<n+1) (h400:s.length<=400) (H:Sn w rb sb s false):Calls Tryz.prog 116 #[ptr rb,ptr tb] w fun e w'=>aQ (Wf.parse x (n+1) (.ref nm) s) s rb sb w e w':=by
 cases s with
 | nil=>exact rR x rb sb W n t nm [] w hf lo tb hW hT h82 H (by simp)
 | cons a r =>
  by_cases ha:a=123
  ·subst ha
   cases r with
   | nil=>exact qS x rb sb W n t nm w hx htx [] (by simp) hf ht lo tb hW hsc hT h82 hWr IH (by simpa using hn) (by simp) H
   | cons b q =>
    by_cases hb:b=125
    ·subst hb;exact a1T x rb sb W n t nm w q hf lo tb hW hT h82 H
    ·exact qS x rb sb W n t nm w hx htx (b::q) (by simpa using hb) hf ht lo tb hW hsc hT h82 hWr IH (by simp at hn ⊢;omega) (by simp at h400 ⊢;omega) H
  ·exact rR x rb sb W n t nm (a::r) w hf lo tb hW hT h82 H (by simpa using ha)
theorem ofType (s:List UInt8) (hx:Wf.ScOk x) (htx:t∈x) (hf:x.find nm=some t) (lo tb:Nat) (hW:Below W.heap.size W w) (hsc:ScL W lo sb x) (hT:TyL W lo tb t) (hWr:W.heap.size<=rb) (IH:t.sort≠69->∀ f∈t.fields,Reads x rb sb W n f.kind) (hn:s.length<n+1) (h400:s.length<=400) (H:Sn w rb sb s false):Calls Tryz.prog 116 #[ptr rb,ptr tb] w fun e w'=>aQ (Wf.parse x (n+1) (.ref nm) s) s rb sb w e w':=by
 have htok:=hx.tys t htx;have ht:t.fields.length<=1000:=by have:=htok.len;omega
 rcases htok.sort with h|h|h
 ·exact vU x rb sb W n t nm w s hx htx hf ht lo tb hW hsc hT h hWr (IH (by rw[h];decide)) hn h400 H
 ·exact a4C rb sb W t s w x n nm h400 hn hf ht lo tb hW hT h hWr H (IH (by rw[h];decide))
 ·exact wN rb sb W t s w x n nm h400 hf ht lo tb hW hT h hWr H
end

theorem a5U (x:Wf.Sc) (rb sb:Nat) (W:World) (n:Nat) (nm:List UInt8) (hnm:nm.length<=1000000) (s:List UInt8) (w:World) (lo mb tb:Nat) (hW:Below W.heap.size W w) (hWr:W.heap.size<=rb) (hsb:sb<W.heap.size) (c1:W.cell? ⟨sb,1,none⟩=some (.map (some mb))) (look:∀ wz,Below W.heap.size W wz->(Instr.lookup 114 (.map (some mb)) (.string ⟨nm.toArray⟩) false).run Tryz.prog wz=.ok (ptr tb) wz)
  (hof:∀ w2,Below W.heap.size W w2->Sn w2 rb sb s false->Calls Tryz.prog 116 #[ptr rb,ptr tb] w2 fun e w'=>aQ (Wf.parse x (n+1) (.ref nm) s) s rb sb w2 e w') (H:Sn w rb sb s false):Calls Tryz.prog 74 #[ptr rb,kV (.ref nm)] w fun e w'=>aQ (Wf.parse x (n+1) (.ref nm) s) s rb sb w e w':=by
 have hrb:=H.lt;have c2:=H.c2;have HH:=hid H;have HW:=hid hW;have HOT:=hid hof;have HLK:=hid look;have HC1:=hid c1;have HSG:=hid fun w2=>sign (.ref nm) w2;obtain⟨NM,hNM⟩:∃ NM:ByteArray,(⟨nm.toArray⟩:ByteArray)=NM:=⟨_,rfl⟩;have hkv:kV (.ref nm)=.agg #[.string ⟨#[]⟩,.string ⟨#[64]⟩,.string NM]:=by rw[<-hNM];rfl
 rw[hkv] at HSG;rw[hkv];rw[hNM] at HLK;have hsn:gG (.ref nm)=0:=rfl;rw[hsn] at HSG;have ST:=hid fun W1 h=>eM w ⟨#[]⟩ ⟨#[64]⟩ NM W1 h;have hsw:sb<w.heap.size:=Nat.lt_of_lt_of_le hsb hW.size;clear H hW hof look c1 hNM hkv hsn;go_enter Tryz.func74,Tryz.ntmps74;go_wp2_with (go_at_call 95;obtain⟨d0,d1,d2,z0,b0⟩:=ST.out _ rfl;refine(HSG.out _).mono ?_;rintro e w1 ⟨rfl,hb1⟩;have b01:=aC b0 hb1;have hz:=Nat.lt_of_lt_of_le (Nat.lt_succ_self _) (Nat.le_of_lt z0.lt);have e0:=(hb1.cell (p:=⟨w.heap.size,0,none⟩) hz).trans d0;have e1:=(hb1.cell (p:=⟨w.heap.size,1,none⟩) hz).trans d1;have e2:=(hb1.cell (p:=⟨w.heap.size,2,none⟩) hz).trans d2;have S1:=hid (HH.out.below b01);have HB1:=hid (aA.aI (rb:=rb) b01 (Nat.le_refl _));have Z1:=hid (z0.below hb1 z0.lt);have BW1:=hid (aA.below HW.out HW.out.size hWr HB1.out);have s0:=S1.out.c0;have m1:=(BW1.out.cell (p:=⟨sb,1,none⟩) hsb).trans HC1.out;have hz1:=Nat.lt_of_lt_of_le hz hb1.size;have hs1:=S1.out.lt;have hsb1:=Nat.lt_of_lt_of_le hsw HB1.out.size;have l0:=HLK.out w1 BW1.out;have l1:=HLK.out w1.drew BW1.out.drew;clear hb1 b01 b0 d0 d1 d2 z0 hz)
 go_region_held3 (fun w'=>w'.cell? ⟨rb,0,none⟩=some (ptr sb)/\w'.cell? ⟨sb,1,none⟩=some (.map (some mb))/\w'.cell? ⟨w.heap.size,2,none⟩=some (.string NM)/\(Instr.lookup 114 (.map (some mb)) (.string NM) false).run Tryz.prog w'=.ok (ptr tb) w') (first|exact⟨j0,j1,j2,j3⟩|(refine FK.out _ ?_;repeat (first|with_reducible exact Below.refl _ _|with_reducible refine Below.setCell ?_ (by show w.heap.size+1<=w.heap.size+1;omega) _))|go_keep) ((go_at_call 116;refine(HOT.out _ BW1.out.drew (S1.out.drewN 1)).mono ?_;rintro e w3 ⟨cs,v,r,rfl,hvc,hb3,ho⟩;obtain⟨q2,g2,n2,c2,T2,a2,rfl⟩:=hvc.cK;have HVC:=hid hvc;have HO:=hid ho;have HB3:=hid (HB1.out.trans ((aA.drew (aA.refl rb w1)).trans hb3));have Z3:=hid (Z1.out.step ((aA.drew (aA.refl rb w1)).trans hb3) (by omega));obtain⟨zl,zr0,zr1,zr2,zr3,zf0,zf1,zf2,zf3⟩:=Z3.out;have BW3:=hid (aA.below HW.out HW.out.size hWr HB3.out);have j0:w3.cell? ⟨rb,0,none⟩=some (ptr sb):=(by rcases ho with⟨_,h⟩|⟨_,_,h⟩ <;> exact h.c0);have j1:=(BW3.out.cell (p:=⟨sb,1,none⟩) hsb).trans HC1.out;have j2:w3.cell? ⟨w.heap.size,2,none⟩=some (.string NM):=(hb3.cell (p:=⟨w.heap.size,2,none⟩) hz1 (by show w.heap.size≠rb;omega)).trans e2;have j3:=HLK.out w3 BW3.out;have FK:=hid fun(wz:World) (hz:Below (w.heap.size+1) w3 wz)=>(show wz.cell? ⟨rb,0,none⟩=some (ptr sb)/\wz.cell? ⟨sb,1,none⟩=some (.map (some mb))/\wz.cell? ⟨w.heap.size,2,none⟩=some (.string NM)/\(Instr.lookup 114 (.map (some mb)) (.string NM) false).run Tryz.prog wz=.ok (ptr tb) wz from⟨(hz.cell (p:=⟨rb,0,none⟩) (by show rb<w.heap.size+1;omega)).trans j0,(hz.cell (p:=⟨sb,1,none⟩) (by show sb<w.heap.size+1;omega)).trans j1,(hz.cell (p:=⟨w.heap.size,2,none⟩) (by show w.heap.size<w.heap.size+1;omega)).trans j2,HLK.out wz (BW3.out.trans (hz.mono (by have:=HW.out.size;omega)))⟩);clear hvc ho hb3))
 all_goals (go_wp2_with fail)
 all_goals exact bodyPost_ret (v:=.agg #[.int .u8 q2,.string T2,.int .i64 g2,.slice a2 n2 c2]) (by simp[results,Tryz.results74,go_sem, *]) rfl (by
  have hR:∀ W4,aA (w.heap.size+1) w3 W4->aQ (Wf.parse x (n+1) (.ref nm) s) s rb sb w (.returned (.agg #[.int .u8 q2,.string T2,.int .i64 g2,.slice a2 n2 c2])) W4:=fun W4 hb=>by
   refine⟨[.int .u8 q2,.string T2,.int .i64 g2,.slice a2 n2 c2],v,r,rfl,VC.keep (P:=fun b=>w1.heap.size<=b) (fun b hp hlt=>⟨Nat.le_trans HB1.out.size hp,hb.block b hlt (by have h1:w1.heap.size<=b:=hp;have h2:=Z1.out.lt;omega)⟩) hb.size _ _ HVC.out,HB3.out.on hb (by omega),?_⟩;rcases HO.out with⟨hp,sn⟩|⟨hp,hbv,sn⟩
   ·exact .inl ⟨hp,sn.beside hb (by omega)⟩
   ·exact .inr ⟨hp,hbv,sn.beside hb (by omega)⟩
  refine hR _ ?_;repeat (first|with_reducible exact aA.refl _ _|with_reducible refine aA.drew ?_|with_reducible refine aA.trans ?_ (aA.set _ _ _ _)))
theorem KOk.list {x:Wf.Sc} {k:Wf.K} (h:KOk x (.list k)):KOk x k:=⟨by have:=h.len;simp[Wf.K.text] at this;omega,h.ref⟩
theorem KOk.opt {x:Wf.Sc} {k:Wf.K} (h:KOk x (.opt k)):KOk x k:=⟨by have:=h.len;simp[Wf.K.text] at this;omega,h.ref⟩
theorem KOk.fld {x:Wf.Sc} (hx:Wf.ScOk x) {t:Wf.Ty} (ht:t∈x) (h69:t.sort≠69) {f:Wf.Fd} (hf:f∈t.fields):KOk x f.kind:=⟨eI ((hx.tys t ht).fds f hf),hx.refs t ht h69 f hf⟩
theorem value (x:Wf.Sc) (hx:Wf.ScOk x) (lo rb sb:Nat) (W:World) (hsc:ScL W lo sb x) (hWr:W.heap.size<=rb):∀ (n:Nat) (k:Wf.K),KOk x k->Reads x rb sb W n k:=by
 intro n;induction n with
 | zero=>intro k _ s w _ _ h;omega
 | succ n ih =>
  intro k hk s w hW H hn h400;cases k with
  | num=>exact vD rb sb s w x n h400 H
  | txt=>exact yX rb sb s w x n h400 H
  | flag=>exact a1Q rb sb s w x n H
  | list k=>exact yU x rb sb W n k s w hW hWr (ih k hk.list) hn h400 H
  | opt k =>
   cases s with
   | nil=>exact oD x rb sb W n k [] w (by simp) (by simp) hW hWr H
   | cons a r =>
    by_cases h45:a=45
    ·subst h45;exact a3I x rb sb n k r w H
    ·by_cases h43:a=43
     ·subst h43
      exact a0P x rb sb W n k r w hW hWr (ih k hk.opt) (by simp at hn;omega) (by simp at h400;omega) H
     ·exact oD x rb sb W n k (a::r) w (by simpa using h45) (by simpa using h43) hW hWr H
  | ref nm =>
   obtain⟨mb,hsz,hc1,hnm⟩:=hsc.named;obtain⟨t,ht⟩:=Option.isSome_iff_exists.1 (show(x.find nm).isSome=true by simpa[Wf.aN,Wf.K.base,Wf.K.name] using hk.ref);have hnl:nm.length<=12:=(by have:=fJ (.ref nm);have h2:=hk.len;simp only[Wf.K.name] at this;omega);rcases hnm ⟨nm.toArray⟩ (by rw[aU];omega) with⟨h0,_⟩|⟨t',b,h1,hT,hl⟩
   ·rw[show(⟨nm.toArray⟩:ByteArray).data.toList=nm from rfl,ht] at h0;cases h0
   rw[show(⟨nm.toArray⟩:ByteArray).data.toList=nm from rfl,ht] at h1;obtain rfl:t=t':=Option.some.inj h1;have hm:=(Wf.bI ht).1;exact a5U x rb sb W n nm (by omega) s w lo mb b hW hWr hsz hc1 hl (fun w2 hb hs=>ofType x rb sb W n t nm w2 s hx hm ht lo b hb hsc hT hWr (fun h69 f hf=>ih f.kind (KOk.fld hx hm h69 hf)) hn h400 hs) H

def bV (x:Wf.Sc) (k:Wf.K) (s:List UInt8) (w:World) (e:Ending) (w':World):Prop:=match Wf.valIn x k s with
 | some v=>∃ cs,e=.returned (.tuple #[.agg cs.toArray,.bool true])/\VC w' (fun b=>w.heap.size<=b) v cs
 | none=>e=.returned (.tuple #[.agg #[.int .u8 0,.string ⟨#[]⟩,.int .i64 0,.slice none 0 0],.bool false])
theorem bV.no {x:Wf.Sc} {k:Wf.K} {s:List UInt8} {w w':World} {e:Ending} (h:Wf.valIn x k s=none) (he:e=.returned (.tuple #[.agg #[.int .u8 0,.string ⟨#[]⟩,.int .i64 0,.slice none 0 0],.bool false])):bV x k s w e w':=by
 unfold bV;rw[h];exact he
theorem bV.yes {x:Wf.Sc} {k:Wf.K} {s:List UInt8} {w w':World} {e:Ending} {v:Wf.V} {cs:List Value} (h:Wf.valIn x k s=some v) (he:e=.returned (.tuple #[.agg cs.toArray,.bool true])) (hv:VC w' (fun b=>w.heap.size<=b) v cs):bV x k s w e w':=by
 unfold bV;rw[h];exact⟨cs,he,hv⟩
theorem a0C (w:World) (SG BS NM S:ByteArray) (sb:Nat) (W1:World) (hW1:((w.alloc (.cells #[.string SG,.string BS,.string NM] 48)).alloc (.cells #[.int .u8 0,.string ⟨#[]⟩,.int .i64 0,.slice none 0 0] 51)).alloc (.cells #[ptr sb,.string S,.bool false] 132)=W1) :
  W1.cell? ⟨w.heap.size,0,none⟩=some (.string SG)/\W1.cell? ⟨w.heap.size,1,none⟩=some (.string BS)/\W1.cell? ⟨w.heap.size,2,none⟩=some (.string NM)/\Zero W1 (w.heap.size+1)/\Sn W1 (w.heap.size+1+1) sb S.data.toList false/\Below w.heap.size w W1:=by
 have hB:Below w.heap.size w W1:=by
  rw[<-hW1];exact((((Below.refl _ _).alloc (Nat.le_refl _) _).alloc (by simp) _).alloc (by simp;omega) _)
 subst hW1;refine⟨?_,?_,?_,⟨?_,?_,?_,?_,?_,?_,?_,?_,?_⟩,⟨?_,?_,?_,?_,?_,?_⟩,hB⟩;all_goals first|(simp[go_sem];done)|(simp[go_sem];omega)
section
variable (x:Wf.Sc) (k:Wf.K) (sb:Nat) (s:List UInt8) (W w:World)
theorem a4Q (hs:¬ s.length<=400) (hs2:s.length<=9000000000):Calls Tryz.prog 48 #[ptr sb,kV k,tx s] w fun e w'=>bV x k s w e w'/\Below w.heap.size w w':=by
 have HV:=hid (Wf.nK (x:=x) (k:=k) hs);obtain⟨SG,hSG⟩:∃ SG:ByteArray,(⟨k.signs.toArray⟩:ByteArray)=SG:=⟨_,rfl⟩;obtain⟨BS,hBS⟩:∃ BS:ByteArray,(⟨k.base.toArray⟩:ByteArray)=BS:=⟨_,rfl⟩;obtain⟨NM,hNM⟩:∃ NM:ByteArray,(⟨k.name.toArray⟩:ByteArray)=NM:=⟨_,rfl⟩;obtain⟨S,hS⟩:∃ S:ByteArray,(⟨s.toArray⟩:ByteArray)=S:=⟨_,rfl⟩;have hsz:400<S.size:=by rw[<-hS];show 400<s.length;omega
 have hsz2:S.size<=9000000000:=by rw[<-hS];exact hs2
 simp only[kV,tx,hSG,hBS,hNM,hS];clear hSG hBS hNM hS hs hs2;go_enter Tryz.func48,Tryz.ntmps48;go_wp2_with fail
 exact bodyPost_ret (v:=.tuple #[.agg #[.int .u8 0,.string ⟨#[]⟩,.int .i64 0,.slice none 0 0],.bool false]) (by simp[results,Tryz.results48,go_sem, *]) rfl ⟨bV.no HV.out rfl,by repeat (first|with_reducible exact Below.refl _ _|with_reducible refine Below.drew ?_|with_reducible refine Below.setCell ?_ (by simp) _|with_reducible refine Below.alloc ?_ (by first|exact Nat.le_refl _|simp) _)⟩
theorem a3Z (hx:Wf.ScOk x) (lo:Nat) (hsc:ScL W lo sb x) (hk:KOk x k) (hs:s.length<=400) (hW:Below W.heap.size W w):Calls Tryz.prog 48 #[ptr sb,kV k,tx s] w fun e w'=>bV x k s w e w'/\Below w.heap.size w w':=by
 have HV:=hid (Wf.a1C (x:=x) (k:=k) hs);have hrd:=value x hx lo (w.heap.size+1+1) sb W hsc (by have:=hW.size;omega) 401 k hk;obtain⟨SG,hSG⟩:∃ SG:ByteArray,(⟨k.signs.toArray⟩:ByteArray)=SG:=⟨_,rfl⟩;obtain⟨BS,hBS⟩:∃ BS:ByteArray,(⟨k.base.toArray⟩:ByteArray)=BS:=⟨_,rfl⟩;obtain⟨NM,hNM⟩:∃ NM:ByteArray,(⟨k.name.toArray⟩:ByteArray)=NM:=⟨_,rfl⟩;obtain⟨S,hS⟩:∃ S:ByteArray,(⟨s.toArray⟩:ByteArray)=S:=⟨_,rfl⟩;have hsz:S.size<=400:=by rw[<-hS];exact hs
 have hsl:S.data.toList=s:=by rw[<-hS]
 have HSL:=hid hsl;have hkv:kV k=.agg #[.string SG,.string BS,.string NM]:=by simp only[kV,tx,hSG,hBS,hNM]
 have HRD:=hid fun(w2:World) (hb:Below W.heap.size W w2) (h:Sn w2 (w.heap.size+1+1) sb S.data.toList false)=>(by rw[hsl] at h;rw[<-hkv];exact hrd s w2 hb h (by omega) hs:Calls Tryz.prog 74 #[ptr (w.heap.size+1+1),.agg #[.string SG,.string BS,.string NM]] w2 fun e w'=>aQ (Wf.parse x 401 k s) s (w.heap.size+1+1) sb w2 e w');have ST:=hid fun W1 h=>a0C w SG BS NM S sb W1 h;have HW:=hid hW;simp only[hkv,tx,hS];clear hkv hSG hBS hNM hS hsl hrd hs hW hsc hx hk;have hrb:w.heap.size+1<w.heap.size+1+1:=by omega
 cases hp:Wf.parse x 401 k s with
 | none =>
  have HP:=hid hp;rw[hp] at HRD HV;have HVN:=hid (show Wf.valIn x k s=none from HV.out);clear hp HV;go_enter Tryz.func48,Tryz.ntmps48;go_wp2_with (go_at_call 74;obtain⟨d0,d1,d2,z0,sn0,b0⟩:=ST.out _ rfl;refine(HRD.out _ (HW.out.trans (b0.mono HW.out.size)) sn0).mono ?_;rintro e w2 ⟨cs,v,r,rfl,hvc,hb2,ho⟩;obtain⟨q2,g2,n2,c2,T2,a2,rfl⟩:=hvc.cK;have hs2:Sn w2 (w.heap.size+1+1) sb r true:=(by rcases ho with⟨h,_⟩|⟨_,_,h⟩;(· cases h);(· exact h));have t1:=hs2.c1;have t2:=hs2.c2;have t3:=hs2.lt;have Z2:=hid (z0.step hb2 (by omega));obtain⟨zl,zr0,zr1,zr2,zr3,zf0,zf1,zf2,zf3⟩:=Z2.out;have BW2:=hid (aA.below (Below.refl w.heap.size w) (Nat.le_refl _) (by omega) ((aA.aI (rb:=w.heap.size+1+1) b0 (Nat.le_refl _)).trans hb2));have SZ0:=hid b0.size;have SZ1:=hid sn0.lt;have HVC:=hid hvc;clear hvc hb2 ho d0 d1 d2 z0 sn0 b0 hs2)
  all_goals exact bodyPost_ret (v:=.tuple #[.agg #[.int .u8 0,.string ⟨#[]⟩,.int .i64 0,.slice none 0 0],.bool false]) (by simp[results,Tryz.results48,go_sem, *]) rfl ⟨bV.no HVN.out rfl,by have B:=BW2.out;repeat (first|with_reducible exact B|with_reducible refine Below.drew ?_|with_reducible refine Below.setCell ?_ (by simp) _|with_reducible refine Below.alloc ?_ (by first|exact B.size|(simp;omega)) _)⟩
 | some y =>
  obtain⟨u,q⟩:=y;have htd:=(Wf.lJ 401 k u (Wf.eG _ _ _ _ _ hp).1).2;obtain⟨Q,hQ⟩:∃ Q:ByteArray,(⟨q.toArray⟩:ByteArray)=Q:=⟨_,rfl⟩;have HQ:=hid hQ;rw[hp] at HRD HV;by_cases hq:q=[]
  ·have hqe:Q.toList.isEmpty=true:=by rw[<-hQ,ByteArray.toList_eq,hq];rfl
   have hqe2:Q.toList=[]:=List.isEmpty_iff.1 hqe;obtain⟨D,hD⟩:∃ D,u.deep=D:=⟨_,rfl⟩;have hD6:D<=401:=(by rw[<-hD];exact htd);have HDP:=hid fun(P:Nat->Prop) (cs:List Value) (W2 w2:World) (hv:VC W2 P u cs) (hb:Below W2.heap.size W2 w2)=>(by rw[<-hD];exact deep u P cs W2 w2 hv hb (by omega):Calls Tryz.prog 75 #[.agg cs.toArray] w2 fun e w'=>e=.returned (.int .i64 D)/\Below w2.heap.size w2 w');by_cases hd:D<=12
   ·have HVY:=hid (show Wf.valIn x k s=some u by rw[HV.out];dsimp only;rw[if_pos ⟨hq,by omega⟩])
    clear hp HV hq hQ hD;go_enter Tryz.func48,Tryz.ntmps48;go_wp2_with (first|(go_at_call 75;have _u:=HVC;refine(HDP.out _ _ w2 _ HVC.out ((Below.refl _ _).alloc (Nat.le_refl _) _)).mono ?_;rintro e w3 ⟨rfl,hb3⟩;have B3:=hid (aC ((Below.refl w2.heap.size w2).alloc (Nat.le_refl _) _) hb3);obtain⟨hc3,hf3⟩:=bcell hb3;have hz3:w2.heap.size<w3.heap.size:=(by have:=hb3.size;simp at this;omega);have Z3:=hid (Z2.out.below B3.out Z2.out.lt);obtain⟨yl,yr0,yr1,yr2,yr3,yf0,yf1,yf2,yf3⟩:=Z3.out;clear hb3)|(go_at_call 74;obtain⟨d0,d1,d2,z0,sn0,b0⟩:=ST.out _ rfl;refine(HRD.out _ (HW.out.trans (b0.mono HW.out.size)) sn0).mono ?_;rintro e w2 ⟨cs,v,r,rfl,hvc,hb2,ho⟩;obtain⟨q2,g2,n2,c2,T2,a2,rfl⟩:=hvc.cK;obtain⟨rfl,rfl,hs2⟩:v=u/\r=q/\Sn w2 (w.heap.size+1+1) sb r false:=(by rcases ho with⟨h,h2⟩|⟨h,_⟩;(· simp only[Option.some.injEq,Prod.mk.injEq] at h;obtain⟨rfl,rfl⟩:=h;exact⟨rfl,rfl,h2⟩);(· cases h));have t1:=hs2.c1;rw[tx,HQ.out] at t1;have t2:=hs2.c2;have t3:=hs2.lt;have Z2:=hid (z0.step hb2 (by omega));obtain⟨zl,zr0,zr1,zr2,zr3,zf0,zf1,zf2,zf3⟩:=Z2.out;have BW2:=hid (aA.below (Below.refl w.heap.size w) (Nat.le_refl _) (by omega) ((aA.aI (rb:=w.heap.size+1+1) b0 (Nat.le_refl _)).trans hb2));have SZ0:=hid b0.size;have SZ1:=hid sn0.lt;have HVC:=hid hvc;clear hvc hb2 ho d0 d1 d2 z0 sn0 b0 hs2))
    all_goals exact bodyPost_ret (v:=.tuple #[.agg #[.int .u8 q2,.string T2,.int .i64 g2,.slice a2 n2 c2],.bool true]) (by simp[results,Tryz.results48,go_sem, *]) rfl (by
     have hR:∀ W4,aA (w.heap.size+1) w3 W4->(bV x k s w (.returned (.tuple #[.agg #[.int .u8 q2,.string T2,.int .i64 g2,.slice a2 n2 c2],.bool true])) W4/\Below w.heap.size w W4):=fun W4 hb=>by
      refine⟨bV.yes HVY.out (cs:=[.int .u8 q2,.string T2,.int .i64 g2,.slice a2 n2 c2]) rfl (VC.keep (fun b hp hlt=>⟨Nat.le_trans SZ0.out hp,?_⟩) (Nat.le_trans B3.out.size hb.size) _ _ HVC.out),aA.below (BW2.out.trans (B3.out.mono BW2.out.size)) (Nat.le_trans BW2.out.size B3.out.size) (by omega) hb⟩;have h1:w.heap.size+1+1<b+0:=(by have:=SZ1.out;omega);exact(hb.block b (Nat.lt_of_lt_of_le hlt B3.out.size) (by omega)).trans (B3.out.block b hlt)
     refine hR _ ?_;repeat (first|with_reducible exact aA.refl _ _|with_reducible refine aA.drew ?_|with_reducible refine aA.trans ?_ (aA.set _ _ _ _)))
   ·have hd2:12<D:=by omega
    have HVN:=hid (show Wf.valIn x k s=none by rw[HV.out];dsimp only;rw[if_neg (by rintro⟨_,h⟩;omega)]);clear hp HV hq hQ hD hd;go_enter Tryz.func48,Tryz.ntmps48;go_wp2_with (first|(go_at_call 75;have _u:=HVC;refine(HDP.out _ _ w2 _ HVC.out ((Below.refl _ _).alloc (Nat.le_refl _) _)).mono ?_;rintro e w3 ⟨rfl,hb3⟩;have B3:=hid (aC ((Below.refl w2.heap.size w2).alloc (Nat.le_refl _) _) hb3);obtain⟨hc3,hf3⟩:=bcell hb3;have hz3:w2.heap.size<w3.heap.size:=(by have:=hb3.size;simp at this;omega);have Z3:=hid (Z2.out.below B3.out Z2.out.lt);obtain⟨yl,yr0,yr1,yr2,yr3,yf0,yf1,yf2,yf3⟩:=Z3.out;clear hb3)|(go_at_call 74;obtain⟨d0,d1,d2,z0,sn0,b0⟩:=ST.out _ rfl;refine(HRD.out _ (HW.out.trans (b0.mono HW.out.size)) sn0).mono ?_;rintro e w2 ⟨cs,v,r,rfl,hvc,hb2,ho⟩;obtain⟨q2,g2,n2,c2,T2,a2,rfl⟩:=hvc.cK;obtain⟨rfl,rfl,hs2⟩:v=u/\r=q/\Sn w2 (w.heap.size+1+1) sb r false:=(by rcases ho with⟨h,h2⟩|⟨h,_⟩;(· simp only[Option.some.injEq,Prod.mk.injEq] at h;obtain⟨rfl,rfl⟩:=h;exact⟨rfl,rfl,h2⟩);(· cases h));have t1:=hs2.c1;rw[tx,HQ.out] at t1;have t2:=hs2.c2;have t3:=hs2.lt;have Z2:=hid (z0.step hb2 (by omega));obtain⟨zl,zr0,zr1,zr2,zr3,zf0,zf1,zf2,zf3⟩:=Z2.out;have BW2:=hid (aA.below (Below.refl w.heap.size w) (Nat.le_refl _) (by omega) ((aA.aI (rb:=w.heap.size+1+1) b0 (Nat.le_refl _)).trans hb2));have SZ0:=hid b0.size;have SZ1:=hid sn0.lt;have HVC:=hid hvc;clear hvc hb2 ho d0 d1 d2 z0 sn0 b0 hs2))
    all_goals exact bodyPost_ret (v:=.tuple #[.agg #[.int .u8 0,.string ⟨#[]⟩,.int .i64 0,.slice none 0 0],.bool false]) (by simp[results,Tryz.results48,go_sem, *]) rfl ⟨bV.no HVN.out rfl,by have B:=(BW2.out.trans (B3.out.mono BW2.out.size));repeat (first|with_reducible exact B|with_reducible refine Below.drew ?_|with_reducible refine Below.setCell ?_ (by simp) _|with_reducible refine Below.alloc ?_ (by first|exact B.size|(simp;omega)) _)⟩
  ·have hqe:Q.toList.isEmpty=false:=by rw[<-hQ,ByteArray.toList_eq];cases q with|nil=>exact absurd rfl hq|cons a r=>rfl
   have hqe2:Q.toList≠[]:=(by rw[<-hQ,ByteArray.toList_eq];exact hq);have HVN:=hid (show Wf.valIn x k s=none by rw[HV.out];dsimp only;rw[if_neg (fun h=>hq h.1)]);clear hp HV hq hQ;go_enter Tryz.func48,Tryz.ntmps48;go_wp2_with (go_at_call 74;obtain⟨d0,d1,d2,z0,sn0,b0⟩:=ST.out _ rfl;refine(HRD.out _ (HW.out.trans (b0.mono HW.out.size)) sn0).mono ?_;rintro e w2 ⟨cs,v,r,rfl,hvc,hb2,ho⟩;obtain⟨q2,g2,n2,c2,T2,a2,rfl⟩:=hvc.cK;obtain⟨rfl,rfl,hs2⟩:v=u/\r=q/\Sn w2 (w.heap.size+1+1) sb r false:=(by rcases ho with⟨h,h2⟩|⟨h,_⟩;(· simp only[Option.some.injEq,Prod.mk.injEq] at h;obtain⟨rfl,rfl⟩:=h;exact⟨rfl,rfl,h2⟩);(· cases h));have t1:=hs2.c1;rw[tx,HQ.out] at t1;have t2:=hs2.c2;have t3:=hs2.lt;have Z2:=hid (z0.step hb2 (by omega));obtain⟨zl,zr0,zr1,zr2,zr3,zf0,zf1,zf2,zf3⟩:=Z2.out;have BW2:=hid (aA.below (Below.refl w.heap.size w) (Nat.le_refl _) (by omega) ((aA.aI (rb:=w.heap.size+1+1) b0 (Nat.le_refl _)).trans hb2));have SZ0:=hid b0.size;have SZ1:=hid sn0.lt;have HVC:=hid hvc;clear hvc hb2 ho d0 d1 d2 z0 sn0 b0 hs2)
   all_goals exact bodyPost_ret (v:=.tuple #[.agg #[.int .u8 0,.string ⟨#[]⟩,.int .i64 0,.slice none 0 0],.bool false]) (by simp[results,Tryz.results48,go_sem, *]) rfl ⟨bV.no HVN.out rfl,by have B:=BW2.out;repeat (first|with_reducible exact B|with_reducible refine Below.drew ?_|with_reducible refine Below.setCell ?_ (by simp) _|with_reducible refine Below.alloc ?_ (by first|exact B.size|(simp;omega)) _)⟩
end
