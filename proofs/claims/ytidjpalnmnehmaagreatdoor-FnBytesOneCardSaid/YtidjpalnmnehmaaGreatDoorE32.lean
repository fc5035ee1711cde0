/- Packed by pack.py: Vt. -/
import Derived.Test.YtidjpalnmnehmaaGreatDoorE31
namespace Go.Proofs.YtidjpalnmnehmaaGreatDoor
open Go.ChangeShapes Go.WideShapes Go.ChangeAt Go.RowKit Go.Lib
set_option linter.unusedVariables false
set_option linter.unusedSimpArgs false
section
variable (x:Wf.Sc) (rb sb:Nat) (W:World) (n:Nat) (t:Wf.Ty) (nm:List UInt8) (w:World)
def Rel (x:Wf.Sc) (t:Wf.Ty) (n rb sb:Nat) (w wr:World) (r cur:List UInt8) (last:Nat) (a:Option Addr) (c:Nat) (l:List Wf.V) (es:List (List Value)):Prop :=
 Rst rb sb w wr cur false a c l es∧Wf.pl l+cur.length=r.length∧Wf.fldsL x t (fun k' s'=>Wf.parse x n k' s') [] 0 r=Wf.fldsL x t (fun k' s'=>Wf.parse x n k' s') l last cur
set_option maxRecDepth 20000 in
set_option maxHeartbeats 4000000 in
theorem rec_items (hx:Wf.ScOk x) (htx:t∈x) (r:List UInt8) (hr:r.head? ≠ some 125) (hf:x.find nm=some t) (ht:t.fields.length≤1000) (lo tb:Nat) (hW:Below W.heap.size W w) (hsc:ScL W lo sb x) (hT:TyL W lo tb t) (h82:t.sort=82) (hWr:W.heap.size≤rb) (IH:∀ f∈t.fields,Reads x rb sb W n f.kind) (hn:r.length<n) (h400:r.length≤400) (H:Sn w rb sb (123::r) false):Calls Tryz.prog 116 #[ptr rb,ptr tb] w fun e w'=>RdOut (Wf.parse x (n+1) (.ref nm) (123::r)) (123::r) rb sb w e w':=by
 have HP:=hid (Wf.parse_rec_flds x n hf h82 hr)
 have HN:=hid fun hp=>hr ((pre1 125 r).1 hp)
 obtain⟨htb,c0⟩:=hT.sort
 rw[h82] at c0
 have y0:w.cell? ⟨tb,0,none⟩=some (.int .u8 82):=(hW.cell (p:=⟨tb,0,none⟩) htb).trans c0
 have htw:tb<w.heap.size:=Nat.lt_of_lt_of_le htb hW.size
 have htw1:tb<w.heap.size+1:=by omega
 have h69:t.sort≠69:=by rw[h82];decide
 have HW:=hid hW
 have HSC:=hid hsc
 have HT:=hid hT
 have HIH:=hid IH
 have H69:=hid h69
 have HX:=hid hx
 have HTX:=hid htx
 have hrb:=H.lt
 have HH:=hid H
 have ST:=hid fun W1 h=>start_rec w rb 82 W1 h
 clear H hW hsc hT IH hr hf h82 h69 hx htx c0
 go_enter Tryz.func116,Tryz.ntmps116
 go_wp2_with (first|(go_at_call 112;have _u:=hS1;refine(take_no rb sb _ r [125] false hS1.out (.inr HN.out)).mono ?_;rintro e w2 ⟨rfl,rfl⟩)|(go_at_call 113;obtain⟨z0,bl0,b0⟩:=ST.out _ rfl;refine(want_yes rb sb _ [123] r (HH.out.below b0)).mono ?_;rintro e w1 ⟨rfl,hs1,hb1⟩;have Z1:=hid (z0.step hb1 (by omega));have BL:=hid (bl0.step hrb hb1);have hS1:=hid hs1;have HB1:=hid ((Beside.of_below b0 (Nat.le_refl _)).trans hb1);have cb2:=hs1.c2;have hbl:=hs1.lt;clear z0 bl0 b0 hs1 hb1))
 go_loopw [8] (fun s8 wr=>∃ (last:Nat) (cur:List UInt8) (a:Option Addr) (c:Nat) (l:List Wf.V) (es:List (List Value)),s8=.int .i64 last∧last≤200∧Hid (Rel x t n rb sb w wr r cur last a c l es)) (fun _ wr=>textAt wr rb)
 case atStart=>exact⟨0,r,none,0,[],[],rfl,Nat.zero_le _,hid ⟨⟨Z1.out,BL.out,hS1.out⟩,by rw[Wf.pl_nil,Nat.zero_add],rfl⟩⟩
 case round =>
  obtain⟨last,cur,a,c,l,es,rfl,hl200,hh⟩:=hrel
  have hl400:es.length≤400:=by
   have h1:=hh.out.1.bld.hl
   have h2:=hh.out.2.1
   unfold Wf.pl at h2
   omega
  have hcn:cur.length<n:=by have:=hh.out.2.1;omega
  have hc400:cur.length≤400:=by have:=hh.out.2.1;omega
  obtain⟨m,hm⟩:∃ m,es.length=m:=⟨_,rfl⟩
  have HM:=hid hm
  have BW:=hid (Beside.below HW.out HW.out.size hWr hh.out.1.bld.fr)
  have hs2:=hh.out.1.sn.c2
  have hrw:rb<wr.heap.size:=hh.out.1.sn.lt
  have hbw:w.heap.size+1<wr.heap.size:=by have:=hh.out.1.bld.sz;omega
  have HST:=hid (Wf.fldsL_step (x:=x) (t:=t) (p:=fun k' s'=>Wf.parse x n k' s') (fun k s v r h=>Wf.parse_lt (v:=v) (r:=r) h) l last cur)
  rw[hm] at hl400
  clear hm
  by_cases hno:∃ g q f,Wf.numTok 200 cur=some (g,61::q)∧t.field g=some f
  ·obtain⟨g0,q0,f0,hn0,hf0⟩:=hno
   have hq0:q0.length<n:=by have:=Wf.numTok_lt hn0;simp at this;omega
   have HFLD:=hid (field_m x rb sb W n t cur wr f0 g0 q0 hn0 hf0 ht hc400 lo tb BW.out HT.out hWr hh.out.1.sn H69.out (HIH.out f0 (Wf.field_mem hf0).1) hq0)
   clear hn0 hf0 hq0
   go_wp2_with (go_at_call 145;refine HFLD.out.mono ?_;rintro e w2 ⟨hb2,cs,f,v,r2,fb,o,rfl,hfm,hf2,hfa,hvc,ho⟩;obtain⟨G,hG⟩:∃ G,f.tag=G:=⟨_,rfl⟩;rw[hG] at hvc hf2;obtain⟨b2,o2,c2,q3,g3,n3,c3,T3,a3,rfl,h1c,hcm,hpb,hb2lt,hvk,k0,k1,k2,k3⟩:=hvc.fld;have HTG:=hid (show W.cell? ⟨fb,o,none⟩=some (.int .i64 G) by(obtain⟨_,_,_,_,hc⟩:=fdC_form t.sort f;rw[← hG];exact hfa.2 0 _ (by rw[hc];rfl)));have HVC:=hid hvc;have HVK:=hid hvk;have HB2:=hid hb2;have HO:=hid ho;have HFA:=hid hfa;have HFM:=hid hfm;have HCM:=hid hcm;have HGG:=hid hG;clear hvc hvk hb2 ho hfa hfm hcm hG)
   have hal:=(Below.refl w2.heap.size w2).alloc (Nat.le_refl _) (.cells #[.int .u8 61, .string ⟨#[]⟩, .int .i64 G, .slice (some ⟨b2,o2,none⟩) 1 c2] 51)
   have z0:(w2.alloc (.cells #[.int .u8 61, .string ⟨#[]⟩, .int .i64 G, .slice (some ⟨b2,o2,none⟩) 1 c2] 51)).cell? ⟨w2.heap.size,0,none⟩=some (.int .u8 61):=by simp[go_sem]
   have z1:(w2.alloc (.cells #[.int .u8 61, .string ⟨#[]⟩, .int .i64 G, .slice (some ⟨b2,o2,none⟩) 1 c2] 51)).cell? ⟨w2.heap.size,1,none⟩=some (.string ⟨#[]⟩):=by simp[go_sem]
   have z2:(w2.alloc (.cells #[.int .u8 61, .string ⟨#[]⟩, .int .i64 G, .slice (some ⟨b2,o2,none⟩) 1 c2] 51)).cell? ⟨w2.heap.size,2,none⟩=some (.int .i64 G):=by simp[go_sem]
   have z3:(w2.alloc (.cells #[.int .u8 61, .string ⟨#[]⟩, .int .i64 G, .slice (some ⟨b2,o2,none⟩) 1 c2] 51)).cell? ⟨w2.heap.size,3,none⟩=some (.slice (some ⟨b2,o2,none⟩) 1 c2):=by simp[go_sem]
   have hz:w2.heap.size<(w2.alloc (.cells #[.int .u8 61, .string ⟨#[]⟩, .int .i64 G, .slice (some ⟨b2,o2,none⟩) 1 c2] 51)).heap.size:=by simp
   obtain⟨W3,hW3⟩:∃ W3,w2.alloc (.cells #[.int .u8 61, .string ⟨#[]⟩, .int .i64 G, .slice (some ⟨b2,o2,none⟩) 1 c2] 51)=W3:=⟨_,rfl⟩
   rw[hW3] at hal z0 z1 z2 z3 hz
   rw[hW3]
   have hbs:w.heap.size+1<wr.heap.size:=hbw
   have hwr2:wr.heap.size≤w2.heap.size:=HB2.out.size
   have BWr:=hid (Beside.below BW.out BW.out.size hWr HB2.out)
   have BW3:=hid (BWr.out.trans (hal.mono BWr.out.size))
   have HAL:=hid hal
   have hfbw:fb<W3.heap.size:=Nat.lt_of_lt_of_le HFA.out.1 BW3.out.size
   have hrb3:rb<W3.heap.size:=by omega
   have hb23:b2<W3.heap.size:=by omega
   -- what lies there while the standing value and the text are made
   have F:=hid fun(wz:World) (hz:Below W3.heap.size W3 wz)=>(show wz.cell? ⟨fb,o,none⟩=some (.int .i64 G)∧wz.cell? ⟨w2.heap.size,3,none⟩=some (.slice (some ⟨b2,o2,none⟩) 1 c2)∧wz.cell? ⟨b2,o2,none⟩=some (.int .u8 q3)∧wz.cell? ⟨b2,o2+1,none⟩=some (.string T3)∧wz.cell? ⟨b2,o2+2,none⟩=some (.int .i64 g3)∧wz.cell? ⟨b2,o2+3,none⟩=some (.slice a3 n3 c3)∧wz.cell? ⟨rb,0,none⟩=some (ptr sb) from by
    have cb:=fun k (u:Value) (hk:w2.cell? ⟨b2,k,none⟩=some u)=>(hz.cell (p:=⟨b2,k,none⟩) hb23).trans ((HAL.out.cell (p:=⟨b2,k,none⟩) hb2lt).trans hk)
    refine⟨(hz.cell (p:=⟨fb,o,none⟩) hfbw).trans ((BW3.out.cell (p:=⟨fb,o,none⟩) HFA.out.1).trans HTG.out),(hz.cell (p:=⟨w2.heap.size,3,none⟩) (by assumption)).trans z3,cb _ _ k0,cb _ _ k1,cb _ _ k2,cb _ _ k3, ?_⟩
    rcases HO.out with⟨_,hs⟩|⟨_,_,hs⟩
    ·exact((hs.below HAL.out).below hz).c0
    ·exact((hs.below HAL.out).below hz).c0)
   have HSNX:=hid fun(wz:World) (hz:Below W3.heap.size W3 wz)=>(show ∃ b,Sn wz rb sb r2 b from by
    rcases HO.out with⟨_,hs⟩|⟨_,_,hs⟩
    ·exact⟨_,(hs.below HAL.out).below hz⟩
    ·exact⟨_,(hs.below HAL.out).below hz⟩)
   obtain⟨f0,f1,f2,f3,f4,f5,f6⟩:=F.out W3 (Below.refl _ _)
   clear hal hW3
   have hfd:=(HX.out.tys t HTX.out).fds f HFM.out
   have hk12:=fd_kind hfd
   have hhas:=HX.out.refs t HTX.out H69.out f HFM.out
   obtain⟨PT,hPT⟩:∃ PT:ByteArray,(⟨v.print.toArray⟩:ByteArray)=PT:=⟨_,rfl⟩
   obtain⟨ST,hST⟩:∃ ST:ByteArray,(⟨(Wf.standF x f).toArray⟩:ByteArray)=ST:=⟨_,rfl⟩
   have hpl:v.print.length≤1000000:=by
    rcases HO.out with⟨hp,_⟩|⟨_,⟨q,hq,hbv⟩,_⟩
    ·have:=fld_len hp
     rw[Wf.print_tag] at this
     simp at this
     omega
    ·have:=hbv.1
     omega
   have HPR:=hid fun(wz:World) (hz:Below W3.heap.size W3 wz)=>(show Calls Tryz.prog 33 #[.agg #[.int .u8 q3, .string T3, .int .i64 g3, .slice a3 n3 c3]] wz fun e w'=>e=.returned (.string PT)∧Below wz.heap.size wz w' by
    rw[← hPT]
    exact print v _ _ w2 wz HVK.out (HAL.out.trans (hz.mono HAL.out.size)) hpl)
   have HOF:=hid fun(wz:World) (hz:Below W3.heap.size W3 wz)=>(show Calls Tryz.prog 42 #[ptr sb, .pointer (some ⟨fb,o,none⟩)] wz fun e w'=>e=.returned (.string ST)∧Below wz.heap.size wz w' by
    rw[← hST]
    exact of x HX.out lo sb fb o t.sort f W wz (BW3.out.trans (hz.mono BW3.out.size)) HSC.out H69.out HFA.out hk12 hhas)
   have HEQ:=hid (show(PT.toList==ST.toList)=decide (v.print=Wf.standF x f) by rw[← hPT,← hST,ByteArray.toList_eq,ByteArray.toList_eq,Bool.beq_eq_decide_eq])
   clear hfd hk12 hhas hPT hST hpl
   go_cut [59] from 25 to 75 (fun s59 wx=>∃ B:Bool,s59=.bool B∧Hid (B=(decide (G≤last) || decide (v.print=Wf.standF x f))∧Below W3.heap.size W3 wx))
   case first =>
    by_cases hle:G≤last
    ·have d1:decide (G≤last)=true:=decide_eq_true hle
     go_quiet (fail)
     all_goals (go_wp2_with fail;go_meet)
     all_goals exact⟨true,rfl,hid ⟨by rw[d1];rfl,⟨rfl,rfl,rfl,Nat.le_refl _,fun _ _=>rfl⟩⟩⟩
    ·have d1:decide (G≤last)=false:=decide_eq_false hle
     have hlt:last<G:=by omega
     go_region_held3 (fun w'=>w'.cell? ⟨fb,o,none⟩=some (.int .i64 G)∧w'.cell? ⟨w2.heap.size,3,none⟩=some (.slice (some ⟨b2,o2,none⟩) 1 c2)∧w'.cell? ⟨b2,o2,none⟩=some (.int .u8 q3)∧w'.cell? ⟨b2,o2+1,none⟩=some (.string T3)∧w'.cell? ⟨b2,o2+2,none⟩=some (.int .i64 g3)∧w'.cell? ⟨b2,o2+3,none⟩=some (.slice a3 n3 c3)∧w'.cell? ⟨rb,0,none⟩=some (ptr sb)) (first|exact⟨p0,p1,p2,p3,p4,p5,p6⟩|exact⟨t0,t1,t2,t3,t4,t5,t6⟩|go_keep) (first|(go_at_call 33;refine(HPR.out _ (by first|exact TS.out|(repeat (first|with_reducible exact Below.refl _ _|with_reducible refine Below.drew ?_)))).mono ?_;rintro e w3 ⟨rfl,hb3⟩;have TD:=Lib.hid (show Below W3.heap.size W3 w3 by first|exact TS.out.trans (hb3.mono TS.out.size)|(refine Below.trans (b:=_) ?_ hb3;repeat (first|with_reducible exact Below.refl _ _|with_reducible refine Below.drew ?_)));obtain⟨p0,p1,p2,p3,p4,p5,p6⟩:=F.out _ TD.out;clear hb3)|(go_at_call 42;refine(HOF.out _ (by first|exact TD.out|(repeat (first|with_reducible exact Below.refl _ _|with_reducible refine Below.drew ?_)))).mono ?_;rintro e w4 ⟨rfl,hb4⟩;have TS:=Lib.hid (show Below W3.heap.size W3 w4 by first|exact TD.out.trans (hb4.mono TD.out.size)|(refine Below.trans (b:=_) ?_ hb4;repeat (first|with_reducible exact Below.refl _ _|with_reducible refine Below.drew ?_)));obtain⟨t0,t1,t2,t3,t4,t5,t6⟩:=F.out _ TS.out;clear hb4))
     all_goals (go_wp2_with fail;go_meet)
     all_goals exact⟨_,rfl,hid ⟨by rw[d1,HEQ.out,Bool.false_or],by first|exact TS.out.trans (TD.out.mono TS.out.size)|exact TS.out|exact TD.out⟩⟩
   case rest =>
    obtain⟨B,rfl,hh2⟩:=hcut
    have HBC:=hid (HB2.out.trans (Beside.of_below (rb:=rb) (HAL.out.trans (hh2.out.2.mono HAL.out.size)) (Nat.le_refl _)))
    have HAC:=hid (HAL.out.trans (hh2.out.2.mono HAL.out.size))
    obtain⟨bad2,HSN,HCS⟩:∃ bad2,Hid (Sn wc rb sb r2 bad2)∧Hid ((bad2=false∧Wf.fieldTok t (fun k s=>Wf.parse x n k s) cur=some (f,v,r2))∨(bad2=true∧Wf.fieldTok t (fun k s=>Wf.parse x n k s) cur=none∧∃ q,q.length+2≤cur.length∧Wf.Badv q r2 v)):=by
     rcases HO.out with⟨hp,hs⟩|⟨hp,hq,hs⟩
     ·exact⟨false,hid (hs.below HAC.out),hid (.inl ⟨rfl,hp⟩)⟩
     ·exact⟨true,hid (hs.below HAC.out),hid (.inr ⟨rfl,hp,hq⟩)⟩
    have HRL:=hid (show r2.length≤cur.length by
     rcases HCS.out with⟨_,hp⟩|⟨_,_,q,hq,hbv⟩
     ·have:=fld_len hp;omega
     ·have:=hbv.2;omega)
    have hcw:W3.heap.size≤wc.heap.size:=hh2.out.2.size
    have hvc1:w.heap.size+1<wc.heap.size:=by omega
    have RC:=hid (hh.out.1.step hrb HBC.out HSN.out)
    have sc2:=HSN.out.c2
    have sf2:=HSN.out.f2
    have slt:=HSN.out.lt
    have HVCC:=hid (HVC.out.below HAC.out)
    clear f0 f1 f2 f3 f4 f5 f6 k0 k1 k2 k3 hs2
    cases B with
    | true =>
     have HRES:=hid (show Wf.parse x (n+1) (.ref nm) (123::r)=none by
      rw[HP.out,hh.out.2.2,HST.out]
      rcases HCS.out with⟨_,hp⟩|⟨_,hp,_⟩
      ·rw[hp]
       have hb:f.tag≤last∨v.print=Wf.standF x f:=by
        have h:=hh2.out.1.symm
        rw[Bool.or_eq_true,decide_eq_true_eq,decide_eq_true_eq] at h
        rw[HGG.out]
        exact h
       dsimp only
       rw[if_pos hb]
       rfl
      ·rw[hp];rfl)
     have HBAD:=hid (bad_rec_stop hh.out.2.1 HRL.out)
     go_wp2_with (go_at_call 113;refine(want_no rb sb _ r2 [125] true HSN.out.fail (.inl rfl)).mono ?_;rintro e w6 ⟨rfl,hs6,hb6⟩;have S6:=hid hs6;have R6:=hid (RC.out.step hrb ((Beside.set rb wc 2 _).trans hb6) hs6);have HB6:=hid (HBC.out.trans ((Beside.set rb wc 2 _).trans hb6));clear hs6 hb6;have v0:=R6.out.bld.v0;have v1:=R6.out.bld.v1;have v2:=R6.out.bld.v2;have v3:=R6.out.bld.v3;rw[HM.out] at v3;obtain⟨zl,zr0,zr1,zr2,zr3,zf0,zf1,zf2,zf3⟩:=R6.out.zero;have hvl:w.heap.size+1<w6.heap.size:=(by have:=R6.out.bld.sz;omega))
     all_goals exact bodyPost_ret (v:=.agg #[.int .u8 82, .string ⟨#[]⟩, .int .i64 0, .slice a m c]) (by simp[results,Tryz.results116,go_sem, *]) rfl (by
      have hR:∀ W4,Beside w.heap.size w6 W4→RdOut (Wf.parse x (n+1) (.ref nm) (123::r)) (123::r) rb sb w (.returned (.agg #[.int .u8 82, .string ⟨#[]⟩, .int .i64 0, .slice a m c])) W4:=fun W4 hb=>by
       obtain⟨hv,hf⟩:=R6.out.bld.out hb (Nat.le_refl _) (by omega) HM.out 82 [] 0 ⟨by omega,fun _=>.inr (.inr (.inr (.inl rfl))),fun h=>absurd h (by decide)⟩
       exact⟨_, .mk 82 [] 0 l,r2,rfl,hv,hf, .inr ⟨HRES.out,HBAD.out,S6.out.beside hb (by omega)⟩⟩
      refine hR _ ?_
      (repeat (first|with_reducible exact Beside.refl _ _|with_reducible refine Beside.drew ?_|with_reducible refine Beside.trans ?_ (Beside.set _ _ _ _))))
    | false =>
     have HNB:=hid (show ¬ (f.tag≤last∨v.print=Wf.standF x f) by
      have h:=hh2.out.1.symm
      rw[Bool.or_eq_false_iff,decide_eq_false_iff_not,decide_eq_false_iff_not] at h
      rw[HGG.out]
      rintro(h1|h1)
      ·exact h.1 h1
      ·exact h.2 h1)
     have HM2:=hid fun(cs:List Value)=>(show(es++[cs]).length=m+1 by rw[List.length_append,HM.out];rfl)
     have HOWN:=hid (show wc.ownsRow (w.heap.size+1+1) 51 4 (.slice a m c) m es.flatten by have h:=RC.out.bld.own;rw[HM.out] at h;exact h)
     obtain⟨i0,hi0,hz0,hz1,hz2⟩:=info_parts info_val
     have HI0:=hid hi0
     have HZ0:=hid hz0
     have HZ1:=hid hz1
     have HZ2:=hid hz2
     have v3:=RC.out.bld.v3
     have vf:=RC.out.bld.f3
     rw[HM.out] at v3
     have hw2c:w2.heap.size<wc.heap.size:=by omega
     have x0:=(hh2.out.2.cell (p:=⟨w2.heap.size,0,none⟩) (by assumption)).trans z0
     have x1:=(hh2.out.2.cell (p:=⟨w2.heap.size,1,none⟩) (by assumption)).trans z1
     have x2:=(hh2.out.2.cell (p:=⟨w2.heap.size,2,none⟩) (by assumption)).trans z2
     have x3:=(hh2.out.2.cell (p:=⟨w2.heap.size,3,none⟩) (by assumption)).trans z3
     have hfc:fb<wc.heap.size:=by omega
     have xt:=(hh2.out.2.cell (p:=⟨fb,o,none⟩) hfbw).trans ((BW3.out.cell (p:=⟨fb,o,none⟩) HFA.out.1).trans HTG.out)
     clear hi0 hz0 hz1 hz2 z0 z1 z2 z3
     have hcase:(∃ p,bad2=false∧r2=44::p)∨Hid (bad2=true∨¬ [44] <+: r2):=by
      cases bad2 with
      | true=>exact .inr (hid (.inl rfl))
      | false =>
       by_cases h4:[44] <+: r2
       ·obtain⟨p,hp⟩:=h4;exact .inl ⟨p,rfl,hp.symm⟩
       ·exact .inr (hid (.inr h4))
     rcases hcase with⟨p,rfl,rfl⟩|HC
     ·have hp:Wf.fieldTok t (fun k s=>Wf.parse x n k s) cur=some (f,v,44::p):=by
       rcases HCS.out with⟨_,hp⟩|⟨hb,_⟩
       ·exact hp
       ·cases hb
      have hlen:=fld_len hp
      have HE:=hid (show Wf.pl (l++[.mk 61 [] G [v]])+p.length=r.length∧p.length<cur.length∧Wf.fldsL x t (fun k' s'=>Wf.parse x n k' s') [] 0 r=Wf.fldsL x t (fun k' s'=>Wf.parse x n k' s') (l++[.mk 61 [] G [v]]) G p by
       rw[HGG.out] at hlen
       simp only[List.length_cons] at hlen
       refine⟨?_,by omega, ?_⟩
       ·rw[Wf.pl_snoc];have:=hh.out.2.1;omega
       ·rw[hh.out.2.2,HST.out,hp]
        dsimp only
        rw[if_neg HNB.out,HGG.out]
        rfl)
      clear hp hlen
      go_wp2_with (first|(go_at_call 112;have RS:=hid (Rst.put hh.out.1 hrb HBC.out HM.out HVCC.out ((Below.refl _ _).alloc (Nat.le_refl _) _) HG4.out HOWN4.out HAT4.out HSN.out);refine(take_yes rb sb _ [44] p RS.out.sn).mono ?_;rintro e w6 ⟨rfl,hs6,hb6⟩;have S6:=hid hs6;have R6:=hid (RS.out.step hrb hb6 hs6);clear hs6 hb6)|(at_builtin;refine wpList_append_lies _ rfl (.tmp 68) (.tmp 70) 49 rfl (w.heap.size+1+1) 51 i0 (.agg #[.int .u8 0,tx [], .int .i64 0, .slice none 0 0]) 4 56 Tryz.underlying49 HI0.out HZ0.out HZ1.out HZ2.out rfl (by decide) (.slice a m c) m _ (by rfl) (HOWN.out.alloc _) ⟨wc.heap.size,0,none⟩ 1 1 [.int .u8 61, .string ⟨#[]⟩, .int .i64 G, .slice (some ⟨b2,o2,none⟩) 1 c2] (by rfl) rfl (World.news_of_block (MapKept.heap_alloc wc (.cells #[.int .u8 61, .string ⟨#[]⟩, .int .i64 G, .slice (some ⟨b2,o2,none⟩) 1 c2] 51)).1) (one4v _ _ _ _ _ _) (by decide) (by unfold maxLen;omega) (by omega) (by simp;omega) _ rfl ?_;intro g cap w4 hown4 hgrow4 hat4 hlt4;have B4:=hid (below_grown2 (base:=w.heap.size+1+1) hgrow4 (fun g hg=>(owns_lt HOWN.out g hg).1) (by simp;omega));have u3:w4.cell? ⟨w.heap.size+1,3,none⟩=some (.slice a m c):=((B4.out.cell (p:=⟨w.heap.size+1,3,none⟩) (Nat.lt_succ_self _)).trans ((World.cell?_alloc_lt wc _ ⟨w.heap.size+1,3,none⟩ hvc1).trans v3));have uf:w4.frozen? ⟨w.heap.size+1,3,none⟩=false:=((B4.out.frozen (p:=⟨w.heap.size+1,3,none⟩) (Nat.lt_succ_self _)).trans ((((Below.refl wc.heap.size wc).alloc (Nat.le_refl _) _).frozen (p:=⟨w.heap.size+1,3,none⟩) hvc1).trans vf));have HOWN4:=hid hown4;have HG4:=hid hgrow4;have HAT4:=hid hat4;clear hown4 hgrow4 hat4))
      go_roundw
      case rel=>exact⟨G,p,some ⟨g,0,none⟩,cap,_,_,rfl,by omega,hid ⟨R6.out,HE.out.1,HE.out.2.2⟩⟩
      case measure =>
       rw[S6.out.size,hh.out.1.sn.size]
       have:=HE.out.2.1
       omega
     ·have hcase2:(∃ p,bad2=false∧r2=125::p)∨Hid (bad2=true∨¬ [125] <+: r2):=by
       cases bad2 with
       | true=>exact .inr (hid (.inl rfl))
       | false =>
        by_cases h4:[125] <+: r2
        ·obtain⟨p,hp⟩:=h4;exact .inl ⟨p,rfl,hp.symm⟩
        ·exact .inr (hid (.inr h4))
      rcases hcase2 with⟨p,rfl,rfl⟩|HC2
      ·have HRES:=hid (show Wf.parse x (n+1) (.ref nm) (123::r)=some (.mk 82 [] 0 (l++[.mk 61 [] G [v]]),p) by
        have hp:Wf.fieldTok t (fun k s=>Wf.parse x n k s) cur=some (f,v,125::p):=by
         rcases HCS.out with⟨_,hp⟩|⟨hb,_⟩
         ·exact hp
         ·cases hb
        rw[HP.out,hh.out.2.2,HST.out,hp]
        dsimp only
        rw[if_neg HNB.out,HGG.out]
        rfl)
       go_wp2_with (first|(go_at_call 113;refine(want_yes rb sb _ [125] p RS.out.sn).mono ?_;rintro e w6 ⟨rfl,hs6,hb6⟩;have S6:=hid hs6;have R6:=hid (RS.out.step hrb hb6 hs6);clear hs6 hb6;have v0:=R6.out.bld.v0;have v1:=R6.out.bld.v1;have v2:=R6.out.bld.v2;have v3:=R6.out.bld.v3;rw[HM2.out] at v3;obtain⟨zl,zr0,zr1,zr2,zr3,zf0,zf1,zf2,zf3⟩:=R6.out.zero;have hvl:w.heap.size+1<w6.heap.size:=(by have:=R6.out.bld.sz;omega))|(go_at_call 112;have RS:=hid (Rst.put hh.out.1 hrb HBC.out HM.out HVCC.out ((Below.refl _ _).alloc (Nat.le_refl _) _) HG4.out HOWN4.out HAT4.out HSN.out);refine(take_no rb sb _ (125::p) [44] false RS.out.sn HC.out).mono ?_;rintro e w5 ⟨rfl,rfl⟩)|(at_builtin;refine wpList_append_lies _ rfl (.tmp 68) (.tmp 70) 49 rfl (w.heap.size+1+1) 51 i0 (.agg #[.int .u8 0,tx [], .int .i64 0, .slice none 0 0]) 4 56 Tryz.underlying49 HI0.out HZ0.out HZ1.out HZ2.out rfl (by decide) (.slice a m c) m _ (by rfl) (HOWN.out.alloc _) ⟨wc.heap.size,0,none⟩ 1 1 [.int .u8 61, .string ⟨#[]⟩, .int .i64 G, .slice (some ⟨b2,o2,none⟩) 1 c2] (by rfl) rfl (World.news_of_block (MapKept.heap_alloc wc (.cells #[.int .u8 61, .string ⟨#[]⟩, .int .i64 G, .slice (some ⟨b2,o2,none⟩) 1 c2] 51)).1) (one4v _ _ _ _ _ _) (by decide) (by unfold maxLen;omega) (by omega) (by simp;omega) _ rfl ?_;intro g cap w4 hown4 hgrow4 hat4 hlt4;have B4:=hid (below_grown2 (base:=w.heap.size+1+1) hgrow4 (fun g hg=>(owns_lt HOWN.out g hg).1) (by simp;omega));have u3:w4.cell? ⟨w.heap.size+1,3,none⟩=some (.slice a m c):=((B4.out.cell (p:=⟨w.heap.size+1,3,none⟩) (Nat.lt_succ_self _)).trans ((World.cell?_alloc_lt wc _ ⟨w.heap.size+1,3,none⟩ hvc1).trans v3));have uf:w4.frozen? ⟨w.heap.size+1,3,none⟩=false:=((B4.out.frozen (p:=⟨w.heap.size+1,3,none⟩) (Nat.lt_succ_self _)).trans ((((Below.refl wc.heap.size wc).alloc (Nat.le_refl _) _).frozen (p:=⟨w.heap.size+1,3,none⟩) hvc1).trans vf));have HOWN4:=hid hown4;have HG4:=hid hgrow4;have HAT4:=hid hat4;clear hown4 hgrow4 hat4))
       all_goals exact bodyPost_ret (v:=.agg #[.int .u8 82, .string ⟨#[]⟩, .int .i64 0, .slice (some ⟨g,0,none⟩) (m+1) cap]) (by simp[results,Tryz.results116,go_sem, *]) rfl (by
        have hR:∀ W4,Beside w.heap.size w6 W4→RdOut (Wf.parse x (n+1) (.ref nm) (123::r)) (123::r) rb sb w (.returned (.agg #[.int .u8 82, .string ⟨#[]⟩, .int .i64 0, .slice (some ⟨g,0,none⟩) (m+1) cap])) W4:=fun W4 hb=>by
         obtain⟨hv,hf⟩:=R6.out.bld.out hb (Nat.le_refl _) (by omega) (HM2.out _) 82 [] 0 ⟨by omega,fun _=>.inr (.inr (.inr (.inl rfl))),fun h=>absurd h (by decide)⟩
         exact⟨_,_,p,rfl,hv,hf, .inl ⟨HRES.out,S6.out.beside hb (by omega)⟩⟩
        refine hR _ ?_
        (repeat (first|with_reducible exact Beside.refl _ _|with_reducible refine Beside.drew ?_|with_reducible refine Beside.trans ?_ (Beside.set _ _ _ _))))
      ·have HRES:=hid (show Wf.parse x (n+1) (.ref nm) (123::r)=none∧Wf.Badv (123::r) r2 (.mk 82 [] 0 (l++[.mk 61 [] G [v]])) by
        rcases HCS.out with⟨hb,hp⟩|⟨hb,hp,q,hq,hbv⟩
        ·have h44:¬ [44] <+: r2:=by
          rcases HC.out with h|h
          ·rw[hb] at h;cases h
          ·exact h
         have h125:¬ [125] <+: r2:=by
          rcases HC2.out with h|h
          ·rw[hb] at h;cases h
          ·exact h
         have hlen:=fld_len hp
         rw[HGG.out] at hlen
         refine⟨?_,Wf.bad_row_end (.inr rfl) (s0:=r) rfl (by simp) (by rw[Wf.pl_snoc];have:=hh.out.2.1;omega)⟩
         rw[HP.out,hh.out.2.2,HST.out,hp]
         dsimp only
         rw[if_neg HNB.out]
         split
         ·exact absurd ⟨_,rfl⟩ h44
         ·exact absurd ⟨_,rfl⟩ h125
         ·rfl
        ·exact⟨by rw[HP.out,hh.out.2.2,HST.out,hp];rfl,Wf.bad_row (.inr rfl) (s0:=r) (s1:=cur) rfl hh.out.2.1 (Wf.bad_field (by omega) hq hbv)⟩)
       go_wp2_with (first|(go_at_call 113;refine(want_no rb sb _ r2 [125] bad2 RS.out.sn HC2.out).mono ?_;rintro e w6 ⟨rfl,hs6,hb6⟩;have S6:=hid hs6;have R6:=hid (RS.out.step hrb hb6 hs6);clear hs6 hb6;have v0:=R6.out.bld.v0;have v1:=R6.out.bld.v1;have v2:=R6.out.bld.v2;have v3:=R6.out.bld.v3;rw[HM2.out] at v3;obtain⟨zl,zr0,zr1,zr2,zr3,zf0,zf1,zf2,zf3⟩:=R6.out.zero;have hvl:w.heap.size+1<w6.heap.size:=(by have:=R6.out.bld.sz;omega))|(go_at_call 112;have RS:=hid (Rst.put hh.out.1 hrb HBC.out HM.out HVCC.out ((Below.refl _ _).alloc (Nat.le_refl _) _) HG4.out HOWN4.out HAT4.out HSN.out);refine(take_no rb sb _ r2 [44] bad2 RS.out.sn HC.out).mono ?_;rintro e w5 ⟨rfl,rfl⟩)|(at_builtin;refine wpList_append_lies _ rfl (.tmp 68) (.tmp 70) 49 rfl (w.heap.size+1+1) 51 i0 (.agg #[.int .u8 0,tx [], .int .i64 0, .slice none 0 0]) 4 56 Tryz.underlying49 HI0.out HZ0.out HZ1.out HZ2.out rfl (by decide) (.slice a m c) m _ (by rfl) (HOWN.out.alloc _) ⟨wc.heap.size,0,none⟩ 1 1 [.int .u8 61, .string ⟨#[]⟩, .int .i64 G, .slice (some ⟨b2,o2,none⟩) 1 c2] (by rfl) rfl (World.news_of_block (MapKept.heap_alloc wc (.cells #[.int .u8 61, .string ⟨#[]⟩, .int .i64 G, .slice (some ⟨b2,o2,none⟩) 1 c2] 51)).1) (one4v _ _ _ _ _ _) (by decide) (by unfold maxLen;omega) (by omega) (by simp;omega) _ rfl ?_;intro g cap w4 hown4 hgrow4 hat4 hlt4;have B4:=hid (below_grown2 (base:=w.heap.size+1+1) hgrow4 (fun g hg=>(owns_lt HOWN.out g hg).1) (by simp;omega));have u3:w4.cell? ⟨w.heap.size+1,3,none⟩=some (.slice a m c):=((B4.out.cell (p:=⟨w.heap.size+1,3,none⟩) (Nat.lt_succ_self _)).trans ((World.cell?_alloc_lt wc _ ⟨w.heap.size+1,3,none⟩ hvc1).trans v3));have uf:w4.frozen? ⟨w.heap.size+1,3,none⟩=false:=((B4.out.frozen (p:=⟨w.heap.size+1,3,none⟩) (Nat.lt_succ_self _)).trans ((((Below.refl wc.heap.size wc).alloc (Nat.le_refl _) _).frozen (p:=⟨w.heap.size+1,3,none⟩) hvc1).trans vf));have HOWN4:=hid hown4;have HG4:=hid hgrow4;have HAT4:=hid hat4;clear hown4 hgrow4 hat4))
       all_goals exact bodyPost_ret (v:=.agg #[.int .u8 82, .string ⟨#[]⟩, .int .i64 0, .slice (some ⟨g,0,none⟩) (m+1) cap]) (by simp[results,Tryz.results116,go_sem, *]) rfl (by
        have hR:∀ W4,Beside w.heap.size w6 W4→RdOut (Wf.parse x (n+1) (.ref nm) (123::r)) (123::r) rb sb w (.returned (.agg #[.int .u8 82, .string ⟨#[]⟩, .int .i64 0, .slice (some ⟨g,0,none⟩) (m+1) cap])) W4:=fun W4 hb=>by
         obtain⟨hv,hf⟩:=R6.out.bld.out hb (Nat.le_refl _) (by omega) (HM2.out _) 82 [] 0 ⟨by omega,fun _=>.inr (.inr (.inr (.inl rfl))),fun h=>absurd h (by decide)⟩
         exact⟨_,_,r2,rfl,hv,hf, .inr ⟨HRES.out.1,HRES.out.2,S6.out.beside hb (by omega)⟩⟩
        refine hR _ ?_
        (repeat (first|with_reducible exact Beside.refl _ _|with_reducible refine Beside.drew ?_|with_reducible refine Beside.trans ?_ (Beside.set _ _ _ _))))
  ·have HFLD:=hid (field_c rb sb W t cur wr false ht hc400 lo tb BW.out HT.out hWr hh.out.1.sn (fun h=>hno h.2))
   have HRES:=hid (show Wf.parse x (n+1) (.ref nm) (123::r)=none by
    rw[HP.out,hh.out.2.2,HST.out,field_none x n t cur hno]
    rfl)
   clear hno
   go_wp2_with (go_at_call 145;refine HFLD.out.mono ?_;rintro e w2 ⟨hb2,r2,rfl,hrl,hsn⟩;have HB2:=hid hb2;have S2:=hid hsn;have HRL:=hid hrl;have sc2:=hsn.c2;have sf2:=hsn.f2;have slt:=hsn.lt;clear hb2 hsn hrl)
   have HBAD:=hid (bad_rec_stop hh.out.2.1 HRL.out)
   have hal:=hid fun k=>(show Below w2.heap.size w2 ((w2.alloc (.cells #[.int .u8 0, .string ⟨#[]⟩, .int .i64 0, .slice none 0 0] 51)).drewN k) from((Below.refl w2.heap.size w2).alloc (Nat.le_refl _) _).trans ⟨rfl,rfl,rfl,Nat.le_refl _,fun _ _=>rfl⟩)
   go_quiet (fail)
   go_wp2_with (go_at_call 113;refine(want_no rb sb _ r2 [125] true (S2.out.below (hal.out _)).fail (.inl rfl)).mono ?_;rintro e w6 ⟨rfl,hs6,hb6⟩;have S6:=hid hs6;have HB6:=hid ((Beside.of_below (rb:=rb) (hal.out _) (Nat.le_refl _)).trans ((Beside.set rb _ 2 _).trans hb6));have R6:=hid (hh.out.1.step hrb (HB2.out.trans HB6.out) hs6);clear hs6 hb6;have v0:=R6.out.bld.v0;have v1:=R6.out.bld.v1;have v2:=R6.out.bld.v2;have v3:=R6.out.bld.v3;rw[HM.out] at v3;obtain⟨zl,zr0,zr1,zr2,zr3,zf0,zf1,zf2,zf3⟩:=R6.out.zero;have hvl:w.heap.size+1<w6.heap.size:=(by have:=R6.out.bld.sz;omega))
   all_goals exact bodyPost_ret (v:=.agg #[.int .u8 82, .string ⟨#[]⟩, .int .i64 0, .slice a m c]) (by simp[results,Tryz.results116,go_sem, *]) rfl (by
    have hR:∀ W4,Beside w.heap.size w6 W4→RdOut (Wf.parse x (n+1) (.ref nm) (123::r)) (123::r) rb sb w (.returned (.agg #[.int .u8 82, .string ⟨#[]⟩, .int .i64 0, .slice a m c])) W4:=fun W4 hb=>by
     obtain⟨hv,hf⟩:=R6.out.bld.out hb (Nat.le_refl _) (by omega) HM.out 82 [] 0 ⟨by omega,fun _=>.inr (.inr (.inr (.inl rfl))),fun h=>absurd h (by decide)⟩
     exact⟨_, .mk 82 [] 0 l,r2,rfl,hv,hf, .inr ⟨HRES.out,HBAD.out,S6.out.beside hb (by omega)⟩⟩
    refine hR _ ?_
    (repeat (first|with_reducible exact Beside.refl _ _|with_reducible refine Beside.drew ?_|with_reducible refine Beside.trans ?_ (Beside.set _ _ _ _))))
theorem ofType_rec (s:List UInt8) (hx:Wf.ScOk x) (htx:t∈x) (hf:x.find nm=some t) (ht:t.fields.length≤1000) (lo tb:Nat) (hW:Below W.heap.size W w) (hsc:ScL W lo sb x) (hT:TyL W lo tb t) (h82:t.sort=82) (hWr:W.heap.size≤rb) (IH:∀ f∈t.fields,Reads x rb sb W n f.kind) (hn:s.length<n+1) (h400:s.length≤400) (H:Sn w rb sb s false):Calls Tryz.prog 116 #[ptr rb,ptr tb] w fun e w'=>RdOut (Wf.parse x (n+1) (.ref nm) s) s rb sb w e w':=by
 cases s with
 | nil=>exact rec_no x rb sb W n t nm [] w hf lo tb hW hT h82 H (by simp)
 | cons a r =>
  by_cases ha:a=123
  ·subst ha
   cases r with
   | nil=>exact rec_items x rb sb W n t nm w hx htx [] (by simp) hf ht lo tb hW hsc hT h82 hWr IH (by simpa using hn) (by simp) H
   | cons b q =>
    by_cases hb:b=125
    ·subst hb;exact rec_nil x rb sb W n t nm w q hf lo tb hW hT h82 H
    ·exact rec_items x rb sb W n t nm w hx htx (b::q) (by simpa using hb) hf ht lo tb hW hsc hT h82 hWr IH (by simp at hn ⊢;omega) (by simp at h400 ⊢;omega) H
  ·exact rec_no x rb sb W n t nm (a::r) w hf lo tb hW hT h82 H (by simpa using ha)
theorem ofType (s:List UInt8) (hx:Wf.ScOk x) (htx:t∈x) (hf:x.find nm=some t) (lo tb:Nat) (hW:Below W.heap.size W w) (hsc:ScL W lo sb x) (hT:TyL W lo tb t) (hWr:W.heap.size≤rb) (IH:t.sort≠69→∀ f∈t.fields,Reads x rb sb W n f.kind) (hn:s.length<n+1) (h400:s.length≤400) (H:Sn w rb sb s false):Calls Tryz.prog 116 #[ptr rb,ptr tb] w fun e w'=>RdOut (Wf.parse x (n+1) (.ref nm) s) s rb sb w e w':=by
 have htok:=hx.tys t htx
 have ht:t.fields.length≤1000:=by have:=htok.len;omega
 rcases htok.sort with h|h|h
 ·exact ofType_rec x rb sb W n t nm w s hx htx hf ht lo tb hW hsc hT h hWr (IH (by rw[h];decide)) hn h400 H
 ·exact ofType_uni rb sb W t s w x n nm h400 hn hf ht lo tb hW hT h hWr H (IH (by rw[h];decide))
 ·exact ofType_enm rb sb W t s w x n nm h400 hf ht lo tb hW hT h hWr H
end
end Go.Proofs.YtidjpalnmnehmaaGreatDoor
