/- Packed. -/
import Derived.Test.YtidjpalnmnehmaaGreatDoorG32
set_option maxRecDepth 99999
set_option maxHeartbeats 40000000
set_option linter.all false
namespace Go.Proofs.YtidjpalnmnehmaaGreatDoor
open Go.ChangeShapes Go.WideShapes Go.ChangeAt Go.RowKit Go.Lib
theorem yT (b tb o g c n:Nat) (w:World) (hlt:b<w.heap.size) (c1:w.cell? ⟨b,1,none⟩=some (.string ⟨#[69]⟩)) (c2:w.cell? ⟨b,2,none⟩=some (.slice (some ⟨tb,o,none⟩) n c)) (h0:0<n) (hn:n<=c) (hc:c<=maxLen) (htb:tb<w.heap.size) (ct:w.cell? ⟨tb,o,none⟩=some (.int .i64 g)) (hg:g<=999999) :
  Calls Tryz.prog 105 #[ptr b] w fun e w'=>e=.returned (tx (35::Wf.dec g))/\Below w.heap.size w w':=by
 have HD:=hid fun wz=>eN g g wz (zaA) (by omega);obtain⟨D,hD⟩:∃ D:ByteArray,(⟨(Wf.dec g).toArray⟩:ByteArray)=D:=⟨_,rfl⟩;simp only[tx,hD] at HD;have hds:D.size<=6:=by rw[<-hD,<-aC];exact Wf.bW hg
 have HO:=hid (show(⟨#[35]⟩:ByteArray)++D=⟨(35::Wf.dec g).toArray⟩ by rw[aS,<-hD];simp);unfold maxLen at hc;clear hD;go_enter Tryz.func105,Tryz.ntmps105;go_wp2_with (go_at_call 89;refine(HD.out _).mono ?_;rintro e w2 ⟨rfl,hb2⟩;have HB2:=hid hb2;clear hb2)
 go_ret
 exact⟨aX HO.out,HB2.out⟩
theorem a4P (b tb kb o p u g c n k d:Nat) (T:ByteArray) (w:World) (hlt:b<w.heap.size) (c1:w.cell? ⟨b,1,none⟩=some (.string ⟨#[85]⟩)) (c2:w.cell? ⟨b,2,none⟩=some (.slice (some ⟨tb,o,none⟩) n c)) (h0:0<n) (hn:n<=c) (hc:c<=maxLen) (htb:tb<w.heap.size) (ct:w.cell? ⟨tb,o,none⟩=some (.int .i64 g)) (hg:g<=999999)
  (c3:w.cell? ⟨b,3,none⟩=some (.slice (some ⟨kb,p,none⟩) k d)) (h1:0<k) (hk:k<=d) (hd:d<=maxLen) (hkb:kb<w.heap.size) (ck:w.cell? ⟨kb,p,none⟩=some (ptr u)) (hT:T.size<=2000000)
  (hrec:∀ wz,Below w.heap.size w wz->Calls Tryz.prog 66 #[ptr u] wz fun e w'=>e=.returned (.string T)/\Below wz.heap.size wz w') :
  Calls Tryz.prog 105 #[ptr b] w fun e w'=>e=.returned (tx (60::(Wf.dec g++61::(T.data.toList++[62]))))/\Below w.heap.size w w':=by
 have HD:=hid fun wz=>eN g g wz (zaA) (by omega);obtain⟨D,hD⟩:∃ D:ByteArray,(⟨(Wf.dec g).toArray⟩:ByteArray)=D:=⟨_,rfl⟩;simp only[tx,hD] at HD;have hds:D.size<=6:=by rw[<-hD,<-aC];exact Wf.bW hg
 have HO:=hid (show(⟨#[60]⟩:ByteArray)++D++⟨#[61]⟩++T++⟨#[62]⟩=⟨(60::(Wf.dec g++61::(T.data.toList++[62]))).toArray⟩ by rw[aS,<-hD];simp);have HREC:=hid hrec;have a1:=fun wz=>zbH (P:=Tryz.prog) (w:=wz) ⟨#[60]⟩ D (by show 1+D.size<=_;omega);have a2:=fun wz=>zbH (P:=Tryz.prog) (w:=wz) (⟨#[60]⟩++D) ⟨#[61]⟩ (by rw[zaO];show 1+D.size+1<=_;omega);have a3:=fun wz=>zbH (P:=Tryz.prog) (w:=wz) (⟨#[60]⟩++D++⟨#[61]⟩) T (by rw[zaO,zaO];show 1+D.size+1+T.size<=_;omega);have a4:=fun wz=>zbH (P:=Tryz.prog) (w:=wz) (⟨#[60]⟩++D++⟨#[61]⟩++T) ⟨#[62]⟩ (by rw[zaO,zaO,zaO];show 1+D.size+1+T.size+1<=_;omega);have F:=hid fun(wz:World) (hz:Below w.heap.size w wz)=>(show wz.cell? ⟨b,2,none⟩=some (.slice (some ⟨tb,o,none⟩) n c)/\wz.cell? ⟨tb,o,none⟩=some (.int .i64 g)/\wz.cell? ⟨b,3,none⟩=some (.slice (some ⟨kb,p,none⟩) k d)/\wz.cell? ⟨kb,p,none⟩=some (ptr u) from⟨(hz.cell (p:=⟨b,2,none⟩) hlt).trans c2,(hz.cell (p:=⟨tb,o,none⟩) htb).trans ct,(hz.cell (p:=⟨b,3,none⟩) hlt).trans c3,(hz.cell (p:=⟨kb,p,none⟩) hkb).trans ck⟩);unfold maxLen at hc hd;clear hD hrec;go_enter Tryz.func105,Tryz.ntmps105;go_wp2_with fail
 go_region_held3 (fun w'=>w'.cell? ⟨b,2,none⟩=some (.slice (some ⟨tb,o,none⟩) n c)/\w'.cell? ⟨tb,o,none⟩=some (.int .i64 g)/\w'.cell? ⟨b,3,none⟩=some (.slice (some ⟨kb,p,none⟩) k d)/\w'.cell? ⟨kb,p,none⟩=some (ptr u)) (first|exact⟨k1,k2,k3,k4⟩|exact⟨d1,d2,d3,d4⟩|go_keep) (first|(go_at_call 89;refine(HD.out _).mono ?_;rintro e w3 ⟨rfl,hb3⟩;have TD:=Lib.hid (show Below w.heap.size w w3 by first|exact TS.out.trans (hb3.mono TS.out.size)|(refine Below.trans (b:=_) ?_ hb3;repeat (first|with_reducible exact zaB|with_reducible refine zbE ?_)));obtain⟨d1,d2,d3,d4⟩:=F.out _ TD.out;clear hb3)|(go_at_call 66;refine(HREC.out _ (by first|exact TD.out|(repeat (first|with_reducible exact zaB|with_reducible refine zbE ?_)))).mono ?_;rintro e w4 ⟨rfl,hb4⟩;have TS:=Lib.hid (show Below w.heap.size w w4 by first|exact TD.out.trans (hb4.mono TD.out.size)|(refine Below.trans (b:=_) ?_ hb4;repeat (first|with_reducible exact zaB|with_reducible refine zbE ?_)));obtain⟨k1,k2,k3,k4⟩:=F.out _ TS.out;clear hb4))
 all_goals go_wp2_with fail
 all_goals go_ret
 all_goals exact⟨aX HO.out,by first|exact TS.out.trans (TD.out.mono TS.out.size)|exact TS.out|exact TD.out⟩
theorem wO (b tb kb:Nat) (tv kv:Value) (gs bs:List Nat) (ps:List (List UInt8)) (w:World) (hlt:b<w.heap.size) (c1:w.cell? ⟨b,1,none⟩=some (.string ⟨#[82]⟩)) (c2:w.cell? ⟨b,2,none⟩=some tv) (c3:w.cell? ⟨b,3,none⟩=some kv) (hrt:aI w tb tv (gs.map ix)) (hrow:aI w kb kv (bs.map ptr)) (hlg:gs.length=bs.length) (hl:bs.length=ps.length)
  (hg:∀ g∈gs,g<=999999) (hsz:(Wf.commas ((gs.zip ps).map fun y=>Wf.dec y.1++61::y.2)).length<=2000000)
  (hk:∀ i (h1:i<bs.length) (h2:i<ps.length) wz,Below w.heap.size w wz->Calls Tryz.prog 66 #[ptr bs[i]] wz fun e w'=>e=.returned (tx ps[i])/\Below wz.heap.size wz w') :
  Calls Tryz.prog 105 #[ptr b] w fun e w'=>e=.returned (tx (123::(Wf.commas ((gs.zip ps).map fun y=>Wf.dec y.1++61::y.2)++[125])))/\Below w.heap.size w w':=by
 obtain⟨a,c,rfl,hnc,hcm⟩:=hrow.form;obtain⟨ta,tc,rfl,htc,htm⟩:=hrt.form;obtain⟨m,hm⟩:∃ m,(bs.map ptr).length=m:=⟨_,rfl⟩;have hbm:bs.length=m:=by rw[<-hm,zaG]
 have hpm:ps.length=m:=by omega
 have hgm:gs.length=m:=by omega
 have hgm2:(gs.map ix).length=m:=by rw[zaG];exact hgm
 obtain⟨Q,hQ⟩:∃ Q,((gs.zip ps).map fun y=>Wf.dec y.1++61::y.2)=Q:=⟨_,rfl⟩;have hqm:Q.length=m:=by rw[<-hQ,zaG,List.length_zip];omega
 rw[hQ] at hsz ⊢;have hm6:m<=2000001:=by have:=oQ Q;omega
 have HQI:=hid fun(i:Nat) (h1:i<Q.length) (h2:i<gs.length) (h3:i<ps.length)=>(show Q[i]=Wf.dec gs[i]++61::ps[i] by subst hQ;rw[zaR,List.getElem_zip]);have HBM:=hid hbm;have HPM:=hid hpm;have HGM:=hid hgm;have HGM2:=hid hgm2;have HQM:=hid hqm;have HMM:=hid hm;rw[hm] at c3 hrow hnc;rw[hgm2] at c2 hrt htc;have HROW:=hid hrow;have HRT:=hid hrt;have HK:=hid hk;have HSZ:=hid hsz;have HG:=hid hg;unfold maxLen at hcm htm;clear hrow hk hl hsz hm hbm hpm hrt hg hgm hgm2 hqm hQ hlg;go_enter Tryz.func105,Tryz.ntmps105;go_wp2_with fail
 go_loopw [3,4] (fun s3 s4 wr=>∃ (i:Nat) (S:ByteArray),s3=.string S/\s4=.int .i64 i/\i<=m/\S.size<=2000001/\Hid (S.data.toList=123::Wf.commas (Q.take i)/\Below w.heap.size w wr)) (fun _ s4 _=>m-(RowKit.intOf s4).toNat)
 case atStart=>exact⟨0,⟨#[123]⟩,rfl,rfl,Nat.zero_le _,by decide,hid ⟨rfl,zaB⟩⟩
 case round =>
  obtain⟨i,S,rfl,rfl,hi,hS,hh⟩:=hrel;have hbw:b<wr.heap.size:=zaC hlt hh.out.2.size;have y2:=(hh.out.2.cell (p:=⟨b,2,none⟩) hlt).trans c2;have y3:=(hh.out.2.cell (p:=⟨b,3,none⟩) hlt).trans c3;by_cases hlt2:i<m
  ·have hib:i<bs.length:=by rw[HBM.out];exact hlt2
   have hip:i<ps.length:=(by rw[HPM.out];exact hlt2);have hig:i<gs.length:=(by rw[HGM.out];exact hlt2);have hiq:i<Q.length:=(by rw[HQM.out];exact hlt2);obtain⟨o,rfl,hkb,_,_,ck⟩:=HROW.out.get (i:=i) (by rw[HMM.out];exact hlt2);obtain⟨p,rfl,htb,_,_,ct⟩:=HRT.out.get (i:=i) (by rw[HGM2.out];exact hlt2);rw[zaR] at ck ct;obtain⟨u,hu⟩:∃ u,bs[i]=u:=⟨_,rfl⟩;obtain⟨g,hgi⟩:∃ g,gs[i]=g:=⟨_,rfl⟩;have hg6:g<=999999:=(by rw[<-hgi];exact HG.out _ (zaQ hig));obtain⟨T,hT⟩:∃ T:ByteArray,(⟨(ps[i]).toArray⟩:ByteArray)=T:=⟨_,rfl⟩;rw[hu] at ck;rw[hgi] at ct;have hct:ix g=.int .i64 g:=rfl;rw[hct] at ct;have hkw:kb<wr.heap.size:=zaC hkb hh.out.2.size;have htw:tb<wr.heap.size:=zaC htb hh.out.2.size;have yk:=(hh.out.2.cell (p:=⟨kb,o+i,none⟩) hkb).trans ck;have yt:=(hh.out.2.cell (p:=⟨tb,p+i,none⟩) htb).trans ct;have HC:=hid fun(wz:World) (hz:Below wr.heap.size wr wz)=>(show Calls Tryz.prog 66 #[ptr u] wz fun e w'=>e=.returned (.string T)/\Below wz.heap.size wz w' by
    have:=HK.out i hib hip wz (hh.out.2.trans (hz.mono hh.out.2.size));rw[hu] at this;simp only[tx,hT] at this;exact this)
   have HSTEP:=hid (Wf.oX hiq);have hqi:=HQI.out i hiq hig hip;rw[hgi] at hqi;have hql:(Q[i]).length<=2000000:=zaI (Wf.cV (zaQ hiq)) HSZ.out;have hTs:T.size<=2000000:=by
    rw[hqi] at hql;simp at hql;rw[<-hT,<-aC];show(ps[i]).length<=_;omega
   have HTL:=hid (show Q[i]=Wf.dec g++61::T.data.toList by rw[hqi,<-hT]);have HTK:=hid (show(Wf.commas (Q.take (i+1))).length<=2000000 from zaI (Wf.pN _) HSZ.out);have fin:∀ S':ByteArray,S'.data.toList=123::Wf.commas (Q.take (i+1))->S'.size<=2000001:=fun S' h=>by
    have:=HTK.out;rw[<-aC,h];simp only[zaF];omega
   have FIN:=hid fin;have HD:=hid fun wz=>eN g g wz (zaA) (by omega);obtain⟨D,hD⟩:∃ D:ByteArray,(⟨(Wf.dec g).toArray⟩:ByteArray)=D:=⟨_,rfl⟩;simp only[tx,hD] at HD;have hds:D.size<=6:=(by rw[<-hD,<-aC];exact Wf.bW hg6);have HDL:=hid (show D.data.toList=Wf.dec g by rw[<-hD]);obtain⟨S1,hS1,hS1s,HE⟩:∃ S1:ByteArray,(S1=if i=0 then S else S++⟨#[44]⟩)/\S1.size<=2000002/\Hid ((S1++D++⟨#[61]⟩++T).data.toList=123::Wf.commas (Q.take (i+1))):=by
    refine⟨_,rfl,?_,hid ?_⟩
    ·split
     ·omega
     ·rw[zaO];show S.size+1<=_;omega
    ·rw[HSTEP.out,HTL.out]
     by_cases hi0:i=0
     ·subst hi0
      rw[if_pos rfl,if_pos rfl];simp only[zaU,zaW,hh.out.1,HDL.out];simp[Wf.commas]
     ·rw[if_neg hi0,if_neg hi0]
      simp only[zaU,zaW,hh.out.1,HDL.out];simp
   have a1:=fun wz=>zbH (P:=Tryz.prog) (w:=wz) S1 D (by omega);have a2:=fun wz=>zbH (P:=Tryz.prog) (w:=wz) (S1++D) ⟨#[61]⟩ (by rw[zaO];show S1.size+D.size+1<=_;omega);have a3:=fun wz=>zbH (P:=Tryz.prog) (w:=wz) (S1++D++⟨#[61]⟩) T (by rw[zaO,zaO];show S1.size+D.size+1+T.size<=_;omega);have n1:(0:Int)<=(i:Int):=(by omega);have n2:(i:Int)<(m:Int):=(by omega);clear hu hT ck ct fin hgi hqi hql hD hct;by_cases hi0:i=0
   ·subst hi0
    rw[if_pos rfl] at hS1;rw[Nat.add_zero] at yt yk;have F:=hid fun(wz:World) (hz:Below wr.heap.size wr wz)=>(show wz.cell? ⟨b,2,none⟩=some (.slice (some ⟨tb,p,none⟩) m tc)/\wz.cell? ⟨tb,p,none⟩=some (.int .i64 g)/\wz.cell? ⟨b,3,none⟩=some (.slice (some ⟨kb,o,none⟩) m c)/\wz.cell? ⟨kb,o,none⟩=some (ptr u) from⟨(hz.cell (p:=⟨b,2,none⟩) hbw).trans y2,(hz.cell (p:=⟨tb,p,none⟩) htw).trans yt,(hz.cell (p:=⟨b,3,none⟩) hbw).trans y3,(hz.cell (p:=⟨kb,o,none⟩) hkw).trans yk⟩);subst hS1;go_wp2_with fail
    go_region_held3 (fun w'=>w'.cell? ⟨b,2,none⟩=some (.slice (some ⟨tb,p,none⟩) m tc)/\w'.cell? ⟨tb,p,none⟩=some (.int .i64 g)/\w'.cell? ⟨b,3,none⟩=some (.slice (some ⟨kb,o,none⟩) m c)/\w'.cell? ⟨kb,o,none⟩=some (ptr u)) (first|exact⟨k1,k2,k3,k4⟩|exact⟨d1,d2,d3,d4⟩|go_keep) (first|(go_at_call 89;refine(HD.out _).mono ?_;rintro e w3 ⟨rfl,hb3⟩;have TD:=Lib.hid (show Below wr.heap.size wr w3 by first|exact TS.out.trans (hb3.mono TS.out.size)|(refine Below.trans (b:=_) ?_ hb3;repeat (first|with_reducible exact zaB|with_reducible refine zbE ?_)));obtain⟨d1,d2,d3,d4⟩:=F.out _ TD.out;clear hb3)|(go_at_call 66;refine(HC.out _ (by first|exact TD.out|(repeat (first|with_reducible exact zaB|with_reducible refine zbE ?_)))).mono ?_;rintro e w4 ⟨rfl,hb4⟩;have TS:=Lib.hid (show Below wr.heap.size wr w4 by first|exact TD.out.trans (hb4.mono TD.out.size)|(refine Below.trans (b:=_) ?_ hb4;repeat (first|with_reducible exact zaB|with_reducible refine zbE ?_)));obtain⟨k1,k2,k3,k4⟩:=F.out _ TS.out;clear hb4))
    all_goals go_wp2_with fail
    all_goals go_roundw
    all_goals first
    | exact⟨0+1,S1++D++⟨#[61]⟩++T,by rfl,by go_num,by omega,FIN.out _ HE.out,hid ⟨HE.out,hh.out.2.trans (TS.out.mono hh.out.2.size)⟩⟩
    | exact⟨0+1,S1++D++⟨#[61]⟩++T,by rfl,by go_num,by omega,FIN.out _ HE.out,hid ⟨HE.out,hh.out.2.trans (TD.out.mono hh.out.2.size)⟩⟩
    | (simp[RowKit.intOf];omega)
   ·have hip0:0<i:=by omega
    rw[if_neg hi0] at hS1;have F:=hid fun(wz:World) (hz:Below wr.heap.size wr wz)=>(show wz.cell? ⟨b,2,none⟩=some (.slice (some ⟨tb,p,none⟩) m tc)/\wz.cell? ⟨tb,p+i,none⟩=some (.int .i64 g)/\wz.cell? ⟨b,3,none⟩=some (.slice (some ⟨kb,o,none⟩) m c)/\wz.cell? ⟨kb,o+i,none⟩=some (ptr u) from⟨(hz.cell (p:=⟨b,2,none⟩) hbw).trans y2,(hz.cell (p:=⟨tb,p+i,none⟩) htw).trans yt,(hz.cell (p:=⟨b,3,none⟩) hbw).trans y3,(hz.cell (p:=⟨kb,o+i,none⟩) hkw).trans yk⟩);subst hS1;clear hi0;go_wp2_with fail
    go_region_held3 (fun w'=>w'.cell? ⟨b,2,none⟩=some (.slice (some ⟨tb,p,none⟩) m tc)/\w'.cell? ⟨tb,p+i,none⟩=some (.int .i64 g)/\w'.cell? ⟨b,3,none⟩=some (.slice (some ⟨kb,o,none⟩) m c)/\w'.cell? ⟨kb,o+i,none⟩=some (ptr u)) (first|exact⟨k1,k2,k3,k4⟩|exact⟨d1,d2,d3,d4⟩|go_keep) (first|(go_at_call 89;refine(HD.out _).mono ?_;rintro e w3 ⟨rfl,hb3⟩;have TD:=Lib.hid (show Below wr.heap.size wr w3 by first|exact TS.out.trans (hb3.mono TS.out.size)|(refine Below.trans (b:=_) ?_ hb3;repeat (first|with_reducible exact zaB|with_reducible refine zbE ?_)));obtain⟨d1,d2,d3,d4⟩:=F.out _ TD.out;clear hb3)|(go_at_call 66;refine(HC.out _ (by first|exact TD.out|(repeat (first|with_reducible exact zaB|with_reducible refine zbE ?_)))).mono ?_;rintro e w4 ⟨rfl,hb4⟩;have TS:=Lib.hid (show Below wr.heap.size wr w4 by first|exact TD.out.trans (hb4.mono TD.out.size)|(refine Below.trans (b:=_) ?_ hb4;repeat (first|with_reducible exact zaB|with_reducible refine zbE ?_)));obtain⟨k1,k2,k3,k4⟩:=F.out _ TS.out;clear hb4))
    all_goals go_wp2_with fail
    all_goals go_roundw
    all_goals first
    | exact⟨i+1,(S++⟨#[44]⟩)++D++⟨#[61]⟩++T,by rfl,by go_num,by omega,FIN.out _ HE.out,hid ⟨HE.out,hh.out.2.trans (TS.out.mono hh.out.2.size)⟩⟩
    | exact⟨i+1,(S++⟨#[44]⟩)++D++⟨#[61]⟩++T,by rfl,by go_num,by omega,FIN.out _ HE.out,hid ⟨HE.out,hh.out.2.trans (TD.out.mono hh.out.2.size)⟩⟩
    | (simp[RowKit.intOf];omega)
  ·have him:i=m:=by omega
   subst him;have HE:=hid (show S++(⟨#[125]⟩:ByteArray)=⟨(123::(Wf.commas Q++[125])).toArray⟩ by
    rw[aS,zaU,zaW,hh.out.1,zaS (by rw[HQM.out];exact zaA)];simp)
   go_wp2_with fail
   go_ret
   exact⟨aX HE.out,hh.out.2⟩

theorem mW (b:Nat) (KD O:ByteArray) (w:World) (hlt:b<w.heap.size) (hs:0<KD.size) (e0:∀ h,(KD[0]'h).toNat=64) (c0:w.cell? ⟨b,0,none⟩=some (.string KD))
  (hn:Calls Tryz.prog 105 #[ptr b] w fun e w'=>e=.returned (.string O)/\Below w.heap.size w w') :
  Calls Tryz.prog 66 #[ptr b] w fun e w'=>e=.returned (.string O)/\Below w.heap.size w w':=by
 have HN:=hid hn;clear hn;go_enter Tryz.func66,Tryz.ntmps66;go_wp2_with (go_at_call 105;refine HN.out.mono ?_;rintro e w2 ⟨rfl,hb2⟩;have HB2:=hid hb2;clear hb2)
 go_ret
 exact⟨rfl,HB2.out⟩
theorem LV.at {W w:World} {P:Nat->Prop} {v:Wf.V} {b:Nat} (h:LV W P v b) (hw:v.what≠61) (hW:Below W.heap.size W w):b<w.heap.size/\∃ (kd t:List UInt8) (tv kv:Value) (tb kb:Nat) (bs:List Nat),
   w.cell? ⟨b,0,none⟩=some (tx kd)/\w.cell? ⟨b,1,none⟩=some (tx t)/\w.cell? ⟨b,2,none⟩=some tv/\w.cell? ⟨b,3,none⟩=some kv /\
   aI w tb tv ((bG v.what v.tag v.kids).map ix)/\aI w kb kv (bs.map ptr)/\aZ v.what v.text kd t/\LVs W P v.kids bs:=by
 obtain⟨_,hb,kd,t,tv,kv,tb,kb,bs,c0,c1,c2,c3,r1,r2,hs,hk⟩:=h.form hw;exact⟨zaC hb hW.size,kd,t,tv,kv,tb,kb,bs,(hW.cell (p:=⟨b,0,none⟩) hb).trans c0,(hW.cell (p:=⟨b,1,none⟩) hb).trans c1,(hW.cell (p:=⟨b,2,none⟩) hb).trans c2,(hW.cell (p:=⟨b,3,none⟩) hb).trans c3,r1.below hW id,r2.below hW id,hs,hk⟩
theorem LVs.one {W:World} {P:Nat->Prop} {v:Wf.V} {bs:List Nat} (h:LVs W P [v] bs):∃ u,bs=[u]/\LV W P v u:=by
 simp only[LVs] at h;obtain⟨u,bs',rfl,h1,rfl⟩:=h;exact⟨u,rfl,h1⟩
theorem LVs.none {W:World} {P:Nat->Prop} {bs:List Nat} (h:LVs W P [] bs):bs=[]:=by
 simpa only [LVs] using h
theorem LVs.fields {W:World} {P:Nat->Prop}:∀ {l:List (Wf.Fd × Wf.V)} {bs:List Nat},LVs W P (l.map fun e=>.mk 61 [] e.1.tag [e.2]) bs->LVs W P (l.map (·.2)) bs:=by
 intro l;induction l with
 | nil=>intro bs h;exact h
 | cons e l ih =>
  intro bs h;simp only[zaX,LVs] at h ⊢;obtain⟨b,bs',rfl,h1,h2⟩:=h;exact⟨b,bs',rfl,LV.field.1 h1,ih h2⟩
theorem mP (l:List (Wf.Fd × Wf.V)):bG 82 0 (l.map fun e=>.mk 61 [] e.1.tag [e.2])=l.map (fun e=>e.1.tag):=by
 unfold bG;rw[if_pos rfl,List.map_map];rfl
theorem tX (l:List (Wf.Fd × Wf.V)):(((l.map fun e=>e.1.tag).zip (l.map fun e=>e.2.print)).map fun y=>Wf.dec y.1++61::y.2)=(l.map fun e=>Wf.V.mk 61 [] e.1.tag [e.2]).map Wf.V.print:=by
 induction l with
 | nil=>rfl
 | cons e l ih=>simp only[zaX,List.zip_cons_cons,ih,Wf.dO]
theorem out {x:Wf.Sc}:∀ (n:Nat) (k:Wf.K) (v:Wf.V),Wf.Typed x n k v->∀ (P:Nat->Prop) (b:Nat) (W w:World),LV W P v b->Below W.heap.size W w->v.print.length<=2000000->Calls Tryz.prog 66 #[ptr b] w fun e w'=>e=.returned (tx v.print)/\Below w.heap.size w w':=by
 intro n;induction n with
 | zero=>intro k v h;exact h.elim
 | succ n ih =>
  intro k v h P b W w hL hW hlen;obtain⟨hlt,kd,t,tv,kv,tb,kb,bs,c0,c1,c2,c3,r1,r2,hs,hk⟩:=hL.at (Wf.oK h) hW;have leaf:∀ q:UInt8,(q.toNat=110\/q.toNat=116\/q.toNat=102)->kd.head? = some q->t=v.print->Calls Tryz.prog 66 #[ptr b] w fun e w'=>e=.returned (tx v.print)/\Below w.heap.size w w':=by
   intro q hq hkd ht;obtain⟨h1,h2⟩:=bC hkd;refine(vV b q.toNat ⟨kd.toArray⟩ ⟨t.toArray⟩ w hlt h1 h2 hq c0 c1).mono ?_;rintro e w' ⟨rfl,rfl⟩;exact⟨by rw[ht],zaB⟩
  cases k with
  | num =>
   obtain⟨m,hm,rfl⟩:=h;simp only[Wf.V.what,Wf.V.text,aZ] at hs;exact leaf 110 (.inl rfl) hs.1 (by rw[hs.2,Wf.eR])
  | txt =>
   obtain⟨d,h1,h2,rfl⟩:=h;simp only[Wf.V.what,Wf.V.text,aZ] at hs;exact leaf 116 (.inr (.inl rfl)) hs.1 (by rw[hs.2,Wf.eM])
  | flag =>
   rcases h with rfl|rfl;all_goals
    simp only[Wf.V.what,Wf.V.text,aZ] at hs;exact leaf 102 (.inr (.inr rfl)) hs.1 (by rw[hs.2,Wf.cQ])
  | list k =>
   obtain⟨l,h20,hl,rfl⟩:=h;simp only[Wf.V.what,Wf.V.text,Wf.V.kids,aZ] at hs hk;obtain⟨h1,h2⟩:=bC hs.1;rw[Wf.dD] at hlen ⊢;have hcl:(Wf.commas (l.map Wf.V.print)).length<=2000000:=(by simp at hlen;omega);refine vG b kb ⟨kd.toArray⟩ kv bs (l.map Wf.V.print) w hlt h1 h2 c0 c3 r2 (by rw[hk.len,zaG]) hcl fun i g1 g2 wz hz=>?_;have g3:i<l.length:=(by simpa using g2);rw[zaR];exact ih k l[i] (hl _ (zaQ g3)) P bs[i] W wz (hk.get i g3 g1) (hW.trans (hz.mono hW.size)) (zaI (Wf.cV (List.mem_map.2 ⟨_,zaQ g3,rfl⟩)) hcl)
  | opt k =>
   rcases h with rfl|⟨u,hu,rfl⟩
   ·simp only[Wf.V.what,Wf.V.text,Wf.V.kids,aZ] at hs hk
    obtain⟨h1,h2⟩:=bC hs.1;obtain rfl:=hk.none;obtain⟨a,c,rfl,_,_⟩:=r2.form;refine(zX b c ⟨kd.toArray⟩ a w hlt h1 h2 c0 c3).mono ?_;rintro e w' ⟨rfl,rfl⟩;exact⟨by rw[Wf.eO],zaB⟩
   ·simp only[Wf.V.what,Wf.V.text,Wf.V.kids,aZ] at hs hk
    obtain⟨h1,h2⟩:=bC hs.1;obtain⟨ub,rfl,hu2⟩:=hk.one;obtain⟨a,c,rfl,hnc,hcm⟩:=r2.form;obtain⟨o,rfl,hkb,_,_,ck⟩:=r2.get (i:=0) (by simp);rw[Wf.dA] at hlen ⊢;have hul:u.print.length<=2000000:=(by simp at hlen;omega);exact a4U b kb o ub c ⟨kd.toArray⟩ ⟨u.print.toArray⟩ w hlt h1 h2 c0 c3 hkb ck hnc hcm (by rw[<-aC];exact hul) fun wz hz=>ih k u hu P ub W wz hu2 (hW.trans (hz.mono hW.size)) hul
  | ref nm =>
   obtain⟨ty,hty,h⟩:=h;rcases h with⟨_,f,hf,hf2,rfl⟩|⟨_,_,f,u,hf,hf2,hu,rfl⟩|⟨_,_,l,hasc,hl,rfl⟩
   ·simp only[Wf.V.what,Wf.V.text,Wf.V.kids,Wf.V.tag,aZ] at hs hk r1
    obtain⟨h1,h2⟩:=bC hs.1;have htl:t=[69]:=hs.2;subst htl;obtain⟨a,c,rfl,hnc,hcm⟩:=r1.form;obtain⟨o,rfl,htb,_,_,ct⟩:=r1.get (i:=0) (by simp[bG]);rw[Wf.eT];exact mW b ⟨kd.toArray⟩ ⟨(35::Wf.dec f.tag).toArray⟩ w hlt h1 h2 c0 (yT b tb o f.tag c _ w hlt c1 c2 (by simp[bG]) hnc hcm htb (by simpa[bG] using ct) (by omega))
   ·simp only[Wf.V.what,Wf.V.text,Wf.V.kids,Wf.V.tag,aZ] at hs hk r1
    obtain⟨h1,h2⟩:=bC hs.1;have htl:t=[85]:=hs.2;subst htl;obtain⟨ub,rfl,hu2⟩:=hk.one;obtain⟨a,c,rfl,hnc,hcm⟩:=r1.form;obtain⟨o,rfl,htb,_,_,ct⟩:=r1.get (i:=0) (by simp[bG]);obtain⟨ka,kc,rfl,hkc,hkm⟩:=r2.form;obtain⟨p,rfl,hkb,_,_,ck⟩:=r2.get (i:=0) (by simp);rw[Wf.dH] at hlen ⊢;have hul:u.print.length<=2000000:=(by simp at hlen;omega);exact mW b ⟨kd.toArray⟩ ⟨(60::(Wf.dec f.tag++61::(u.print++[62]))).toArray⟩ w hlt h1 h2 c0 (a4P b tb kb o p ub f.tag c _ _ kc ⟨u.print.toArray⟩ w hlt c1 c2 (by simp[bG]) hnc hcm htb (by simpa[bG] using ct) (by omega) c3 (by simp) hkc hkm hkb ck (by rw[<-aC];exact hul) fun wz hz=>ih f.kind u hu P ub W wz hu2 (hW.trans (hz.mono hW.size)) hul)
   ·simp only[Wf.V.what,Wf.V.text,Wf.V.kids,Wf.V.tag,aZ] at hs hk r1
    obtain⟨h1,h2⟩:=bC hs.1;have htl:t=[82]:=hs.2;subst htl;rw[mP] at r1;have hk2:=hk.fields;have hbl:bs.length=l.length:=(by rw[hk2.len,zaG]);rw[Wf.cN,<-tX] at hlen ⊢;have hcl:(Wf.commas (((l.map fun e=>e.1.tag).zip (l.map fun e=>e.2.print)).map fun y=>Wf.dec y.1++61::y.2)).length<=2000000:=(by simp only[zaF,zaD,zaM] at hlen;omega);refine mW b ⟨kd.toArray⟩ ⟨_⟩ w hlt h1 h2 c0 (wO b tb kb tv kv (l.map fun e=>e.1.tag) bs (l.map fun e=>e.2.print) w hlt c1 c2 c3 r1 r2 (by rw[zaG,hbl]) (by rw[zaG,hbl]) (fun g hg=>?_) hcl fun i g1 g2 wz hz=>?_)
    ·obtain⟨e,he,rfl⟩:=List.mem_map.1 hg
     have:=(hl e he).2.2.1;omega
    ·have g3:i<l.length:=by simpa using g2
     have g4:i<(l.map (·.2)).length:=(by simpa using g3);have hv:=hk2.get i g4 g1;rw[zaR] at hv;rw[zaR];refine ih (l[i]).1.kind (l[i]).2 (hl _ (zaQ g3)).2.2.2.1 P bs[i] W wz hv (hW.trans (hz.mono hW.size)) ?_;rw[tX] at hcl;have h3:=Wf.cV (l:=(l.map fun e=>Wf.V.mk 61 [] e.1.tag [e.2]).map Wf.V.print) (a:=(Wf.V.mk 61 [] (l[i]).1.tag [(l[i]).2]).print) (List.mem_map.2 ⟨_,List.mem_map.2 ⟨l[i],zaQ g3,rfl⟩,rfl⟩);rw[Wf.dO] at h3;simp only[zaD,zaF] at h3;omega



theorem tF {p:UInt8->Bool}:∀ {l:List UInt8} {i:Nat},i<(l.takeWhile p).length->∃ c,l[i]? = some c/\p c=true:=by
 intro l;induction l with
 | nil=>intro i h;simp at h
 | cons a l ih =>
  intro i h;by_cases ha:p a=true
  ·rw[List.takeWhile_cons_of_pos ha] at h
   cases i with
   | zero=>exact⟨a,rfl,ha⟩
   | succ i=>exact ih (by simpa using h)
  ·rw[List.takeWhile_cons_of_neg ha] at h;simp at h
theorem oN {p:UInt8->Bool}:∀ {l:List UInt8} {c:UInt8},l[(l.takeWhile p).length]? = some c->p c=false:=by
 intro l;induction l with
 | nil=>intro c h;simp at h
 | cons a l ih =>
  intro c h;by_cases ha:p a=true
  ·rw[List.takeWhile_cons_of_pos ha] at h
   exact ih (by simpa using h)
  ·rw[List.takeWhile_cons_of_neg ha] at h
   simp at h;subst h;simpa using ha
theorem gF (p:UInt8->Bool) (l:List UInt8):(l.takeWhile p).length<=l.length:=(List.takeWhile_prefix p).length_le
theorem a2F (p:UInt8->Bool) (l:List UInt8):l.take (l.takeWhile p).length=l.takeWhile p:=(List.prefix_iff_eq_take.1 (List.takeWhile_prefix p)).symm
theorem mB (p:UInt8->Bool) (l:List UInt8):l.drop (l.takeWhile p).length=l.dropWhile p:=by
 have h:=List.takeWhile_append_dropWhile (p:=p) (l:=l);have h2:(l.takeWhile p++l.dropWhile p).drop (l.takeWhile p).length=l.dropWhile p:=List.drop_left;rw[h] at h2;exact h2
theorem kX (s:ByteArray) (w:World) (hs:s.size<=1048576):Calls Tryz.prog 125 #[.string s] w fun e w'=>e=.returned (.int .i64 ((s.data.toList.takeWhile Wf.aB).length:Nat))/\w=w':=by
 obtain⟨T,hT⟩:∃ T,(s.data.toList.takeWhile Wf.aB).length=T:=⟨_,rfl⟩;have hle:T<=s.size:=by rw[<-hT,<-aC];exact gF _ _
 have HIN:=hid fun(i:Nat) (h:i<T)=>(by rw[<-hT] at h;exact tF h:∃ c,s.data.toList[i]? = some c/\Wf.aB c=true);have HAT:=hid fun(c:UInt8) (h:s.data.toList[T]? = some c)=>(by rw[<-hT] at h;exact oN h:Wf.aB c=false);rw[hT];clear hT;go_enter Tryz.func125,Tryz.ntmps125;go_wp2_with fail
 go_loop [3] (fun v=>∃ i:Nat,i<=T/\v=.int .i64 i) (fun v=>T-(RowKit.intOf v).toNat)
 case atStart=>exact⟨0,Nat.zero_le _,rfl⟩
 case round =>
  obtain⟨i,hi,rfl⟩:=hrel;by_cases hlt:i<T
  ·have his:i<s.size:=by omega
   obtain⟨c,hc,e1⟩:=byte_at s i his;obtain⟨c',hc',hd⟩:=HIN.out i hlt;rw[hc] at hc';obtain rfl:=Option.some.inj hc';obtain⟨b,hb⟩:∃ b,c.toNat=b:=⟨_,rfl⟩;rw[hb] at e1;have h1:48<=b:=(by simp[Wf.aB] at hd;omega);have h2:b<=57:=(by simp[Wf.aB] at hd;omega);clear hc hc' hd hb;go_wp2_with fail
   go_round
   case rel=>exact⟨i+1,by omega,by go_num⟩
   case measure=>simp[RowKit.intOf];omega
  ·have hiT:i=T:=by omega
   subst hiT;by_cases his:i<s.size
   ·obtain⟨c,hc,e1⟩:=byte_at s i his
    have hd:=HAT.out c hc;obtain⟨b,hb⟩:∃ b,c.toNat=b:=⟨_,rfl⟩;rw[hb] at e1;by_cases h1:48<=b
    ·have h2:57<b:=by
      simp[Wf.aB] at hd;omega
     clear hc hd hb;go_wp2_with fail
     go_ret
     exact⟨rfl,rfl⟩
    ·have h2:b<48:=by omega
     clear hc hd hb h1;go_wp2_with fail
     go_ret
     exact⟨rfl,rfl⟩
   ·go_wp2_with fail
    go_ret
    exact⟨rfl,rfl⟩
theorem gR (S:ByteArray) (T:Nat) (h:T<=S.size):∀ wz,(Instr.slice 9 (.string S) none (some (.int .i64 T)) none).run Tryz.prog wz=.ok (.string (S.extract 0 T)) wz:=fun wz=>by
 have:=run_slice_string_h (P:=Tryz.prog) wz 9 S Tryz.underlying9 .i64 (T:Int) (by omega) (by omega);rw[this,Int.toNat_natCast]
theorem bM (S:ByteArray) (T:Nat) (h:T<=S.size):∀ wz,(Instr.slice 9 (.string S) (some (.int .i64 T)) none none).run Tryz.prog wz=.ok (.string (S.extract T S.size)) wz:=fun wz=>by
 have:=run_slice_string_l (P:=Tryz.prog) wz 9 S Tryz.underlying9 .i64 (T:Int) (by omega) (by omega);rw[this,Int.toNat_natCast]
theorem kO (S:ByteArray) (p:UInt8->Bool):(S.extract 0 (S.data.toList.takeWhile p).length).data.toList=S.data.toList.takeWhile p:=by
 rw[bB,List.drop_zero,Nat.sub_zero,a2F]
theorem cL (S:ByteArray) (T:Nat):(S.extract T S.size).data.toList=S.data.toList.drop T:=by
 rw[bB,zaS (by rw[List.length_drop,aC];exact zaA)]
structure jH (wr:World) (b:Nat):Prop where
 lt:b<wr.heap.size
 r0:wr.cell? ⟨b,0,none⟩=some (.int .i64 0)
 r1:wr.cell? ⟨b,1,none⟩=some (.string ⟨#[]⟩)
 r2:wr.cell? ⟨b,2,none⟩=some (.string ⟨#[]⟩)
 r3:wr.cell? ⟨b,3,none⟩=some (.string ⟨#[]⟩)
 f0:wr.frozen? ⟨b,0,none⟩=false
 f1:wr.frozen? ⟨b,1,none⟩=false
 f2:wr.frozen? ⟨b,2,none⟩=false
 f3:wr.frozen? ⟨b,3,none⟩=false
theorem jH.below {wr w2:World} {b B:Nat} (h:jH wr b) (hb:Below B wr w2) (hr:b<B):jH w2 b:=by
 have h1:=hb.block b hr;have cd:=fun o=>zbJ (w:=wr) (w':=w2) (a:=⟨b,o,none⟩) h1;have cf:=fun o=>World.frozen?_of_block (w:=wr) (w':=w2) (a:=⟨b,o,none⟩) h1;exact⟨zaC h.lt hb.size,(cd 0).trans h.r0,(cd 1).trans h.r1,(cd 2).trans h.r2,(cd 3).trans h.r3,(cf 0).trans h.f0,(cf 1).trans h.f1,(cf 2).trans h.f2,(cf 3).trans h.f3⟩
theorem qU (w:World) (v:Value) (q n c:Nat) (N:ByteArray) (fa:Option Addr) (W1:World) (hW1:((w.alloc (.cells #[v] 99)).alloc (.cells #[.int .u8 q,.string N,.slice fa n c] 143)).alloc (.cells #[.int .i64 0,.string ⟨#[]⟩,.string ⟨#[]⟩,.string ⟨#[]⟩] 163)=W1) :
  W1.cell? ⟨w.heap.size+1,0,none⟩=some (.int .u8 q)/\W1.cell? ⟨w.heap.size+1,1,none⟩=some (.string N)/\W1.cell? ⟨w.heap.size+1,2,none⟩=some (.slice fa n c)/\jH W1 (w.heap.size+1+1)/\Below w.heap.size w W1:=by
 have hB:Below w.heap.size w W1:=by
  rw[<-hW1];exact((((zaB).alloc (zaA) _).alloc (by simp) _).alloc (by simp;omega) _)
 subst hW1;refine⟨?_,?_,?_,⟨?_,?_,?_,?_,?_,?_,?_,?_,?_⟩,hB⟩;all_goals first|(simp[go_sem];done)|(simp[go_sem];omega)
def tagF (t:Wf.Ty) (s:List UInt8):Option Wf.Fd:=(Wf.aH (s.takeWhile Wf.aB) 200).bind t.field
def bR (t:Wf.Ty) (s:List UInt8) (e:Ending):Prop:=match tagF t s with
 | some f=>e=.returned (.tuple #[.agg #[.int .i64 f.tag,tx f.name,tx (if t.sort=69 then [] else f.kind.text),tx f.given],tx (s.dropWhile Wf.aB),.bool true])
 | none=>∃ (m:Int) (a b c:ByteArray),e=.returned (.tuple #[.agg #[.int .i64 m,.string a,.string b,.string c],tx (s.dropWhile Wf.aB),.bool false])
theorem pP (v:Value) (S:ByteArray) (hS:S.size<=1048576) (q n c:Nat) (N:ByteArray) (fa:Option Addr) (m g':Int) (A B C:ByteArray) (b1 b2:Bool) (w:World)
  (hnum:∀ wz,Calls Tryz.prog 52 #[.string (S.extract 0 (S.data.toList.takeWhile Wf.aB).length),.int .i64 200] wz fun e w'=>e=.returned (.tuple #[.int .i64 m,.bool b1])/\Below wz.heap.size wz w')
  (hfld:∀ wz,Below w.heap.size w wz->Calls Tryz.prog 150 #[.agg #[.int .u8 q,.string N,.slice fa n c],.int .i64 m] wz fun e w'=>e=.returned (.tuple #[.agg #[.int .i64 g',.string A,.string B,.string C],.bool b2])/\Below wz.heap.size wz w') :
  Calls Tryz.prog 124 #[.agg #[v],.string S,.agg #[.int .u8 q,.string N,.slice fa n c]] w fun e w'=>e=.returned (.tuple #[.agg #[.int .i64 g',.string A,.string B,.string C],tx (S.data.toList.dropWhile Wf.aB),.bool (b1&&b2)])/\Below w.heap.size w w':=by
 have HDG:=hid fun wz=>kX S wz hS;obtain⟨T,hT⟩:∃ T,(S.data.toList.takeWhile Wf.aB).length=T:=⟨_,rfl⟩;have hle:T<=S.size:=by rw[<-hT,<-aC];exact gF _ _
 have k1:=gR S T hle;have k2:=bM S T hle;have HR:=hid (show(⟨(S.data.toList.dropWhile Wf.aB).toArray⟩:ByteArray)=S.extract T S.size by rw[aS,cL,<-hT,mB]);rw[hT] at hnum HDG;have HNUM:=hid hnum;have HFLD:=hid hfld;have ST:=hid fun W1 h=>qU w v q n c N fa W1 h;clear hnum hfld hT;cases b1 <;> cases b2;all_goals
  go_enter Tryz.func124,Tryz.ntmps124;go_wp2_with (first|(go_at_call 150;refine(HFLD.out _ B2.out).mono ?_;rintro e w3 ⟨rfl,hb3⟩;have B3:=hid (B2.out.trans (hb3.mono B2.out.size));obtain⟨zl,zr0,zr1,zr2,zr3,zf0,zf1,zf2,zf3⟩:=Z2.out.below hb3 Z2.out.lt;clear hb3)|(go_at_call 52;obtain⟨t0,t1,t2,z0,b0⟩:=ST.out _ rfl;refine(HNUM.out _).mono ?_;rintro e w2 ⟨rfl,hb2⟩;have hlt1:=zaC (zaH _) (Nat.le_of_lt z0.lt);have u0:=(hb2.cell (p:=⟨w.heap.size+1,0,none⟩) hlt1).trans t0;have u1:=(hb2.cell (p:=⟨w.heap.size+1,1,none⟩) hlt1).trans t1;have u2:=(hb2.cell (p:=⟨w.heap.size+1,2,none⟩) hlt1).trans t2;have hl2:=zaC hlt1 hb2.size;have B2:=hid (aE b0 hb2);have Z2:=hid (z0.below hb2 z0.lt);clear hb2 t0 t1 t2 z0 b0 hlt1)|(go_at_call 125;refine(HDG.out _).mono ?_;rintro e w1 ⟨rfl,rfl⟩))
  go_region
  all_goals (go_wp2_with fail)
  all_goals first|exact zbD (v:=.tuple #[.agg #[.int .i64 g',.string A,.string B,.string C],.string (S.extract T S.size),.bool false]) (by simp[results,Tryz.results124,go_sem, *]) rfl ⟨by rw[<-HR.out];rfl,by have BB:=B3.out;have hB:=BB.size;repeat (first|with_reducible exact BB|with_reducible refine zbE ?_|with_reducible refine zbF ?_ (by first|(simp;done)|(simp;omega)) _|with_reducible refine zbG ?_ (by first|exact BB.size|(simp;omega)) _)⟩|exact zbD (v:=.tuple #[.agg #[.int .i64 g',.string A,.string B,.string C],.string (S.extract T S.size),.bool true]) (by simp[results,Tryz.results124,go_sem, *]) rfl ⟨by rw[<-HR.out];rfl,by have BB:=B3.out;have hB:=BB.size;repeat (first|with_reducible exact BB|with_reducible refine zbE ?_|with_reducible refine zbF ?_ (by first|(simp;done)|(simp;omega)) _|with_reducible refine zbG ?_ (by first|exact BB.size|(simp;omega)) _)⟩
theorem xB (v:Value) (S:ByteArray) (hS:S.size<=1048576) (q n c:Nat) (N:ByteArray) (fa:Option Addr) (w:World)
  (hnum:∀ wz,Calls Tryz.prog 52 #[.string (S.extract 0 (S.data.toList.takeWhile Wf.aB).length),.int .i64 200] wz fun e w'=>(∃ m:Int,e=.returned (.tuple #[.int .i64 m,.bool false]))/\Below wz.heap.size wz w')
  (hfld:∀ (m:Int) wz,Below w.heap.size w wz->Calls Tryz.prog 150 #[.agg #[.int .u8 q,.string N,.slice fa n c],.int .i64 m] wz fun e w'=>(∃ (g':Int) (A B C:ByteArray) (b2:Bool),e=.returned (.tuple #[.agg #[.int .i64 g',.string A,.string B,.string C],.bool b2]))/\Below wz.heap.size wz w') :
  Calls Tryz.prog 124 #[.agg #[v],.string S,.agg #[.int .u8 q,.string N,.slice fa n c]] w fun e w'=>(∃ (g':Int) (A B C:ByteArray),e=.returned (.tuple #[.agg #[.int .i64 g',.string A,.string B,.string C],tx (S.data.toList.dropWhile Wf.aB),.bool false]))/\Below w.heap.size w w':=by
 have HDG:=hid fun wz=>kX S wz hS;obtain⟨T,hT⟩:∃ T,(S.data.toList.takeWhile Wf.aB).length=T:=⟨_,rfl⟩;have hle:T<=S.size:=by rw[<-hT,<-aC];exact gF _ _
 have k1:=gR S T hle;have k2:=bM S T hle;have HR:=hid (show(⟨(S.data.toList.dropWhile Wf.aB).toArray⟩:ByteArray)=S.extract T S.size by rw[aS,cL,<-hT,mB]);rw[hT] at hnum HDG;have HNUM:=hid hnum;have HFLD:=hid hfld;have ST:=hid fun W1 h=>qU w v q n c N fa W1 h;clear hnum hfld hT;go_enter Tryz.func124,Tryz.ntmps124;go_wp2_with (first|(go_at_call 150;refine(HFLD.out _ _ B2.out).mono ?_;rintro e w3 ⟨⟨g',A,B,C,b2,rfl⟩,hb3⟩;have B3:=hid (B2.out.trans (hb3.mono B2.out.size));obtain⟨zl,zr0,zr1,zr2,zr3,zf0,zf1,zf2,zf3⟩:=Z2.out.below hb3 Z2.out.lt;clear hb3)|(go_at_call 52;obtain⟨t0,t1,t2,z0,b0⟩:=ST.out _ rfl;refine(HNUM.out _).mono ?_;rintro e w2 ⟨⟨m,rfl⟩,hb2⟩;have hlt1:=zaC (zaH _) (Nat.le_of_lt z0.lt);have u0:=(hb2.cell (p:=⟨w.heap.size+1,0,none⟩) hlt1).trans t0;have u1:=(hb2.cell (p:=⟨w.heap.size+1,1,none⟩) hlt1).trans t1;have u2:=(hb2.cell (p:=⟨w.heap.size+1,2,none⟩) hlt1).trans t2;have hl2:=zaC hlt1 hb2.size;have B2:=hid (aE b0 hb2);have Z2:=hid (z0.below hb2 z0.lt);clear hb2 t0 t1 t2 z0 b0 hlt1)|(go_at_call 125;refine(HDG.out _).mono ?_;rintro e w1 ⟨rfl,rfl⟩))
 go_region
 all_goals (go_wp2_with fail)
 all_goals exact zbD (v:=.tuple #[.agg #[.int .i64 g',.string A,.string B,.string C],.string (S.extract T S.size),.bool false]) (by simp[results,Tryz.results124,go_sem, *]) rfl ⟨⟨g',A,B,C,by rw[<-HR.out]⟩,by have BB:=B3.out;have hB:=BB.size;repeat (first|with_reducible exact BB|with_reducible refine zbE ?_|with_reducible refine zbF ?_ (by first|(simp;done)|(simp;omega)) _|with_reducible refine zbG ?_ (by first|exact BB.size|(simp;omega)) _)⟩
theorem lW (t:Wf.Ty) (ht:t.fields.length<=1000) (v:Value) (S:ByteArray) (hS:S.size<=1048576) (fb c:Nat) (fa:Option Addr) (W w:World) (hW:Below W.heap.size W w) (H:RowK W fb (.slice fa t.fields.length c) 4 (t.fields.map (fdS t.sort))) :
  Calls Tryz.prog 124 #[.agg #[v],.string S,.agg #[.int .u8 t.sort.toNat,tx t.name,.slice fa t.fields.length c]] w fun e w'=>bR t S.data.toList e/\Below w.heap.size w w':=by
 have hle:(S.extract 0 (S.data.toList.takeWhile Wf.aB).length).size<=9223372036854775807:=by rw[zaY];omega
 have hnum:=fun wz=>gQ (S.extract 0 (S.data.toList.takeWhile Wf.aB).length) 200 (by omega) wz hle;rw[kO] at hnum;have hf:=fun(g:Int) (wz:World) (hz:Below w.heap.size w wz)=>a1O t ht g t.sort.toNat ⟨t.name.toArray⟩ fb fa c W wz (hW.trans (hz.mono hW.size)) H;cases hp:Wf.aH (S.data.toList.takeWhile Wf.aB) 200 with
 | none =>
  refine(xB v S hS t.sort.toNat t.fields.length c ⟨t.name.toArray⟩ fa w (fun wz=>(hnum wz).mono fun e w' ⟨h1,h2⟩=>⟨by unfold aY at h1;rw[hp] at h1;exact h1,h2⟩) (fun m wz hz=>(hf m wz hz).mono fun e w' ⟨h1,h2⟩=>⟨?_,h2⟩)).mono fun e w' ⟨h1,h2⟩=>⟨?_,h2⟩
  ·rw[h1]
   cases bZ t m with
   | none=>exact⟨_,_,_,_,_,rfl⟩
   | some f=>exact⟨_,_,_,_,_,rfl⟩
  ·unfold bR tagF
   rw[hp];exact h1
 | some g =>
  have h1:∀ wz,Calls Tryz.prog 52 #[.string (S.extract 0 (S.data.toList.takeWhile Wf.aB).length),.int .i64 200] wz fun e w'=>e=.returned (.tuple #[.int .i64 g,.bool true])/\Below wz.heap.size wz w':=fun wz=>(hnum wz).mono fun e w' ⟨h1,h2⟩=>⟨by unfold aY at h1;rw[hp] at h1;exact h1,h2⟩;cases hg:t.field g with
  | none =>
   refine(pP v S hS t.sort.toNat t.fields.length c ⟨t.name.toArray⟩ fa g 0 ⟨#[]⟩ ⟨#[]⟩ ⟨#[]⟩ true false w h1 (fun wz hz=>(hf g wz hz).mono fun e w' ⟨h3,h4⟩=>⟨by rw[h3,cP,hg];rfl,h4⟩)).mono fun e w' ⟨h5,h6⟩=>⟨?_,h6⟩;unfold bR tagF;rw[hp,h5];simp only[Option.bind_some,hg];exact⟨_,_,_,_,rfl⟩
  | some f =>
   refine(pP v S hS t.sort.toNat t.fields.length c ⟨t.name.toArray⟩ fa g f.tag ⟨f.name.toArray⟩ ⟨(if t.sort=69 then [] else f.kind.text).toArray⟩ ⟨f.given.toArray⟩ true true w h1 (fun wz hz=>(hf g wz hz).mono fun e w' ⟨h3,h4⟩=>⟨by rw[h3,cP,hg];rfl,h4⟩)).mono fun e w' ⟨h5,h6⟩=>⟨?_,h6⟩;unfold bR tagF;rw[hp,h5];simp only[Option.bind_some,hg];rfl

def aD (o:Option (Wf.V × List UInt8)) (w:World) (e:Ending) (w':World):Prop:=match o with
 | some y=>∃ b,e=.returned (.tuple #[ptr b,tx y.2,.bool true])/\LV w' (fun z=>w.heap.size<=z) y.1 b
 | none=>∃ (p:Option Addr) (r:ByteArray),e=.returned (.tuple #[.pointer p,.string r,.bool false])
theorem aD.no {o:Option (Wf.V × List UInt8)} {w w':World} {e:Ending} (h:o=none) (he:∃ (p:Option Addr) (r:ByteArray),e=.returned (.tuple #[.pointer p,.string r,.bool false])):aD o w e w':=by
 subst h;exact he
theorem aD.yes {o:Option (Wf.V × List UInt8)} {w w':World} {e:Ending} {v:Wf.V} {r:List UInt8} (h:o=some (v,r)) (he:∃ b,e=.returned (.tuple #[ptr b,tx r,.bool true])/\LV w' (fun z=>w.heap.size<=z) v b):aD o w e w':=by
 subst h;exact he
theorem dV (w:World) (b:Nat):aI w b (.slice none 0 0) []:=⟨none,0,rfl,zaA,by unfold maxLen;omega,.inl rfl⟩
theorem LV.new {w W:World} {P:Nat->Prop} {what:UInt8} {text kd t:List UInt8} {tag:Nat} (h61:what≠61) (hs:aZ what text kd t) (ht:bG what tag []=[]) (hp:P w.heap.size) (hlt:w.heap.size<W.heap.size)
  (c0:W.cell? ⟨w.heap.size,0,none⟩=some (tx kd)) (c1:W.cell? ⟨w.heap.size,1,none⟩=some (tx t)) (c2:W.cell? ⟨w.heap.size,2,none⟩=some (.slice none 0 0)) (c3:W.cell? ⟨w.heap.size,3,none⟩=some (.slice none 0 0)):LV W P (.mk what text tag []) w.heap.size :=
 LV.mk (bs:=[]) (tb:=0) (kb:=0) h61 hp hlt c0 c1 c2 c3 (by rw[ht];exact dV _ _) (.inl ht) (dV _ _) (.inl rfl) hs (by simp only[LVs])
theorem a0S (x:Wf.Sc) (n:Nat) (v:Value) (S:ByteArray) (hS:S.size<=1048576) (w:World):Calls Tryz.prog 88 #[.agg #[v],.string S,tx [110]] w fun e w'=>aD (Wf.parse x (n+1) .num S.data.toList) w e w'/\Below w.heap.size w w':=by
 have HDG:=hid fun wz=>kX S wz hS;have hle:(S.extract 0 (S.data.toList.takeWhile Wf.aB).length).size<=9223372036854775807:=by rw[zaY];omega
 have hnum:=fun wz=>gQ (S.extract 0 (S.data.toList.takeWhile Wf.aB).length) 999999 (by omega) wz hle;rw[kO] at hnum;obtain⟨T,hT⟩:∃ T,(S.data.toList.takeWhile Wf.aB).length=T:=⟨_,rfl⟩;have hTle:T<=S.size:=by rw[<-hT,<-aC];exact gF _ _
 have k1:=gR S T hTle;have k2:=bM S T hTle;have HX:=hid (show S.extract 0 T=⟨(S.data.toList.takeWhile Wf.aB).toArray⟩ by rw[aS,<-hT,kO]);have HR:=hid (show S.extract T S.size=⟨(S.data.toList.dropWhile Wf.aB).toArray⟩ by rw[aS,cL,<-hT,mB]);rw[hT] at HDG hnum;obtain⟨X1,hX1⟩:∃ X1,S.extract 0 T=X1:=⟨_,rfl⟩;obtain⟨X2,hX2⟩:∃ X2,S.extract T S.size=X2:=⟨_,rfl⟩;rw[hX1] at k1 HX hnum;rw[hX2] at k2 HR;cases hp:Wf.aH (S.data.toList.takeWhile Wf.aB) 999999 with
 | none =>
  have HP:=hid (show Wf.parse x (n+1) .num S.data.toList=none by rw[Wf.jV,Wf.aM,hp];rfl);have HNUM:=hid fun wz=>(hnum wz).mono (R':=fun e w'=>(∃ m:Int,e=.returned (.tuple #[.int .i64 m,.bool false]))/\Below wz.heap.size wz w') fun e w' ⟨h1,h2⟩=>⟨by unfold aY at h1;rw[hp] at h1;exact h1,h2⟩;clear hnum hp hT hX1 hX2;go_enter Tryz.func88,Tryz.ntmps88;go_wp2_with (first|(go_at_call 52;refine(HNUM.out _).mono ?_;rintro e w2 ⟨⟨m,rfl⟩,hb2⟩;have B2:=hid (aE ((zaB).alloc (zaA) _) hb2);clear hb2)|(go_at_call 125;refine(HDG.out _).mono ?_;rintro e w1 ⟨rfl,rfl⟩))
  go_region
  all_goals (go_wp2_with fail)
  all_goals exact zbD (v:=.tuple #[ptr w2.heap.size,.string X2,.bool false]) (by simp[results,Tryz.results88,go_sem, *]) rfl ⟨aD.no HP.out ⟨_,_,rfl⟩,by have BB:=B2.out;have hB:=BB.size;repeat (first|with_reducible exact BB|with_reducible refine zbE ?_|with_reducible refine zbG ?_ (by first|exact BB.size|(simp;omega)) _)⟩
 | some g =>
  have HP:=hid (show Wf.parse x (n+1) .num S.data.toList=some (.mk 110 (S.data.toList.takeWhile Wf.aB) 0 [],S.data.toList.dropWhile Wf.aB) by rw[Wf.jV,Wf.aM,hp,(Wf.dW hp).1];rfl);have HNUM:=hid fun wz=>(hnum wz).mono (R':=fun e w'=>e=.returned (.tuple #[.int .i64 g,.bool true])/\Below wz.heap.size wz w') fun e w' ⟨h1,h2⟩=>⟨by unfold aY at h1;rw[hp] at h1;exact h1,h2⟩;clear hnum hp hT hX1 hX2;go_enter Tryz.func88,Tryz.ntmps88;go_wp2_with (first|(go_at_call 52;refine(HNUM.out _).mono ?_;rintro e w2 ⟨rfl,hb2⟩;have B2:=hid (aE ((zaB).alloc (zaA) _) hb2);clear hb2)|(go_at_call 125;refine(HDG.out _).mono ?_;rintro e w1 ⟨rfl,rfl⟩))
  go_region
  all_goals (go_wp2_with fail)
  all_goals exact zbD (v:=.tuple #[ptr w2.heap.size,.string X2,.bool true]) (by simp[results,Tryz.results88,go_sem, *]) rfl (by
   have hR:∀ W3:World,W3.heap.size=w2.heap.size->Below w.heap.size w W3->(aD (Wf.parse x (n+1) .num S.data.toList) w (.returned (.tuple #[ptr w2.heap.size,.string X2,.bool true])) (W3.alloc (.cells #[tx [110],.string X1,.slice none 0 0,.slice none 0 0] 103))/\Below w.heap.size w (W3.alloc (.cells #[tx [110],.string X1,.slice none 0 0,.slice none 0 0] 103))):=fun W3 h1 h2=>by
    refine⟨aD.yes HP.out ⟨w2.heap.size,by rw[HR.out],?_⟩,h2.alloc h2.size _⟩;rw[<-h1];rw[HX.out];exact LV.new (kd:=[110]) (t:=S.data.toList.takeWhile Wf.aB) (by decide) ⟨rfl,rfl⟩ rfl (h2.size) (by simp) (by simp[go_sem]) (by simp[go_sem]) (by simp[go_sem]) (by simp[go_sem])
   first|exact hR w2 rfl B2.out|exact hR w2.drew rfl B2.out.drew)
theorem yC {l:List UInt8} (h:Wf.quoted l=true):l=39::(l.tail.dropLast++[39]):=by
 obtain⟨b,rfl,_,_⟩:=Wf.fG.1 h;simp
theorem wL (x:Wf.Sc) (n:Nat) (l:List UInt8):Wf.parse x (n+1) .txt l=if Wf.quoted (l.take (Wf.cR l))=true then some (.mk 116 (l.take (Wf.cR l)).tail.dropLast 0 [],l.drop (Wf.cR l)) else none:=by
 cases l with
 | nil=>rw[Wf.sH];rfl
 | cons a r=>exact Wf.a6E x n a r
theorem a3K (x:Wf.Sc) (n:Nat) (v:Value) (S:ByteArray) (hS:S.size<=1048576) (w:World):Calls Tryz.prog 88 #[.agg #[v],.string S,tx [116]] w fun e w'=>aD (Wf.parse x (n+1) .txt S.data.toList) w e w'/\Below w.heap.size w w':=by
 obtain⟨E,hE⟩:∃ E,Wf.cR S.data.toList=E:=⟨_,rfl⟩;have hEle:E<=S.size:=by rw[<-hE,<-aC];exact Wf.a4R _
 have k1:=gR S E hEle;have k2:=bM S E hEle;have HX:=hid (show S.extract 0 E=⟨(S.data.toList.take E).toArray⟩ by rw[aS,bB,List.drop_zero,Nat.sub_zero]);have HR:=hid (show S.extract E S.size=⟨(S.data.toList.drop E).toArray⟩ by rw[aS,cL]);have htx:=fun wz=>qL (S.extract 0 E) wz (by rw[zaY];omega);rw[show(S.extract 0 E).data.toList=S.data.toList.take E by rw[bB,List.drop_zero,Nat.sub_zero]] at htx;obtain⟨Q,hQ⟩:∃ Q,Wf.quoted (S.data.toList.take E)=Q:=⟨_,rfl⟩;have hpt:=wL x n S.data.toList;rw[hE,hQ] at hpt;have HP:=hid hpt;have HQ:=hid hQ;rw[hQ] at htx;obtain⟨X1,hX1⟩:∃ X1,S.extract 0 E=X1:=⟨_,rfl⟩;obtain⟨X2,hX2⟩:∃ X2,S.extract E S.size=X2:=⟨_,rfl⟩;rw[hX1] at k1 HX htx;rw[hX2] at k2 HR;have HTX:=hid htx;obtain⟨K,hK⟩:∃ K,1+(S.data.toList.tail.takeWhile Wf.bI).length=K:=⟨_,rfl⟩;have hEK:E=min (K+1) S.size:=by rw[<-hE,Wf.cR,aC,hK]
 have hKS:S.size≠0->K<=S.size:=fun h=>by
  rw[<-hK];have h1:=gF Wf.bI S.data.toList.tail;rw[List.length_tail,aC] at h1;omega
 have HIN:=hid fun(i:Nat) (h1:1<=i) (h:i<K)=>(show ∃ c,S.data.toList[i]? = some c/\Wf.bI c=true by
  obtain⟨c,hc,hp⟩:=tF (p:=Wf.bI) (l:=S.data.toList.tail) (i:=i-1) (by omega);rw[List.getElem?_tail,show i-1+1=i by omega] at hc;exact⟨c,hc,hp⟩)
 have HAT:=hid fun(c:UInt8) (h:S.data.toList[K]? = some c)=>(show Wf.bI c=false by
  refine oN (p:=Wf.bI) (l:=S.data.toList.tail) ?_;rw[List.getElem?_tail,show(S.data.toList.tail.takeWhile Wf.bI).length+1=K by omega];exact h)
 have hK1:1<=K:=by omega
 have hK2:K<=1048577:=by
  by_cases h:S.size=0
  ·rw[<-hK]
   have h1:=gF Wf.bI S.data.toList.tail;rw[List.length_tail,aC] at h1;omega
  ·have:=hKS h;omega
 have hmin:min ((K:Int)+1) (S.size:Int)=(E:Int):=by rw[hEK];omega
 have HMIN:=hid hmin;clear hpt hQ htx hX1 hX2 hE hK hEK hKS hmin;go_enter Tryz.func88,Tryz.ntmps88;go_wp2_with fail
 go_loop [9] (fun v=>∃ i:Nat,1<=i/\i<=K/\v=.int .i64 i) (fun v=>K-(RowKit.intOf v).toNat)
 case atStart=>exact⟨1,zaA,hK1,rfl⟩
 case round =>
  obtain⟨i,hi1,hi,rfl⟩:=hrel;by_cases hlt:i<K
  ·obtain⟨c',hc',hd⟩:=HIN.out i hi1 hlt
   have his:i<S.size:=(by rw[<-aC];exact(List.getElem?_eq_some_iff.1 hc').1);obtain⟨c,hc,e1⟩:=byte_at S i his;rw[hc] at hc';obtain rfl:=Option.some.inj hc';obtain⟨b,hb⟩:∃ b,c.toNat=b:=⟨_,rfl⟩;rw[hb] at e1;have h1:((b:Int) != 39)=true:=by
    rw[bne_iff_ne];intro h;have h39:c=39:=UInt8.toNat_inj.1 (by rw[hb];show b=39;omega);rw[h39] at hd;exact absurd hd (by decide)
   clear hc hc' hd hb;go_wp2_with fail
   go_round
   case rel=>exact⟨i+1,by omega,by omega,by go_num⟩
   case measure=>simp[RowKit.intOf];omega
  ·have hiT:i=K:=by omega
   subst hiT;have fin:∀ b:Bool,Q=b->∀ W3:World,W3.heap.size=w.heap.size+1->Below w.heap.size w W3->(aD (Wf.parse x (n+1) .txt S.data.toList) w (.returned (.tuple #[ptr (w.heap.size+1),.string X2,.bool b])) (W3.alloc (.cells #[tx [116],.string X1,.slice none 0 0,.slice none 0 0] 103))/\Below w.heap.size w (W3.alloc (.cells #[tx [116],.string X1,.slice none 0 0,.slice none 0 0] 103))):=fun b hb W3 h1 h2=>by
    refine⟨?_,h2.alloc h2.size _⟩;cases b with
    | false=>exact aD.no (by rw[HP.out,hb];rfl) ⟨_,_,rfl⟩
    | true =>
     refine aD.yes (by rw[HP.out,hb,if_pos rfl]) ⟨w.heap.size+1,by rw[HR.out],?_⟩;rw[<-h1,HX.out];exact LV.new (kd:=[116]) (t:=S.data.toList.take E) (by decide) ⟨rfl,yC (by rw[HQ.out,hb])⟩ rfl (h2.size) (by simp) (by simp[go_sem]) (by simp[go_sem]) (by simp[go_sem]) (by simp[go_sem])
   have FIN:=hid fin;clear fin;have hmin:=HMIN.out;by_cases his:i<S.size
   ·obtain⟨c,hc,e1⟩:=byte_at S i his
    have hd:=HAT.out c hc;have h39:c=39:=(by simpa[Wf.bI] using hd);have hb:c.toNat=39:=(by rw[h39];rfl);rw[hb] at e1;clear hc hd h39 hb;go_wp2_with fail
    go_region_with (go_at_call 126;refine(HTX.out _).mono ?_;rintro e w1 ⟨rfl,rfl⟩)
    all_goals (go_wp2_with fail)
    all_goals exact zbD (v:=.tuple #[ptr (w.heap.size+1),.string X2,.bool Q]) (by simp[results,Tryz.results88,go_sem, *]) rfl (by
     have B0:=(Below.refl w.heap.size w).alloc (zaA) (.cells #[v] 99);first|exact FIN.out Q rfl _ (by simp) B0|exact FIN.out Q rfl _ (by simp) B0.drew)
   ·have his2:S.size<=i:=by omega
    clear his;go_wp2_with fail
    go_region_with (go_at_call 126;refine(HTX.out _).mono ?_;rintro e w1 ⟨rfl,rfl⟩)
    all_goals (go_wp2_with fail)
    all_goals exact zbD (v:=.tuple #[ptr (w.heap.size+1),.string X2,.bool Q]) (by simp[results,Tryz.results88,go_sem, *]) rfl (by
     have B0:=(Below.refl w.heap.size w).alloc (zaA) (.cells #[v] 99);first|exact FIN.out Q rfl _ (by simp) B0|exact FIN.out Q rfl _ (by simp) B0.drew)

theorem tK (S:ByteArray) (p:List UInt8) (h:p.length<=S.size):((S.extract 0 p.length).toList==p)=decide (p <+: S.data.toList):=by
 rw[zaZ,bB,List.drop_zero,Nat.sub_zero,Bool.beq_eq_decide_eq,decide_eq_decide];rw[List.prefix_iff_eq_take];exact eq_comm
def eF (l:List UInt8) (v:Value):Prop:=v=.int .i64 0\/(v=.int .i64 1/\¬ [121,101,115] <+: l)\/(v=.int .i64 2/\¬ [121,101,115] <+: l/\¬ [110,111] <+: l)
theorem a1W (x:Wf.Sc) (n:Nat) (v:Value) (S:ByteArray) (hS:S.size<=1048576) (w:World):Calls Tryz.prog 88 #[.agg #[v],.string S,tx [102]] w fun e w'=>aD (Wf.parse x (n+1) .flag S.data.toList) w e w'/\Below w.heap.size w w':=by
 go_enter Tryz.func88,Tryz.ntmps88;go_wp2_with fail
 go_loop [70] (fun v=>eF S.data.toList v) (fun v=>2-(RowKit.intOf v).toNat)
 case atStart=>exact .inl rfl
 case round =>
  rcases hrel with rfl|⟨rfl,hy⟩|⟨rfl,hy,hn⟩
  ·by_cases h3:3<=S.size
   ·have hpe:=tK S [121,101,115] h3
    rw[show([121,101,115]:List UInt8).length=3 from rfl] at hpe;cases hd:decide ([121,101,115] <+: S.data.toList) with
    | true =>
     rw[hd] at hpe;obtain⟨q,hq⟩:=of_decide_eq_true hd;have HP:=hid (show Wf.parse x (n+1) .flag S.data.toList=some (.mk 102 [121,101,115] 0 [],q) by rw[<-hq];exact Wf.tM x n q);have HR:=hid (show S.extract 3 S.size=⟨q.toArray⟩ by rw[aS,cL,<-hq];rfl);clear hd hq;go_wp2_with fail
     go_region
     all_goals (go_wp2_with fail)
     all_goals exact zbD (v:=.tuple #[ptr (w.heap.size+1+1),.string (S.extract 3 S.size),.bool true]) (by simp[results,Tryz.results88,go_sem, *]) rfl (by
      have hR:∀ W3:World,W3.heap.size=w.heap.size+1+1->Below w.heap.size w W3->(aD (Wf.parse x (n+1) .flag S.data.toList) w (.returned (.tuple #[ptr (w.heap.size+1+1),.string (S.extract 3 S.size),.bool true])) (W3.alloc (.cells #[tx [102],tx [121,101,115],.slice none 0 0,.slice none 0 0] 103))/\Below w.heap.size w (W3.alloc (.cells #[tx [102],tx [121,101,115],.slice none 0 0,.slice none 0 0] 103))):=fun W3 h1 h2=>by
       refine⟨aD.yes HP.out ⟨w.heap.size+1+1,by rw[HR.out],?_⟩,h2.alloc h2.size _⟩;rw[<-h1];exact LV.new (kd:=[102]) (t:=[121,101,115]) (by decide) ⟨rfl,rfl⟩ rfl (h2.size) (by simp) (by simp[go_sem]) (by simp[go_sem]) (by simp[go_sem]) (by simp[go_sem])
      have B0:=((Below.refl w.heap.size w).alloc (zaA) (.cells #[v] 99)).alloc (by simp) (.cells #[.string ⟨#[121,101,115]⟩,.string ⟨#[110,111]⟩] 9);first|exact hR _ (by simp) B0|exact hR _ (by simp) B0.drew)
    | false =>
     rw[hd] at hpe;have HD:=hid (of_decide_eq_false hd);clear hd;go_wp2_with fail
     go_round
     all_goals first|exact⟨(.inr (.inl ⟨rfl,HD.out⟩):eF S.data.toList (.int .i64 1)),by simp[RowKit.intOf]⟩|exact(.inr (.inl ⟨rfl,HD.out⟩):eF S.data.toList (.int .i64 1))|(simp[RowKit.intOf];done)
   ·have HD:=hid (show ¬ [121,101,115] <+: S.data.toList from fun h=>by have:=h.length_le;rw[aC] at this;simp at this;omega)
    have h3d:decide (3<=S.size)=false:=decide_eq_false h3;have h3i:(S.size:Int)<3:=(by omega);go_wp2_with fail
    go_round
    all_goals first|exact⟨(.inr (.inl ⟨rfl,HD.out⟩):eF S.data.toList (.int .i64 1)),by simp[RowKit.intOf]⟩|exact(.inr (.inl ⟨rfl,HD.out⟩):eF S.data.toList (.int .i64 1))|(simp[RowKit.intOf];done)
  ·have HY:=hid hy
   clear hy;by_cases h3:2<=S.size
   ·have hpe:=tK S [110,111] h3
    rw[show([110,111]:List UInt8).length=2 from rfl] at hpe;cases hd:decide ([110,111] <+: S.data.toList) with
    | true =>
     rw[hd] at hpe;obtain⟨q,hq⟩:=of_decide_eq_true hd;have HP:=hid (show Wf.parse x (n+1) .flag S.data.toList=some (.mk 102 [110,111] 0 [],q) by rw[<-hq];exact Wf.rT x n q);have HR:=hid (show S.extract 2 S.size=⟨q.toArray⟩ by rw[aS,cL,<-hq];rfl);clear hd hq;go_wp2_with fail
     go_region
     all_goals (go_wp2_with fail)
     all_goals exact zbD (v:=.tuple #[ptr (w.heap.size+1+1),.string (S.extract 2 S.size),.bool true]) (by simp[results,Tryz.results88,go_sem, *]) rfl (by
      have hR:∀ W3:World,W3.heap.size=w.heap.size+1+1->Below w.heap.size w W3->(aD (Wf.parse x (n+1) .flag S.data.toList) w (.returned (.tuple #[ptr (w.heap.size+1+1),.string (S.extract 2 S.size),.bool true])) (W3.alloc (.cells #[tx [102],tx [110,111],.slice none 0 0,.slice none 0 0] 103))/\Below w.heap.size w (W3.alloc (.cells #[tx [102],tx [110,111],.slice none 0 0,.slice none 0 0] 103))):=fun W3 h1 h2=>by
       refine⟨aD.yes HP.out ⟨w.heap.size+1+1,by rw[HR.out],?_⟩,h2.alloc h2.size _⟩;rw[<-h1];exact LV.new (kd:=[102]) (t:=[110,111]) (by decide) ⟨rfl,rfl⟩ rfl (h2.size) (by simp) (by simp[go_sem]) (by simp[go_sem]) (by simp[go_sem]) (by simp[go_sem])
      have B0:=((Below.refl w.heap.size w).alloc (zaA) (.cells #[v] 99)).alloc (by simp) (.cells #[.string ⟨#[121,101,115]⟩,.string ⟨#[110,111]⟩] 9);first|exact hR _ (by simp) B0|exact hR _ (by simp) B0.drew)
    | false =>
     rw[hd] at hpe;have HD:=hid (of_decide_eq_false hd);clear hd;go_wp2_with fail
     go_round
     all_goals first|exact⟨(.inr (.inr ⟨rfl,HY.out,HD.out⟩):eF S.data.toList (.int .i64 2)),by simp[RowKit.intOf]⟩|exact(.inr (.inr ⟨rfl,HY.out,HD.out⟩):eF S.data.toList (.int .i64 2))|(simp[RowKit.intOf];done)
   ·have HD:=hid (show ¬ [110,111] <+: S.data.toList from fun h=>by have:=h.length_le;rw[aC] at this;simp at this;omega)
    have h3d:decide (2<=S.size)=false:=decide_eq_false h3;have h3i:(S.size:Int)<2:=(by omega);go_wp2_with fail
    go_round
    all_goals first|exact⟨(.inr (.inr ⟨rfl,HY.out,HD.out⟩):eF S.data.toList (.int .i64 2)),by simp[RowKit.intOf]⟩|exact(.inr (.inr ⟨rfl,HY.out,HD.out⟩):eF S.data.toList (.int .i64 2))|(simp[RowKit.intOf];done)
  ·have HP:=hid (Wf.qN x n hy hn)
   clear hy hn;go_wp2_with fail
   exact zbD (v:=.tuple #[.pointer none,.string S,.bool false]) (by simp[results,Tryz.results88,go_sem, *]) rfl ⟨aD.no HP.out ⟨_,_,rfl⟩,((Below.refl w.heap.size w).alloc (zaA) _).alloc (by simp) _⟩
