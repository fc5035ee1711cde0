/- Packed by pack.py: Xc. -/
import Derived.Test.YtidjpalnmnehmaaGreatDoorE33
namespace Go.Proofs.YtidjpalnmnehmaaGreatDoor
open Go.ChangeShapes Go.WideShapes Go.ChangeAt Go.RowKit Go.Lib
set_option linter.unusedVariables false
set_option linter.unusedSimpArgs false
set_option maxRecDepth 20000 in
set_option maxHeartbeats 2000000 in
theorem named_enm (b tb o g c n:Nat) (w:World) (hlt:b<w.heap.size) (c1:w.cell? ⟨b,1,none⟩=some (.string ⟨#[69]⟩)) (c2:w.cell? ⟨b,2,none⟩=some (.slice (some ⟨tb,o,none⟩) n c)) (h0:0<n) (hn:n≤c) (hc:c≤maxLen) (htb:tb<w.heap.size) (ct:w.cell? ⟨tb,o,none⟩=some (.int .i64 g)) (hg:g≤999999) :
  Calls Tryz.prog 105 #[ptr b] w fun e w'=>e=.returned (tx (35::Wf.dec g))∧Below w.heap.size w w':=by
 have HD:=hid fun wz=>l6Dec g g wz (Nat.le_refl _) (by omega)
 obtain⟨D,hD⟩:∃ D:ByteArray,(⟨(Wf.dec g).toArray⟩:ByteArray)=D:=⟨_,rfl⟩
 simp only[tx,hD] at HD
 have hds:D.size≤6:=by rw[← hD,← size_list];exact Wf.dec_len6 hg
 have HO:=hid (show(⟨#[35]⟩:ByteArray)++D=⟨(35::Wf.dec g).toArray⟩ by rw[eq_list,← hD];simp)
 unfold maxLen at hc
 clear hD
 go_enter Tryz.func105,Tryz.ntmps105
 go_wp2_with (go_at_call 89;refine(HD.out _).mono ?_;rintro e w2 ⟨rfl,hb2⟩;have HB2:=hid hb2;clear hb2)
 go_ret
 exact⟨ret_str HO.out,HB2.out⟩
set_option maxRecDepth 20000 in
set_option maxHeartbeats 2000000 in
theorem named_uni (b tb kb o p u g c n k d:Nat) (T:ByteArray) (w:World) (hlt:b<w.heap.size) (c1:w.cell? ⟨b,1,none⟩=some (.string ⟨#[85]⟩)) (c2:w.cell? ⟨b,2,none⟩=some (.slice (some ⟨tb,o,none⟩) n c)) (h0:0<n) (hn:n≤c) (hc:c≤maxLen) (htb:tb<w.heap.size) (ct:w.cell? ⟨tb,o,none⟩=some (.int .i64 g)) (hg:g≤999999)
  (c3:w.cell? ⟨b,3,none⟩=some (.slice (some ⟨kb,p,none⟩) k d)) (h1:0<k) (hk:k≤d) (hd:d≤maxLen) (hkb:kb<w.heap.size) (ck:w.cell? ⟨kb,p,none⟩=some (ptr u)) (hT:T.size≤2000000)
  (hrec:∀ wz,Below w.heap.size w wz→Calls Tryz.prog 66 #[ptr u] wz fun e w'=>e=.returned (.string T)∧Below wz.heap.size wz w') :
  Calls Tryz.prog 105 #[ptr b] w fun e w'=>e=.returned (tx (60::(Wf.dec g++61::(T.data.toList++[62]))))∧Below w.heap.size w w':=by
 have HD:=hid fun wz=>l6Dec g g wz (Nat.le_refl _) (by omega)
 obtain⟨D,hD⟩:∃ D:ByteArray,(⟨(Wf.dec g).toArray⟩:ByteArray)=D:=⟨_,rfl⟩
 simp only[tx,hD] at HD
 have hds:D.size≤6:=by rw[← hD,← size_list];exact Wf.dec_len6 hg
 have HO:=hid (show(⟨#[60]⟩:ByteArray)++D++⟨#[61]⟩++T++⟨#[62]⟩=⟨(60::(Wf.dec g++61::(T.data.toList++[62]))).toArray⟩ by rw[eq_list,← hD];simp)
 have HREC:=hid hrec
 have a1:=fun wz=>run_string_add_sum (P:=Tryz.prog) (w:=wz) ⟨#[60]⟩ D (by show 1+D.size≤_;omega)
 have a2:=fun wz=>run_string_add_sum (P:=Tryz.prog) (w:=wz) (⟨#[60]⟩++D) ⟨#[61]⟩ (by rw[ByteArray.size_append];show 1+D.size+1≤_;omega)
 have a3:=fun wz=>run_string_add_sum (P:=Tryz.prog) (w:=wz) (⟨#[60]⟩++D++⟨#[61]⟩) T (by rw[ByteArray.size_append,ByteArray.size_append];show 1+D.size+1+T.size≤_;omega)
 have a4:=fun wz=>run_string_add_sum (P:=Tryz.prog) (w:=wz) (⟨#[60]⟩++D++⟨#[61]⟩++T) ⟨#[62]⟩ (by rw[ByteArray.size_append,ByteArray.size_append,ByteArray.size_append];show 1+D.size+1+T.size+1≤_;omega)
 have F:=hid fun(wz:World) (hz:Below w.heap.size w wz)=>(show wz.cell? ⟨b,2,none⟩=some (.slice (some ⟨tb,o,none⟩) n c)∧wz.cell? ⟨tb,o,none⟩=some (.int .i64 g)∧wz.cell? ⟨b,3,none⟩=some (.slice (some ⟨kb,p,none⟩) k d)∧wz.cell? ⟨kb,p,none⟩=some (ptr u) from⟨(hz.cell (p:=⟨b,2,none⟩) hlt).trans c2,(hz.cell (p:=⟨tb,o,none⟩) htb).trans ct,(hz.cell (p:=⟨b,3,none⟩) hlt).trans c3,(hz.cell (p:=⟨kb,p,none⟩) hkb).trans ck⟩)
 unfold maxLen at hc hd
 clear hD hrec
 go_enter Tryz.func105,Tryz.ntmps105
 go_wp2_with fail
 go_region_held3 (fun w'=>w'.cell? ⟨b,2,none⟩=some (.slice (some ⟨tb,o,none⟩) n c)∧w'.cell? ⟨tb,o,none⟩=some (.int .i64 g)∧w'.cell? ⟨b,3,none⟩=some (.slice (some ⟨kb,p,none⟩) k d)∧w'.cell? ⟨kb,p,none⟩=some (ptr u)) (first|exact⟨k1,k2,k3,k4⟩|exact⟨d1,d2,d3,d4⟩|go_keep) (first|(go_at_call 89;refine(HD.out _).mono ?_;rintro e w3 ⟨rfl,hb3⟩;have TD:=Lib.hid (show Below w.heap.size w w3 by first|exact TS.out.trans (hb3.mono TS.out.size)|(refine Below.trans (b:=_) ?_ hb3;repeat (first|with_reducible exact Below.refl _ _|with_reducible refine Below.drew ?_)));obtain⟨d1,d2,d3,d4⟩:=F.out _ TD.out;clear hb3)|(go_at_call 66;refine(HREC.out _ (by first|exact TD.out|(repeat (first|with_reducible exact Below.refl _ _|with_reducible refine Below.drew ?_)))).mono ?_;rintro e w4 ⟨rfl,hb4⟩;have TS:=Lib.hid (show Below w.heap.size w w4 by first|exact TD.out.trans (hb4.mono TD.out.size)|(refine Below.trans (b:=_) ?_ hb4;repeat (first|with_reducible exact Below.refl _ _|with_reducible refine Below.drew ?_)));obtain⟨k1,k2,k3,k4⟩:=F.out _ TS.out;clear hb4))
 all_goals go_wp2_with fail
 all_goals go_ret
 all_goals exact⟨ret_str HO.out,by first|exact TS.out.trans (TD.out.mono TS.out.size)|exact TS.out|exact TD.out⟩
set_option maxRecDepth 20000 in
set_option maxHeartbeats 4000000 in
theorem named_rec (b tb kb:Nat) (tv kv:Value) (gs bs:List Nat) (ps:List (List UInt8)) (w:World) (hlt:b<w.heap.size) (c1:w.cell? ⟨b,1,none⟩=some (.string ⟨#[82]⟩)) (c2:w.cell? ⟨b,2,none⟩=some tv) (c3:w.cell? ⟨b,3,none⟩=some kv) (hrt:RowAt w tb tv (gs.map ix)) (hrow:RowAt w kb kv (bs.map ptr)) (hlg:gs.length=bs.length) (hl:bs.length=ps.length)
  (hg:∀ g∈gs,g≤999999) (hsz:(Wf.commas ((gs.zip ps).map fun y=>Wf.dec y.1++61::y.2)).length≤2000000)
  (hk:∀ i (h1:i<bs.length) (h2:i<ps.length) wz,Below w.heap.size w wz→Calls Tryz.prog 66 #[ptr bs[i]] wz fun e w'=>e=.returned (tx ps[i])∧Below wz.heap.size wz w') :
  Calls Tryz.prog 105 #[ptr b] w fun e w'=>e=.returned (tx (123::(Wf.commas ((gs.zip ps).map fun y=>Wf.dec y.1++61::y.2)++[125])))∧Below w.heap.size w w':=by
 obtain⟨a,c,rfl,hnc,hcm⟩:=hrow.form
 obtain⟨ta,tc,rfl,htc,htm⟩:=hrt.form
 obtain⟨m,hm⟩:∃ m,(bs.map ptr).length=m:=⟨_,rfl⟩
 have hbm:bs.length=m:=by rw[← hm,List.length_map]
 have hpm:ps.length=m:=by omega
 have hgm:gs.length=m:=by omega
 have hgm2:(gs.map ix).length=m:=by rw[List.length_map];exact hgm
 obtain⟨Q,hQ⟩:∃ Q,((gs.zip ps).map fun y=>Wf.dec y.1++61::y.2)=Q:=⟨_,rfl⟩
 have hqm:Q.length=m:=by rw[← hQ,List.length_map,List.length_zip];omega
 rw[hQ] at hsz ⊢
 have hm6:m≤2000001:=by have:=count_parts Q;omega
 have HQI:=hid fun(i:Nat) (h1:i<Q.length) (h2:i<gs.length) (h3:i<ps.length)=>(show Q[i]=Wf.dec gs[i]++61::ps[i] by subst hQ;rw[List.getElem_map,List.getElem_zip])
 have HBM:=hid hbm
 have HPM:=hid hpm
 have HGM:=hid hgm
 have HGM2:=hid hgm2
 have HQM:=hid hqm
 have HMM:=hid hm
 rw[hm] at c3 hrow hnc
 rw[hgm2] at c2 hrt htc
 have HROW:=hid hrow
 have HRT:=hid hrt
 have HK:=hid hk
 have HSZ:=hid hsz
 have HG:=hid hg
 unfold maxLen at hcm htm
 clear hrow hk hl hsz hm hbm hpm hrt hg hgm hgm2 hqm hQ hlg
 go_enter Tryz.func105,Tryz.ntmps105
 go_wp2_with fail
 go_loopw [3,4] (fun s3 s4 wr=>∃ (i:Nat) (S:ByteArray),s3=.string S∧s4=.int .i64 i∧i≤m∧S.size≤2000001∧Hid (S.data.toList=123::Wf.commas (Q.take i)∧Below w.heap.size w wr)) (fun _ s4 _=>m-(RowKit.intOf s4).toNat)
 case atStart=>exact⟨0,⟨#[123]⟩,rfl,rfl,Nat.zero_le _,by decide,hid ⟨rfl,Below.refl _ _⟩⟩
 case round =>
  obtain⟨i,S,rfl,rfl,hi,hS,hh⟩:=hrel
  have hbw:b<wr.heap.size:=Nat.lt_of_lt_of_le hlt hh.out.2.size
  have y2:=(hh.out.2.cell (p:=⟨b,2,none⟩) hlt).trans c2
  have y3:=(hh.out.2.cell (p:=⟨b,3,none⟩) hlt).trans c3
  by_cases hlt2:i<m
  ·have hib:i<bs.length:=by rw[HBM.out];exact hlt2
   have hip:i<ps.length:=by rw[HPM.out];exact hlt2
   have hig:i<gs.length:=by rw[HGM.out];exact hlt2
   have hiq:i<Q.length:=by rw[HQM.out];exact hlt2
   obtain⟨o,rfl,hkb,_,_,ck⟩:=HROW.out.get (i:=i) (by rw[HMM.out];exact hlt2)
   obtain⟨p,rfl,htb,_,_,ct⟩:=HRT.out.get (i:=i) (by rw[HGM2.out];exact hlt2)
   rw[List.getElem_map] at ck ct
   obtain⟨u,hu⟩:∃ u,bs[i]=u:=⟨_,rfl⟩
   obtain⟨g,hgi⟩:∃ g,gs[i]=g:=⟨_,rfl⟩
   have hg6:g≤999999:=by rw[← hgi];exact HG.out _ (List.getElem_mem hig)
   obtain⟨T,hT⟩:∃ T:ByteArray,(⟨(ps[i]).toArray⟩:ByteArray)=T:=⟨_,rfl⟩
   rw[hu] at ck
   rw[hgi] at ct
   have hct:ix g=.int .i64 g:=rfl
   rw[hct] at ct
   have hkw:kb<wr.heap.size:=Nat.lt_of_lt_of_le hkb hh.out.2.size
   have htw:tb<wr.heap.size:=Nat.lt_of_lt_of_le htb hh.out.2.size
   have yk:=(hh.out.2.cell (p:=⟨kb,o+i,none⟩) hkb).trans ck
   have yt:=(hh.out.2.cell (p:=⟨tb,p+i,none⟩) htb).trans ct
   have HC:=hid fun(wz:World) (hz:Below wr.heap.size wr wz)=>(show Calls Tryz.prog 66 #[ptr u] wz fun e w'=>e=.returned (.string T)∧Below wz.heap.size wz w' by
    have:=HK.out i hib hip wz (hh.out.2.trans (hz.mono hh.out.2.size))
    rw[hu] at this
    simp only[tx,hT] at this
    exact this)
   have HSTEP:=hid (Wf.commas_step hiq)
   have hqi:=HQI.out i hiq hig hip
   rw[hgi] at hqi
   have hql:(Q[i]).length≤2000000:=Nat.le_trans (Wf.commas_mem (List.getElem_mem hiq)) HSZ.out
   have hTs:T.size≤2000000:=by
    rw[hqi] at hql
    simp at hql
    rw[← hT,← size_list]
    show(ps[i]).length≤_
    omega
   have HTL:=hid (show Q[i]=Wf.dec g++61::T.data.toList by rw[hqi,← hT])
   have HTK:=hid (show(Wf.commas (Q.take (i+1))).length≤2000000 from Nat.le_trans (Wf.commas_take _) HSZ.out)
   have fin:∀ S':ByteArray,S'.data.toList=123::Wf.commas (Q.take (i+1))→S'.size≤2000001:=fun S' h=>by
    have:=HTK.out
    rw[← size_list,h]
    simp only[List.length_cons]
    omega
   have FIN:=hid fin
   have HD:=hid fun wz=>l6Dec g g wz (Nat.le_refl _) (by omega)
   obtain⟨D,hD⟩:∃ D:ByteArray,(⟨(Wf.dec g).toArray⟩:ByteArray)=D:=⟨_,rfl⟩
   simp only[tx,hD] at HD
   have hds:D.size≤6:=by rw[← hD,← size_list];exact Wf.dec_len6 hg6
   have HDL:=hid (show D.data.toList=Wf.dec g by rw[← hD])
   obtain⟨S1,hS1,hS1s,HE⟩:∃ S1:ByteArray,(S1=if i=0 then S else S++⟨#[44]⟩)∧S1.size≤2000002∧Hid ((S1++D++⟨#[61]⟩++T).data.toList=123::Wf.commas (Q.take (i+1))):=by
    refine⟨_,rfl, ?_,hid ?_⟩
    ·split
     ·omega
     ·rw[ByteArray.size_append];show S.size+1≤_;omega
    ·rw[HSTEP.out,HTL.out]
     by_cases hi0:i=0
     ·subst hi0
      rw[if_pos rfl,if_pos rfl]
      simp only[ByteArray.data_append,Array.toList_append,hh.out.1,HDL.out]
      simp[Wf.commas]
     ·rw[if_neg hi0,if_neg hi0]
      simp only[ByteArray.data_append,Array.toList_append,hh.out.1,HDL.out]
      simp
   have a1:=fun wz=>run_string_add_sum (P:=Tryz.prog) (w:=wz) S1 D (by omega)
   have a2:=fun wz=>run_string_add_sum (P:=Tryz.prog) (w:=wz) (S1++D) ⟨#[61]⟩ (by rw[ByteArray.size_append];show S1.size+D.size+1≤_;omega)
   have a3:=fun wz=>run_string_add_sum (P:=Tryz.prog) (w:=wz) (S1++D++⟨#[61]⟩) T (by rw[ByteArray.size_append,ByteArray.size_append];show S1.size+D.size+1+T.size≤_;omega)
   have n1:(0:Int)≤(i:Int):=by omega
   have n2:(i:Int)<(m:Int):=by omega
   clear hu hT ck ct fin hgi hqi hql hD hct
   by_cases hi0:i=0
   ·subst hi0
    rw[if_pos rfl] at hS1
    rw[Nat.add_zero] at yt yk
    have F:=hid fun(wz:World) (hz:Below wr.heap.size wr wz)=>(show wz.cell? ⟨b,2,none⟩=some (.slice (some ⟨tb,p,none⟩) m tc)∧wz.cell? ⟨tb,p,none⟩=some (.int .i64 g)∧wz.cell? ⟨b,3,none⟩=some (.slice (some ⟨kb,o,none⟩) m c)∧wz.cell? ⟨kb,o,none⟩=some (ptr u) from⟨(hz.cell (p:=⟨b,2,none⟩) hbw).trans y2,(hz.cell (p:=⟨tb,p,none⟩) htw).trans yt,(hz.cell (p:=⟨b,3,none⟩) hbw).trans y3,(hz.cell (p:=⟨kb,o,none⟩) hkw).trans yk⟩)
    subst hS1
    go_wp2_with fail
    go_region_held3 (fun w'=>w'.cell? ⟨b,2,none⟩=some (.slice (some ⟨tb,p,none⟩) m tc)∧w'.cell? ⟨tb,p,none⟩=some (.int .i64 g)∧w'.cell? ⟨b,3,none⟩=some (.slice (some ⟨kb,o,none⟩) m c)∧w'.cell? ⟨kb,o,none⟩=some (ptr u)) (first|exact⟨k1,k2,k3,k4⟩|exact⟨d1,d2,d3,d4⟩|go_keep) (first|(go_at_call 89;refine(HD.out _).mono ?_;rintro e w3 ⟨rfl,hb3⟩;have TD:=Lib.hid (show Below wr.heap.size wr w3 by first|exact TS.out.trans (hb3.mono TS.out.size)|(refine Below.trans (b:=_) ?_ hb3;repeat (first|with_reducible exact Below.refl _ _|with_reducible refine Below.drew ?_)));obtain⟨d1,d2,d3,d4⟩:=F.out _ TD.out;clear hb3)|(go_at_call 66;refine(HC.out _ (by first|exact TD.out|(repeat (first|with_reducible exact Below.refl _ _|with_reducible refine Below.drew ?_)))).mono ?_;rintro e w4 ⟨rfl,hb4⟩;have TS:=Lib.hid (show Below wr.heap.size wr w4 by first|exact TD.out.trans (hb4.mono TD.out.size)|(refine Below.trans (b:=_) ?_ hb4;repeat (first|with_reducible exact Below.refl _ _|with_reducible refine Below.drew ?_)));obtain⟨k1,k2,k3,k4⟩:=F.out _ TS.out;clear hb4))
    all_goals go_wp2_with fail
    all_goals go_roundw
    all_goals first
    | exact⟨0+1,S1++D++⟨#[61]⟩++T,by rfl,by go_num,by omega,FIN.out _ HE.out,hid ⟨HE.out,hh.out.2.trans (TS.out.mono hh.out.2.size)⟩⟩
    | exact⟨0+1,S1++D++⟨#[61]⟩++T,by rfl,by go_num,by omega,FIN.out _ HE.out,hid ⟨HE.out,hh.out.2.trans (TD.out.mono hh.out.2.size)⟩⟩
    | (simp[RowKit.intOf];omega)
   ·have hip0:0<i:=by omega
    rw[if_neg hi0] at hS1
    have F:=hid fun(wz:World) (hz:Below wr.heap.size wr wz)=>(show wz.cell? ⟨b,2,none⟩=some (.slice (some ⟨tb,p,none⟩) m tc)∧wz.cell? ⟨tb,p+i,none⟩=some (.int .i64 g)∧wz.cell? ⟨b,3,none⟩=some (.slice (some ⟨kb,o,none⟩) m c)∧wz.cell? ⟨kb,o+i,none⟩=some (ptr u) from⟨(hz.cell (p:=⟨b,2,none⟩) hbw).trans y2,(hz.cell (p:=⟨tb,p+i,none⟩) htw).trans yt,(hz.cell (p:=⟨b,3,none⟩) hbw).trans y3,(hz.cell (p:=⟨kb,o+i,none⟩) hkw).trans yk⟩)
    subst hS1
    clear hi0
    go_wp2_with fail
    go_region_held3 (fun w'=>w'.cell? ⟨b,2,none⟩=some (.slice (some ⟨tb,p,none⟩) m tc)∧w'.cell? ⟨tb,p+i,none⟩=some (.int .i64 g)∧w'.cell? ⟨b,3,none⟩=some (.slice (some ⟨kb,o,none⟩) m c)∧w'.cell? ⟨kb,o+i,none⟩=some (ptr u)) (first|exact⟨k1,k2,k3,k4⟩|exact⟨d1,d2,d3,d4⟩|go_keep) (first|(go_at_call 89;refine(HD.out _).mono ?_;rintro e w3 ⟨rfl,hb3⟩;have TD:=Lib.hid (show Below wr.heap.size wr w3 by first|exact TS.out.trans (hb3.mono TS.out.size)|(refine Below.trans (b:=_) ?_ hb3;repeat (first|with_reducible exact Below.refl _ _|with_reducible refine Below.drew ?_)));obtain⟨d1,d2,d3,d4⟩:=F.out _ TD.out;clear hb3)|(go_at_call 66;refine(HC.out _ (by first|exact TD.out|(repeat (first|with_reducible exact Below.refl _ _|with_reducible refine Below.drew ?_)))).mono ?_;rintro e w4 ⟨rfl,hb4⟩;have TS:=Lib.hid (show Below wr.heap.size wr w4 by first|exact TD.out.trans (hb4.mono TD.out.size)|(refine Below.trans (b:=_) ?_ hb4;repeat (first|with_reducible exact Below.refl _ _|with_reducible refine Below.drew ?_)));obtain⟨k1,k2,k3,k4⟩:=F.out _ TS.out;clear hb4))
    all_goals go_wp2_with fail
    all_goals go_roundw
    all_goals first
    | exact⟨i+1,(S++⟨#[44]⟩)++D++⟨#[61]⟩++T,by rfl,by go_num,by omega,FIN.out _ HE.out,hid ⟨HE.out,hh.out.2.trans (TS.out.mono hh.out.2.size)⟩⟩
    | exact⟨i+1,(S++⟨#[44]⟩)++D++⟨#[61]⟩++T,by rfl,by go_num,by omega,FIN.out _ HE.out,hid ⟨HE.out,hh.out.2.trans (TD.out.mono hh.out.2.size)⟩⟩
    | (simp[RowKit.intOf];omega)
  ·have him:i=m:=by omega
   subst him
   have HE:=hid (show S++(⟨#[125]⟩:ByteArray)=⟨(123::(Wf.commas Q++[125])).toArray⟩ by
    rw[eq_list,ByteArray.data_append,Array.toList_append,hh.out.1,List.take_of_length_le (by rw[HQM.out];exact Nat.le_refl _)];simp)
   go_wp2_with fail
   go_ret
   exact⟨ret_str HE.out,hh.out.2⟩
end Go.Proofs.YtidjpalnmnehmaaGreatDoor
