/- Packed. -/
import Derived.Test.YtidjpalnmnehmaaGreatDoorK40
set_option maxRecDepth 99999
set_option maxHeartbeats 40000000
set_option linter.all false
namespace Go.Proofs.YtidjpalnmnehmaaGreatDoor
open Go.ChangeShapes Go.WideShapes Go.ChangeAt Go.RowKit Go.Lib
theorem l1Put (n:Nat) (hn:n<=999999) (w:World):Calls Tryz.prog 53 #[.int .i64 n] w fun e w'=>e=.returned (tx (Wf.putN n))/\Below w.heap.size w w':=by
 have:=l1Put_any n n w (Int.le_refl _) (by omega) (by omega);simpa using this
theorem l5Len (s:ByteArray) (hs:s.size<=999999) (w:World):Calls Tryz.prog 54 #[.string s] w fun e w'=>e=.returned (tx (Wf.putN s.data.toList.length++s.data.toList))/\Below w.heap.size w w':=by
 have HP:=hid fun wz=>l1Put s.size hs wz;obtain⟨B,hB⟩:∃ B:ByteArray,(⟨(Wf.putN s.size).toArray⟩:ByteArray)=B:=⟨_,rfl⟩;have hBs:B.size<=3:=by rw[<-hB];exact(Wf.bZ s.size hs).2
 have HF:=hid (show(⟨(Wf.putN s.data.toList.length++s.data.toList).toArray⟩:ByteArray)=B++s from
  ((aQ (B++s) _).2 (by rw[zaU,zaW,<-hB,aE])).symm)
 have a1:=fun wz=>zbH (P:=Tryz.prog) (w:=wz) B s (by omega);simp only[tx,hB] at HP;clear hB;go_enter Tryz.func54,Tryz.ntmps54;go_wp2_with (go_at_call 53;refine(HP.out _).mono ?_;rintro e w2 ⟨rfl,hb2⟩;have HB2:=hid hb2;clear hb2)
 go_ret
 exact⟨by rw[tx,HF.out];rfl,HB2.out⟩
section
variable (b:Nat) (KD:ByteArray) (w:World)
theorem lb_num (T:ByteArray) (m:Nat) (hm:m<=999999) (hT:T.data.toList=Wf.dec m) (hlt:b<w.heap.size) (hs:0<KD.size) (e0:∀ h,(KD[0]'h).toNat=110) (c0:w.cell? ⟨b,0,none⟩=some (.string KD)) (c1:w.cell? ⟨b,1,none⟩=some (.string T)) :
  Calls Tryz.prog 30 #[ptr b] w fun e w'=>e=.returned (tx (Wf.putN m))/\Below w.heap.size w w':=by
 have hTs:T.size<=6:=by rw[<-aE,hT];exact Wf.cA hm
 have HN:=hid fun wz=>(gJ T 999999 (zaA) wz (by omega)).mono (R':=fun e w'=>e=.returned (.tuple #[.int .i64 m,.bool true])/\Below wz.heap.size wz w') fun e w' ⟨h1,h2⟩=>⟨by unfold aZ at h1;rw[hT,Wf.gQ hm hm] at h1;exact h1,h2⟩;have HP:=hid fun wz=>l1Put m hm wz;obtain⟨B,hB⟩:∃ B:ByteArray,(⟨(Wf.putN m).toArray⟩:ByteArray)=B:=⟨_,rfl⟩;simp only[tx,hB] at HP ⊢;clear hT hB;go_enter Tryz.func30,Tryz.ntmps30;go_wp2_with (first|(go_at_call 53;refine(HP.out _).mono ?_;rintro e w3 ⟨rfl,hb3⟩;have B3:=hid (aC HB2.out hb3);clear hb3)|(go_at_call 52;refine(HN.out _).mono ?_;rintro e w2 ⟨rfl,hb2⟩;have HB2:=hid hb2;clear hb2))
 go_ret
 exact⟨rfl,B3.out⟩
theorem lb_txt (T X:ByteArray) (hX:T.data.toList=39::(X.data.toList++[39])) (hXs:X.size<=12) (hlt:b<w.heap.size) (hs:0<KD.size) (e0:∀ h,(KD[0]'h).toNat=116) (c0:w.cell? ⟨b,0,none⟩=some (.string KD)) (c1:w.cell? ⟨b,1,none⟩=some (.string T)) :
  Calls Tryz.prog 30 #[ptr b] w fun e w'=>e=.returned (tx (Wf.putN X.data.toList.length++X.data.toList))/\Below w.heap.size w w':=by
 have hTs:T.size=X.size+2:=by rw[<-aE,hX,<-aE];simp
 have HL:=hid fun wz=>l5Len X (by omega) wz;obtain⟨B,hB⟩:∃ B:ByteArray,(⟨(Wf.putN X.data.toList.length++X.data.toList).toArray⟩:ByteArray)=B:=⟨_,rfl⟩;simp only[tx,hB] at HL ⊢;have hx:T.extract 1 (T.size-1)=X:=by
  have h1:(T.extract 1 (T.size-1)).data.toList=X.data.toList:=by
   rw[bH,hX,hTs,show X.size+2-1-1=X.size by omega,List.drop_succ_cons,List.drop_zero,<-aE,List.take_left]
  rw[cW _ _ h1]
 have kw:IntKind.i64.wrap ((T.size:Int)-1)=(T.size:Int)-1:=zbI _ (by omega);have ks:∀ wz,(Instr.slice 9 (.string T) (some (.int .i64 1)) (some (.int .i64 ((T.size:Int)-1))) none).run Tryz.prog wz=.ok (.string X) wz:=fun wz=>by
  have h:=run_slice_string (P:=Tryz.prog) (w:=wz) 9 T .i64 .i64 1 ((T.size:Int)-1) Tryz.underlying9 (by omega) (by omega) (by omega);rw[h,show(1:Int).toNat=1 from rfl,show((T.size:Int)-1).toNat=T.size-1 by omega,hx]
 have ht2:(2:Int)<=(T.size:Int):=by omega
 have ht3:(T.size:Int)<=14:=by omega
 clear hX hB hx hTs;go_enter Tryz.func30,Tryz.ntmps30;go_wp2_with fail
 go_region_held3 (fun w'=>w'.cell? ⟨b,1,none⟩=some (.string T)) (first|exact j1|go_keep) ((go_at_call 54;refine(HL.out _).mono ?_;rintro e w3 ⟨rfl,hb3⟩;have TD:=hid (show Below w.heap.size w w3 by refine Below.trans (b:=_) ?_ hb3;repeat (first|with_reducible exact zaB|with_reducible refine zbE ?_));have j1:=(TD.out.cell (p:=⟨b,1,none⟩) hlt).trans c1;clear hb3))
 all_goals go_wp2_with fail
 all_goals go_ret
 all_goals exact⟨rfl,TD.out⟩
theorem lb_flag (y:Bool) (hlt:b<w.heap.size) (hs:0<KD.size) (e0:∀ h,(KD[0]'h).toNat=102) (c0:w.cell? ⟨b,0,none⟩=some (.string KD)) (c1:w.cell? ⟨b,1,none⟩=some (tx (if y then [121,101,115] else [110,111]))) :
  Calls Tryz.prog 30 #[ptr b] w fun e w'=>e=.returned (tx (if y then [1] else [0]))/\Below w.heap.size w w':=by
 have hcv:=run_convert_lit (P:=Tryz.prog) 22 9 5 Tryz.underlying22 Tryz.underlying5 Tryz.underlying9;cases y
 ·rw[if_neg (by simp)] at c1 ⊢
  obtain⟨T,hT⟩:∃ T:ByteArray,(⟨#[110,111]⟩:ByteArray)=T:=⟨_,rfl⟩;have c1:w.cell? ⟨b,1,none⟩=some (.string T):=by rw[<-hT];exact c1
  have hTs:(T.size:Int)=2:=by rw[<-hT];rfl
  clear hT;go_enter Tryz.func30,Tryz.ntmps30;go_wp2_with fail
  go_ret
  exact⟨rfl,(zaB).alloc (zaA) _⟩
 ·rw[if_pos rfl] at c1 ⊢
  obtain⟨T,hT⟩:∃ T:ByteArray,(⟨#[121,101,115]⟩:ByteArray)=T:=⟨_,rfl⟩;have c1:w.cell? ⟨b,1,none⟩=some (.string T):=by rw[<-hT];exact c1
  have hTs:(T.size:Int)=3:=by rw[<-hT];rfl
  clear hT;go_enter Tryz.func30,Tryz.ntmps30;go_wp2_with fail
  go_ret
  exact⟨rfl,(zaB).alloc (zaA) _⟩
theorem lb_none (c:Nat) (a:Option Addr) (hlt:b<w.heap.size) (hs:0<KD.size) (e0:∀ h,(KD[0]'h).toNat=63) (c0:w.cell? ⟨b,0,none⟩=some (.string KD)) (c3:w.cell? ⟨b,3,none⟩=some (.slice a 0 c)) :
  Calls Tryz.prog 30 #[ptr b] w fun e w'=>e=.returned (tx [0])/\Below w.heap.size w w':=by
 have hcv:=run_convert_lit (P:=Tryz.prog) 22 9 5 Tryz.underlying22 Tryz.underlying5 Tryz.underlying9;go_enter Tryz.func30,Tryz.ntmps30;go_wp2_with fail
 go_ret
 exact⟨rfl,(zaB).alloc (zaA) _⟩
theorem lb_some (kb o u c:Nat) (T:ByteArray) (hlt:b<w.heap.size) (hs:0<KD.size) (e0:∀ h,(KD[0]'h).toNat=63) (c0:w.cell? ⟨b,0,none⟩=some (.string KD)) (c3:w.cell? ⟨b,3,none⟩=some (.slice (some ⟨kb,o,none⟩) 1 c)) (hkb:kb<w.heap.size) (ck:w.cell? ⟨kb,o,none⟩=some (ptr u)) (h1:1<=c) (hc:c<=maxLen) (hT:T.size<=2000000)
  (hk:∀ wz,Below w.heap.size w wz->Calls Tryz.prog 30 #[ptr u] wz fun e w'=>e=.returned (.string T)/\Below wz.heap.size wz w') :
  Calls Tryz.prog 30 #[ptr b] w fun e w'=>e=.returned (tx (1::T.data.toList))/\Below w.heap.size w w':=by
 have HK:=hid hk;have HO:=hid (show(⟨#[1]⟩:ByteArray)++T=⟨(1::T.data.toList).toArray⟩ by rw[aQ];simp);have hc1:=fun W a c=>run_convert_one (P:=Tryz.prog) 22 9 5 Tryz.underlying22 Tryz.underlying5 Tryz.underlying9 W a c 1;have a1:=fun wz=>zbH (P:=Tryz.prog) (w:=wz) ⟨#[1]⟩ T (by show 1+T.size<=_;omega);unfold maxLen at hc;have F:=hid fun(wz:World) (hz:Below w.heap.size w wz)=>(show wz.cell? ⟨b,3,none⟩=some (.slice (some ⟨kb,o,none⟩) 1 c)/\wz.cell? ⟨kb,o,none⟩=some (ptr u) from⟨(hz.cell (p:=⟨b,3,none⟩) hlt).trans c3,(hz.cell (p:=⟨kb,o,none⟩) hkb).trans ck⟩);clear hk;go_enter Tryz.func30,Tryz.ntmps30;go_wp2_with fail
 go_region_with (go_at_call 30;refine(HK.out _ (by repeat (first|with_reducible exact zaB|with_reducible refine zbE ?_|with_reducible refine zbG ?_ (by simp) _))).mono ?_;rintro e w2 ⟨rfl,hb2⟩;have TD:=hid (show Below w.heap.size w w2 by refine Below.trans (b:=_) ?_ (hb2.mono (by simp));repeat (first|with_reducible exact zaB|with_reducible refine zbE ?_|with_reducible refine zbG ?_ (by simp) _));have hc:=(bcell hb2).1;clear hb2)
 all_goals go_wp2_with fail
 all_goals go_ret
 all_goals first|exact⟨aX HO.out,TD.out⟩|exact⟨aX HO.out,TD.out.alloc TD.out.size _⟩
theorem lb_list (kb:Nat) (kv:Value) (bs:List Nat) (ps:List (List UInt8)) (hlt:b<w.heap.size) (hs:0<KD.size) (e0:∀ h,(KD[0]'h).toNat=91) (c0:w.cell? ⟨b,0,none⟩=some (.string KD)) (c3:w.cell? ⟨b,3,none⟩=some kv) (hrow:aH w kb kv (bs.map ptr)) (hl:bs.length=ps.length) (hn:ps.length<=1000) (hsz:ps.flatten.length<=2000000)
  (hk:∀ i (h1:i<bs.length) (h2:i<ps.length) wz,Below w.heap.size w wz->Calls Tryz.prog 30 #[ptr bs[i]] wz fun e w'=>e=.returned (tx ps[i])/\Below wz.heap.size wz w') :
  Calls Tryz.prog 30 #[ptr b] w fun e w'=>e=.returned (tx (Wf.putN ps.length++ps.flatten))/\Below w.heap.size w w':=by
 obtain⟨a,c,rfl,hnc,hcm⟩:=hrow.form;obtain⟨m,hm⟩:∃ m,(bs.map ptr).length=m:=⟨_,rfl⟩;have hbm:bs.length=m:=by rw[<-hm,zaG]
 have hpm:ps.length=m:=by omega
 have hm6:m<=1000:=by omega
 rw[hpm];obtain⟨B,hB⟩:∃ B:ByteArray,(⟨(Wf.putN m).toArray⟩:ByteArray)=B:=⟨_,rfl⟩;have hBs:B.size<=3:=by rw[<-hB];exact(Wf.bZ m (by omega)).2
 have HBL:=hid (show B.data.toList=Wf.putN m by rw[<-hB]);have HP:=hid fun wz=>l1Put m (by omega) wz;simp only[tx,hB] at HP;have HBM:=hid hbm;have HPM:=hid hpm;have HMM:=hid hm;rw[hm] at c3 hrow hnc;have HROW:=hid hrow;have HK:=hid hk;have HSZ:=hid hsz;have HFT:=hid fun(i:Nat) (hi:i<ps.length)=>(show(ps.take (i+1)).flatten=(ps.take i).flatten++ps[i] by
  have e:ps.take (i+1)=ps.take i++[ps[i]]:=by rw[List.take_add_one,zaV hi];rfl
  rw[e,List.flatten_append,List.flatten_cons,List.flatten_nil,List.append_nil])
 have HFL:=hid fun(i:Nat)=>(show(ps.take i).flatten.length<=2000000 by
  refine zaI ?_ hsz;conv=>rhs;rw[<-List.take_append_drop i ps,List.flatten_append,zaD]
  omega)
 unfold maxLen at hcm;clear hrow hk hl hsz hm hbm hpm hB;go_enter Tryz.func30,Tryz.ntmps30;go_wp2_with (go_at_call 53;refine(HP.out _).mono ?_;rintro e w2 ⟨rfl,hb2⟩;have HB2:=hid hb2;clear hb2)
 go_loopw [5,6] (fun s5 s6 wr=>∃ (i:Nat) (S:ByteArray),s5=.string S/\s6=.int .i64 i/\i<=m/\S.size<=2000003/\Hid (S.data.toList=Wf.putN m++(ps.take i).flatten/\Below w.heap.size w wr)) (fun _ s6 _=>m-(RowKit.intOf s6).toNat)
 case atStart=>exact⟨0,B,rfl,rfl,Nat.zero_le _,by omega,hid ⟨by rw[HBL.out];simp,HB2.out⟩⟩
 case round =>
  obtain⟨i,S,rfl,rfl,hi,hS,hh⟩:=hrel;have hbw:b<wr.heap.size:=zaC hlt hh.out.2.size;have y3:=(hh.out.2.cell (p:=⟨b,3,none⟩) hlt).trans c3;by_cases hlt2:i<m
  ·have hib:i<bs.length:=by rw[HBM.out];exact hlt2
   have hip:i<ps.length:=(by rw[HPM.out];exact hlt2);obtain⟨o,rfl,hkb,_,_,ck⟩:=HROW.out.get (i:=i) (by rw[HMM.out];exact hlt2);rw[zaR] at ck;obtain⟨u,hu⟩:∃ u,bs[i]=u:=⟨_,rfl⟩;obtain⟨T,hT⟩:∃ T:ByteArray,(⟨(ps[i]).toArray⟩:ByteArray)=T:=⟨_,rfl⟩;rw[hu] at ck;have hkw:kb<wr.heap.size:=zaC hkb hh.out.2.size;have yk:=(hh.out.2.cell (p:=⟨kb,o+i,none⟩) hkb).trans ck;have HC:=hid (show Calls Tryz.prog 30 #[ptr u] wr fun e w'=>e=.returned (.string T)/\Below wr.heap.size wr w' by
    have:=HK.out i hib hip wr hh.out.2;rw[hu] at this;simp only[tx,hT] at this;exact this)
   have hft:=HFT.out i hip;have hfl:=HFL.out (i+1);have hpl:(Wf.putN m).length<=3:=(Wf.bZ m (by omega)).2;have HE:=hid (show(S++T).data.toList=Wf.putN m++(ps.take (i+1)).flatten by
    rw[hft,zaU,zaW,hh.out.1,<-hT,zaT])
   have hST:(S++T).size<=2000003:=by
    rw[<-aE,HE.out,zaD];omega
   have hTs:S.size+T.size<=2000003:=(by rw[<-zaO];exact hST);clear hu hT ck hft hfl;go_wp2_with (go_at_call 30;refine HC.out.mono ?_;rintro e w2 ⟨rfl,hb2⟩;have HB3:=hid hb2;clear hb2)
   go_roundw
   case rel=>exact⟨i+1,S++T,by rfl,by go_num,by omega,hST,hid ⟨HE.out,hh.out.2.trans (HB3.out.mono hh.out.2.size)⟩⟩
   case measure=>simp[RowKit.intOf];omega
  ·have him:i=m:=by omega
   subst him;have HE:=hid (show S=⟨(Wf.putN i++ps.flatten).toArray⟩ by
    rw[aQ,hh.out.1,zaS (by rw[HPM.out];exact zaA)])
   go_wp2_with fail
   go_ret
   exact⟨aX HE.out,hh.out.2⟩
theorem lb_named (T O:ByteArray) (y:Bool) (hy:(T.toList==[82])=y) (tb kb:Nat) (tv kv:Value) (gs bs:List Nat) (ps Q:List (List UInt8)) (hlt:b<w.heap.size) (hs:0<KD.size) (e0:∀ h,(KD[0]'h).toNat=64) (c0:w.cell? ⟨b,0,none⟩=some (.string KD)) (c1:w.cell? ⟨b,1,none⟩=some (.string T)) (c2:w.cell? ⟨b,2,none⟩=some tv) (c3:w.cell? ⟨b,3,none⟩=some kv) (hrt:aH w tb tv (gs.map ix)) (hrow:aH w kb kv (bs.map ptr)) (hlp:bs.length=ps.length) (hgl:Q.length=gs.length) (hn:gs.length<=1000)
  (hg:∀ g∈gs,g<=999999) (hsz:Q.flatten.length<=2000000) (hO:O.data.toList=Q.flatten++(if y then [0] else []))
  (hQ:∀ i (h1:i<Q.length) (h2:i<gs.length),(∃ h3:i<ps.length,ps[i].length<=999999/\Q[i]=Wf.putN gs[i]++(Wf.putN ps[i].length++ps[i]))\/(ps.length<=i/\Q[i]=Wf.putN gs[i]))
  (hk:∀ i (h1:i<bs.length) (h2:i<ps.length) wz,Below w.heap.size w wz->Calls Tryz.prog 30 #[ptr bs[i]] wz fun e w'=>e=.returned (tx ps[i])/\Below wz.heap.size wz w') :
  Calls Tryz.prog 30 #[ptr b] w fun e w'=>e=.returned (.string O)/\Below w.heap.size w w':=by
 obtain⟨a,c,rfl,hnc,hcm⟩:=hrow.form;obtain⟨ta,tc,rfl,htc,htm⟩:=hrt.form;obtain⟨k,hkk⟩:∃ k,(bs.map ptr).length=k:=⟨_,rfl⟩;obtain⟨m,hm⟩:∃ m,(gs.map ix).length=m:=⟨_,rfl⟩;have hbk:bs.length=k:=by rw[<-hkk,zaG]
 have hpk:ps.length=k:=by omega
 have hgm:gs.length=m:=by rw[<-hm,zaG]
 have hqm:Q.length=m:=by omega
 have hm6:m<=1000:=by omega
 have HKK:=hid hkk;have HMM:=hid hm;have HBK:=hid hbk;have HPK:=hid hpk;have HGM:=hid hgm;have HQM:=hid hqm;rw[hkk] at c3 hrow hnc;rw[hm] at c2 hrt htc;have HROW:=hid hrow;have HRT:=hid hrt;have HK:=hid hk;have HG:=hid hg;have HQ:=hid hQ;have HO:=hid hO;have HFT:=hid fun(i:Nat) (hi:i<Q.length)=>(show(Q.take (i+1)).flatten=(Q.take i).flatten++Q[i] by
  have e:Q.take (i+1)=Q.take i++[Q[i]]:=by rw[List.take_add_one,zaV hi];rfl
  rw[e,List.flatten_append,List.flatten_cons,List.flatten_nil,List.append_nil])
 have HFL:=hid fun(i:Nat)=>(show(Q.take i).flatten.length<=2000000 by
  refine zaI ?_ hsz;conv=>rhs;rw[<-List.take_append_drop i Q,List.flatten_append,zaD]
  omega)
 have hcv:=run_convert_lit (P:=Tryz.prog) 22 9 5 Tryz.underlying22 Tryz.underlying5 Tryz.underlying9;have HCV:=hid hcv;unfold maxLen at hcm htm;clear hrow hk hlp hsz hm hkk hbk hpk hrt hg hgm hqm hQ hgl hO hcv;go_enter Tryz.func30,Tryz.ntmps30;go_wp2_with fail
 go_loopw [7,8] (fun s7 s8 wr=>∃ (i:Nat) (S:ByteArray),s7=.string S/\s8=.int .i64 i/\i<=m/\S.size<=2000000/\Hid (S.data.toList=(Q.take i).flatten/\Below w.heap.size w wr)) (fun _ s8 _=>m-(RowKit.intOf s8).toNat)
 case atStart=>exact⟨0,⟨#[]⟩,rfl,rfl,Nat.zero_le _,by decide,hid ⟨rfl,zaB⟩⟩
 case round =>
  obtain⟨i,S,rfl,rfl,hi,hS,hh⟩:=hrel;have hbw:b<wr.heap.size:=zaC hlt hh.out.2.size;have y2:=(hh.out.2.cell (p:=⟨b,2,none⟩) hlt).trans c2;by_cases hlt2:i<m
  ·have hig:i<gs.length:=by rw[HGM.out];exact hlt2
   have hiq:i<Q.length:=(by rw[HQM.out];exact hlt2);obtain⟨p,rfl,htb,_,_,ct⟩:=HRT.out.get (i:=i) (by rw[HMM.out];exact hlt2);rw[zaR] at ct;obtain⟨g,hgi⟩:∃ g,gs[i]=g:=⟨_,rfl⟩;have hg6:g<=999999:=(by rw[<-hgi];exact HG.out _ (zaQ hig));rw[hgi] at ct;have hct:ix g=.int .i64 g:=rfl;rw[hct] at ct;have htw:tb<wr.heap.size:=zaC htb hh.out.2.size;have yt:=(hh.out.2.cell (p:=⟨tb,p+i,none⟩) htb).trans ct;have HD:=hid fun wz=>l1Put g hg6 wz;obtain⟨D,hD⟩:∃ D:ByteArray,(⟨(Wf.putN g).toArray⟩:ByteArray)=D:=⟨_,rfl⟩;have hDl:D.data.toList=Wf.putN g:=(by rw[<-hD]);have hDs:D.size<=3:=(by rw[<-hD];exact(Wf.bZ g hg6).2);simp only[tx,hD] at HD;have hft:=HFT.out i hiq;have hfl:=HFL.out (i+1);have a1:=fun wz=>zbH (P:=Tryz.prog) (w:=wz) S D (by omega);have n1:(0:Int)<=(i:Int):=(by omega);have n2:(i:Int)<(m:Int):=(by omega);have hq:=HQ.out i hiq hig;rw[hgi] at hq;clear hct ct hgi hD;rcases hq with⟨hip,hpl,hqe⟩|⟨hip,hqe⟩
   ·have hik:i<k:=by rw[<-HPK.out];exact hip
    have hib:i<bs.length:=(by rw[HBK.out];exact hik);have n3:(i:Int)<(k:Int):=(by omega);have y3:=(hh.out.2.cell (p:=⟨b,3,none⟩) hlt).trans c3;obtain⟨o,rfl,hkb,_,_,ck⟩:=HROW.out.get (i:=i) (by rw[HKK.out];exact hik);rw[zaR] at ck;obtain⟨u,hu⟩:∃ u,bs[i]=u:=⟨_,rfl⟩;obtain⟨X,hX⟩:∃ X:ByteArray,(⟨(ps[i]).toArray⟩:ByteArray)=X:=⟨_,rfl⟩;have hXl:X.data.toList=ps[i]:=(by rw[<-hX]);have hXs:X.size=ps[i].length:=(by rw[<-hX];rfl);rw[hu] at ck;have hkw:kb<wr.heap.size:=zaC hkb hh.out.2.size;have yk:=(hh.out.2.cell (p:=⟨kb,o+i,none⟩) hkb).trans ck;have HC:=hid fun(wz:World) (hz:Below wr.heap.size wr wz)=>(show Calls Tryz.prog 30 #[ptr u] wz fun e w'=>e=.returned (.string X)/\Below wz.heap.size wz w' by
     have:=HK.out i hib hip wz (hh.out.2.trans (hz.mono hh.out.2.size));rw[hu] at this;simp only[tx,hX] at this;exact this)
    have HL:=hid fun wz=>l5Len X (by omega) wz;obtain⟨Z,hZ⟩:∃ Z:ByteArray,(⟨(Wf.putN X.data.toList.length++X.data.toList).toArray⟩:ByteArray)=Z:=⟨_,rfl⟩;have hZl:Z.data.toList=Wf.putN ps[i].length++ps[i]:=(by rw[<-hZ,<-hXl]);simp only[tx,hZ] at HL;have HE:=hid (show(S++D++Z).data.toList=(Q.take (i+1)).flatten by
     rw[hft,hqe,zaU,zaU,zaW,zaW,hh.out.1,hDl,hZl,zaT])
    have hSZ:(S++D++Z).size<=2000000:=(by rw[<-aE,HE.out];exact hfl);have a2:=fun wz=>zbH (P:=Tryz.prog) (w:=wz) (S++D) Z (by rw[<-zaO];omega);clear hu hX ck hZ hZl hXl hXs hft hfl hqe hpl hDl;go_wp2_with (first|(go_at_call 54;have _u:=HB3;refine(HL.out _).mono ?_;rintro e w4 ⟨rfl,hb4⟩;have HB4:=hid (HB3.out.trans (hb4.mono HB3.out.size));clear hb4)|(go_at_call 30;have _u:=HB2;refine(HC.out _ HB2.out).mono ?_;rintro e w3 ⟨rfl,hb3⟩;have HB3:=hid (HB2.out.trans (hb3.mono HB2.out.size));clear hb3)|(go_at_call 53;refine(HD.out _).mono ?_;rintro e w2 ⟨rfl,hb2⟩;have HB2:=hid hb2;have z3:=(hb2.cell (p:=⟨b,3,none⟩) hbw).trans y3;have zk:=(hb2.cell (p:=⟨kb,o+i,none⟩) hkw).trans yk;have zl1:=zaC hbw hb2.size;have zl2:=zaC hkw hb2.size;clear hb2))
    go_roundw
    case rel=>exact⟨i+1,S++D++Z,by rfl,by go_num,by omega,hSZ,hid ⟨HE.out,hh.out.2.trans (HB4.out.mono hh.out.2.size)⟩⟩
    case measure=>simp[RowKit.intOf];omega
   ·have hik:k<=i:=by rw[<-HPK.out];exact hip
    have n3:¬ (i:Int)<(k:Int):=(by omega);have y3:=(hh.out.2.cell (p:=⟨b,3,none⟩) hlt).trans c3;have HE:=hid (show(S++D).data.toList=(Q.take (i+1)).flatten by
     rw[hft,hqe,zaU,zaW,hh.out.1,hDl])
    have hSZ:(S++D).size<=2000000:=(by rw[<-aE,HE.out];exact hfl);clear hft hfl hqe hDl;go_wp2_with (go_at_call 53;refine(HD.out _).mono ?_;rintro e w2 ⟨rfl,hb2⟩;have HB2:=hid hb2;have z3:=(hb2.cell (p:=⟨b,3,none⟩) hbw).trans y3;have zl1:=zaC hbw hb2.size;clear hb2)
    go_roundw
    case rel=>exact⟨i+1,S++D,by rfl,by go_num,by omega,hSZ,hid ⟨HE.out,hh.out.2.trans (HB2.out.mono hh.out.2.size)⟩⟩
    case measure=>simp[RowKit.intOf];omega
  ·have him:i=m:=by omega
   subst him;have y1:=(hh.out.2.cell (p:=⟨b,1,none⟩) hlt).trans c1;have hSl:=hh.out.1;rw[zaS (by rw[HQM.out];exact zaA)] at hSl;have hcv:=HCV.out;cases y with
   | true =>
    have HE:=hid (show S++(⟨#[0]⟩:ByteArray)=O from by
     have h1:(S++(⟨#[0]⟩:ByteArray)).data.toList=O.data.toList:=by
      rw[HO.out,if_pos rfl,zaU,zaW,hSl]
     rw[cW _ _ h1])
    clear hSl;go_wp2_with fail
    go_ret
    exact⟨aX HE.out,hh.out.2.alloc hh.out.2.size _⟩
   | false =>
    have HE:=hid (show S=O from by
     have h1:S.data.toList=O.data.toList:=(by rw[HO.out,if_neg (by simp),List.append_nil,hSl]);rw[cW _ _ h1])
    clear hSl hcv;go_wp2_with fail
    go_ret
    exact⟨aX HE.out,hh.out.2⟩
end

theorem flat_kid {l:List Wf.V} {v:Wf.V} (h:v∈l):v.print.length<=(Wf.commas (l.map Wf.V.print)).length:=Wf.dC (List.mem_map.2 ⟨v,h,rfl⟩)
theorem lbytes {x:Wf.Sc}:∀ (n:Nat) (k:Wf.K) (v:Wf.V),Wf.Typed x n k v->∀ (P:Nat->Prop) (b:Nat) (W w:World),LV W P v b->Below W.heap.size W w->v.print.length<=10000->Calls Tryz.prog 30 #[ptr b] w fun e w'=>e=.returned (tx v.bytes)/\Below w.heap.size w w':=by
 intro n;induction n with
 | zero=>intro k v h;exact h.elim
 | succ n ih =>
  intro k v h P b W w hL hW hlen;have hbl:=Wf.eK (n+1) k v h (by omega);obtain⟨hlt,kd,t,tv,kv,tb,kb,bs,c0,c1,c2,c3,r1,r2,hs,hk⟩:=hL.at (Wf.mU h) hW;cases k with
  | num =>
   obtain⟨m,hm,rfl⟩:=h;simp only[Wf.V.what,Wf.V.text,bG] at hs;obtain⟨h1,h2⟩:=bK hs.1;rw[Wf.kK];exact lb_num b ⟨kd.toArray⟩ w ⟨t.toArray⟩ m hm hs.2 hlt h1 h2 c0 c1
  | txt =>
   obtain⟨d,_,hd,rfl⟩:=h;simp only[Wf.V.what,Wf.V.text,bG] at hs;obtain⟨h1,h2⟩:=bK hs.1;rw[Wf.kR];exact lb_txt b ⟨kd.toArray⟩ w ⟨t.toArray⟩ ⟨d.toArray⟩ hs.2 hd hlt h1 h2 c0 c1
  | flag =>
   rcases h with rfl|rfl;all_goals simp only[Wf.V.what,Wf.V.text,bG] at hs
   all_goals obtain⟨h1,h2⟩:=bK hs.1
   ·rw[Wf.jR]
    exact lb_flag b ⟨kd.toArray⟩ w true hlt h1 h2 c0 (by rw[c1];congr 1;rw[hs.2];rfl)
   ·rw[Wf.mB]
    exact lb_flag b ⟨kd.toArray⟩ w false hlt h1 h2 c0 (by rw[c1];congr 1;rw[hs.2];rfl)
  | list k =>
   obtain⟨l,h20,hl,rfl⟩:=h;simp only[Wf.V.what,Wf.V.text,Wf.V.kids,bG] at hs hk;obtain⟨h1,h2⟩:=bK hs.1;rw[Wf.dK] at hlen;rw[Wf.dK,Wf.iM] at hbl;have hcl:(Wf.commas (l.map Wf.V.print)).length<=10000:=(by simp at hlen;omega);have:=lb_list b ⟨kd.toArray⟩ w kb kv bs (l.map Wf.V.bytes) hlt h1 h2 c0 c3 r2 (by rw[hk.len,zaG]) (by rw[zaG];omega) (by simp only[zaD,zaF,zaM] at hbl hlen;omega) fun i g1 g2 wz hz=>by
    have g3:i<l.length:=(by simpa using g2);rw[zaR];exact ih k l[i] (hl _ (zaQ g3)) P bs[i] W wz (hk.get i g3 g1) (hW.trans (hz.mono hW.size)) (zaI (flat_kid (zaQ g3)) hcl)
   rw[Wf.iM];rw[zaG] at this;exact this
  | opt k =>
   rcases h with rfl|⟨u,hu,rfl⟩
   ·simp only[Wf.V.what,Wf.V.text,Wf.V.kids,bG] at hs hk
    obtain⟨h1,h2⟩:=bK hs.1;obtain rfl:=hk.none;obtain⟨a,c,rfl,_,_⟩:=r2.form;rw[Wf.kT];exact lb_none b ⟨kd.toArray⟩ w c a hlt h1 h2 c0 c3
   ·simp only[Wf.V.what,Wf.V.text,Wf.V.kids,bG] at hs hk
    obtain⟨h1,h2⟩:=bK hs.1;obtain⟨ub,rfl,hu2⟩:=hk.one;obtain⟨a,c,rfl,hnc,hcm⟩:=r2.form;obtain⟨o,rfl,hkb,_,_,ck⟩:=r2.get (i:=0) (by simp);rw[Wf.dE] at hlen;rw[Wf.dE,Wf.gX] at hbl;simp only[zaF] at hlen hbl;rw[Wf.gX];exact lb_some b ⟨kd.toArray⟩ w kb o ub c ⟨u.bytes.toArray⟩ hlt h1 h2 c0 c3 hkb ck hnc hcm (by show u.bytes.length<=_;omega) fun wz hz=>ih k u hu P ub W wz hu2 (hW.trans (hz.mono hW.size)) (by omega)
  | ref nm =>
   obtain⟨ty,hty,h⟩:=h;rcases h with⟨_,f,hf,hf2,rfl⟩|⟨_,_,f,u,hf,hf2,hu,rfl⟩|⟨_,_,l,hasc,hl,rfl⟩
   ·simp only[Wf.V.what,Wf.V.text,Wf.V.kids,Wf.V.tag,bG] at hs hk r1
    obtain⟨h1,h2⟩:=bK hs.1;have htl:t=[69]:=hs.2;subst htl;obtain rfl:=hk.none;rw[Wf.kM];have r1':aH w tb tv ([f.tag].map ix):=(by simpa[bU] using r1);refine lb_named b ⟨kd.toArray⟩ w ⟨[69].toArray⟩ ⟨(Wf.putN f.tag).toArray⟩ false (by rw[zaZ];rfl) tb kb tv kv [f.tag] [] [] [Wf.putN f.tag] hlt h1 h2 c0 c1 c2 c3 r1' r2 rfl rfl (by simp) (by simp;omega) ?_ (by simp) ?_ ?_
    ·have:=(Wf.bZ f.tag (by omega)).2;simp;omega
    ·intro i h1 h2
     obtain rfl:i=0:=by simp at h1;omega
     exact .inr ⟨by simp,rfl⟩
    ·intro i h1;simp at h1
   ·simp only[Wf.V.what,Wf.V.text,Wf.V.kids,Wf.V.tag,bG] at hs hk r1
    obtain⟨h1,h2⟩:=bK hs.1;have htl:t=[85]:=hs.2;subst htl;obtain⟨ub,rfl,hu2⟩:=hk.one;rw[Wf.dY] at hlen;rw[Wf.kB] at hbl ⊢;have hul:u.print.length<=10000:=(by simp only[zaD,zaF,zaM] at hlen;omega);have hub:=Wf.eK n f.kind u hu (by omega);have r1':aH w tb tv ([f.tag].map ix):=(by simpa[bU] using r1);refine lb_named b ⟨kd.toArray⟩ w ⟨[85].toArray⟩ ⟨(Wf.putN f.tag++(Wf.putN u.bytes.length++u.bytes)).toArray⟩ false (by rw[zaZ];rfl) tb kb tv kv [f.tag] [ub] [u.bytes] [Wf.putN f.tag++(Wf.putN u.bytes.length++u.bytes)] hlt h1 h2 c0 c1 c2 c3 r1' r2 rfl rfl (by simp) (by simp;omega) ?_ (by simp) ?_ ?_
    ·have:=(Wf.bZ f.tag (by omega)).2
     have:=(Wf.bZ u.bytes.length (by omega)).2;simp only[List.flatten_cons,List.flatten_nil,List.append_nil,zaD];omega
    ·intro i h1 h2
     obtain rfl:i=0:=by simp at h1;omega
     exact .inl ⟨by simp,by show u.bytes.length<=_;omega,rfl⟩
    ·intro i h1 h2 wz hz
     obtain rfl:i=0:=by simp at h1;omega
     exact ih f.kind u hu P ub W wz hu2 (hW.trans (hz.mono hW.size)) hul
   ·simp only[Wf.V.what,Wf.V.text,Wf.V.kids,Wf.V.tag,bG] at hs hk r1
    obtain⟨h1,h2⟩:=bK hs.1;have htl:t=[82]:=hs.2;subst htl;rw[nS] at r1;have hk2:=hk.fields;have hbs:bs.length=l.length:=(by rw[hk2.len,zaG]);rw[Wf.dS] at hlen;rw[Wf.lO] at hbl ⊢;have hcl:(Wf.commas ((l.map fun e=>Wf.V.mk 61 [] e.1.tag [e.2]).map Wf.V.print)).length<=10000:=(by simp only[zaF,zaD,zaM] at hlen;omega);have hpr:∀ e∈l,e.2.print.length<=10000:=fun e he=>by
     have h3:=Wf.dC (l:=(l.map fun e=>Wf.V.mk 61 [] e.1.tag [e.2]).map Wf.V.print) (a:=(Wf.V.mk 61 [] e.1.tag [e.2]).print) (List.mem_map.2 ⟨_,List.mem_map.2 ⟨e,he,rfl⟩,rfl⟩);rw[Wf.dB] at h3;simp only[zaD,zaF] at h3;omega
    have hll:l.length<=1000:=by
     have:=(Wf.typed_bok (n+1) (.ref nm) _ ⟨ty,hty,.inr (.inr ⟨‹_›,‹_›,l,hasc,hl,rfl⟩)⟩);cases this with
     | mk _ _ _ _ _ h6 _ _=>simpa using h6
    refine lb_named b ⟨kd.toArray⟩ w ⟨[82].toArray⟩ ⟨(((l.map fun(e:Wf.Fd × Wf.V)=>Wf.V.mk 61 [] e.1.tag [e.2]).map Wf.V.bytes).flatten++[0]).toArray⟩ true (by rw[zaZ];rfl) tb kb tv kv (l.map fun e=>e.1.tag) bs (l.map fun e=>e.2.bytes) ((l.map fun e=>Wf.V.mk 61 [] e.1.tag [e.2]).map Wf.V.bytes) hlt h1 h2 c0 c1 c2 c3 r1 r2 (by rw[zaG,hbs]) (by simp) (by simpa using hll) (fun g hg=>?_) ?_ rfl ?_ ?_
    ·obtain⟨e,he,rfl⟩:=List.mem_map.1 hg
     have:=(hl e he).2.2.1;omega
    ·rw[zaD] at hbl
     have hpl:(Wf.V.mk 82 [] 0 (l.map fun(e:Wf.Fd × Wf.V)=>Wf.V.mk 61 [] e.1.tag [e.2])).print.length<=10000:=(by rw[Wf.dS];exact hlen);omega
    ·intro i g1 g2
     have g3:i<l.length:=(by simpa using g2);have he:=zaQ g3;have:=Wf.eK n _ _ (hl _ he).2.2.2.1 (by have:=hpr _ he;omega);have:=hpr _ he;refine .inl ⟨by simpa using g3,by simp only[zaR];omega,?_⟩;simp only[zaR];exact Wf.jB _ _
    ·intro i g1 g2 wz hz
     have g3:i<l.length:=(by simpa using g2);have g4:i<(l.map (·.2)).length:=(by simpa using g3);have hv:=hk2.get i g4 g1;rw[zaR] at hv;rw[zaR];exact ih (l[i]).1.kind (l[i]).2 (hl _ (zaQ g3)).2.2.2.1 P bs[i] W wz hv (hW.trans (hz.mono hW.size)) (hpr _ (zaQ g3))

theorem canon_words (l kt s:List UInt8):canonI l kt s=match aV l kt with|some y=>Wf.canonR y.1 y.2 s|none=>false:=by
 unfold canonI;cases hk:aV l kt with
 | none=>rfl
 | some y =>
  obtain⟨hsc,_⟩:=jJ hk;exact Wf.canon_same (Wf.eH (Wf.gE hsc)) _ _

theorem getN_nil:Wf.getN []=none:=by simp[Wf.getN]
theorem getB_nil (x:Wf.Sc) (n:Nat) (k:Wf.K):Wf.getB x (n+1) k []=none:=by
 cases k with
 | num=>rw[dec_num,getN_nil];rfl
 | txt=>simp only[Wf.getB,Wf.tN]
 | flag=>rfl
 | list k=>simp only[Wf.getB,getN_nil]
 | opt k=>rfl
 | ref nm =>
  show(match x.find nm with|none=>none|some t=>Wf.bF x (fun k' s'=>Wf.getB x n k' s') t [])=none;cases x.find nm with
  | none=>rfl
  | some t =>
   dsimp only;unfold Wf.bF;rw[getN_nil];by_cases h1:t.sort=69
   ·rw[if_pos h1]
   ·rw[if_neg h1]
    by_cases h2:t.sort=85
    ·rw[if_pos h2]
    ·rw[if_neg h2];rfl
theorem lget (x:Wf.Sc) (hx:Wf.ScOk x) (v:Value) (lo bsc:Nat) (W:World) (hsp:ScSp W lo bsc v x):∀ (n:Nat),n<=1000->∀ (k:Wf.K),KOk x k->LG x v W n k:=by
 intro n;induction n with
 | zero =>
  intro _ k hk S w hS hW;refine rgetno v S ⟨k.text.toArray⟩ (0:Nat) w _ ?_ rfl;by_cases h:S.toList.isEmpty=true
  ·exact .inl h
  ·exact .inr ⟨by simpa using h,by decide⟩
 | succ n ih =>
  intro hn k hk S w hS hW;have hD:decide (((n+1:Nat):Int)<1)=false:=decide_eq_false (by omega);have hDe:((n+1:Nat):Int)=(n:Int)+1:=by omega
  have kd:IntKind.i64.wrap (((n+1:Nat):Int)-1)=(n:Int):=by rw[hDe,Int.add_sub_cancel];exact zbI _ (by omega)
  cases hl:S.data.toList with
  | nil =>
   refine rgetno v S ⟨k.text.toArray⟩ _ w _ (.inl ?_) (getB_nil x n k);rw[zaZ,hl];rfl
  | cons c q =>
   obtain⟨e1,e2,e3,e4,e5,e6⟩:=rP hl;have hRs:(S.extract 1 S.size).size<=100000:=(by rw[zaY];omega);cases k with
   | num=>rw[<-hl];exact get_num x v n S _ w hS e1 hD
   | txt=>rw[<-hl];exact get_txt x v n S _ w hS e1 hD
   | flag =>
    by_cases h0:c=0
    ·subst h0
     exact get_flag v S _ w _ e1 e3 e4 _ rfl hD 0 e5 [110,111] (.inl ⟨rfl,rfl⟩) (by rw[e6];rfl)
    ·by_cases h1:c=1
     ·subst h1
      exact get_flag v S _ w _ e1 e3 e4 _ rfl hD 1 e5 [121,101,115] (.inr ⟨rfl,rfl⟩) (by rw[e6];rfl)
     ·refine get_flag_no v S _ w _ e1 e3 hD c.toNat e5 ?_ ?_
      ·have g0:c.toNat≠0:=fun h=>h0 (UInt8.toNat_inj.1 (by rw[h];rfl))
       have g1:c.toNat≠1:=fun h=>h1 (UInt8.toNat_inj.1 (by rw[h];rfl));omega
      ·show(match c::q with|0::r=>_|1::r=>_|_=>_)=none
       split
       ·rename_i h;cases h;exact absurd rfl h0
       ·rename_i h;cases h;exact absurd rfl h1
       ·rfl
   | list k =>
    obtain⟨hk0,ek⟩:=bK (kd:=(Wf.K.list k).text) (c:=91) rfl;rw[<-hl];have hgb:Wf.getB x (n+1) (.list k) S.data.toList=(match Wf.getN S.data.toList with|none=>none|some (m,r)=>if m<=20 then (Wf.getItems (Wf.getB x n k) m r).map fun y=>(.mk 91 [] 0 y.1,y.2) else none):=rfl;refine get_list v S _ _ w _ hS e1 e3 hD hk0 ek (fun h=>by rw[hgb,h]) (fun m R wz hm hR hm9 hz=>?_);rw[hgb,hm];exact lsome x v W n k R _ wz m hm9 hR hDe (by omega) (ih (by omega) k hk.list) (hW.trans (hz.mono hW.size))
   | opt k =>
    obtain⟨hk0,ek⟩:=bK (kd:=(Wf.K.opt k).text) (c:=63) rfl;have hK1:(⟨(Wf.K.opt k).text.toArray⟩:ByteArray).extract 1 (⟨(Wf.K.opt k).text.toArray⟩:ByteArray).size=⟨k.text.toArray⟩:=(by rw[aQ,cI];rfl);by_cases h0:c=0
    ·subst h0
     exact get_opt_none v S _ _ w _ _ e1 e3 e4 rfl hD hk0 ek rfl e5 (by rw[e6];rfl)
    ·by_cases h1:c=1
     ·subst h1
      refine get_opt_some v n S _ _ w _ k _ _ e1 e3 e4 rfl hD hk0 (by simp[ByteArray.size,Wf.K.text]) hK1 ek rfl e5 kd (Wf.getB x n k (S.extract 1 S.size).data.toList) (by rw[e6];rfl) (fun wz hz=>ih (by omega) k hk.opt _ wz hRs (hW.trans (hz.mono hW.size)))
     ·refine get_opt_no v S _ _ w _ e1 e3 hD hk0 ek c.toNat e5 ?_ ?_ ?_
      ·rw[zaJ]
       intro h;exact h0 (UInt8.toNat_inj.1 (by show c.toNat=0;omega))
      ·rw[bne_iff_ne]
       intro h;exact h1 (UInt8.toNat_inj.1 (by show c.toNat=1;omega))
      ·show(match c::q with|0::r=>_|1::r=>_|_=>_)=none
       split
       ·rename_i h;cases h;exact absurd rfl h0
       ·rename_i h;cases h;exact absurd rfl h1
       ·rfl
   | ref nm =>
    obtain⟨hk0,ek⟩:=bK (kd:=(Wf.K.ref nm).text) (c:=64) rfl;obtain⟨t,hf⟩:=Wf.mP hk.ref;have htx:=(Wf.cE hf).1;have hto:=hx.tys t htx;have hnm:(Wf.K.ref nm).text.length<=1000000:=(by have:=hk.len;omega);have htl:t.fields.length<=1000:=(by have:=hto.len;omega);have hR:=fun(h69:t.sort≠69) f hfm=>ih (by omega) f.kind (KOk.fld hx htx h69 (f:=f) hfm);rw[<-hl];have hgb:Wf.getB x (n+1) (.ref nm) S.data.toList=Wf.bF x (fun k' s'=>Wf.getB x n k' s') t S.data.toList:=by
     show(match x.find nm with|none=>none|some t=>Wf.bF x (fun k' s'=>Wf.getB x n k' s') t S.data.toList)=_;rw[hf]
    refine get_ref v S _ _ w _ e1 hD hk0 ek fun wz hz=>?_;have hWz:=hW.trans (hz.mono hW.size);rcases hto.sort with hs|hs|hs
    ·have hr:=fun wy (hy:Below wz.heap.size wz wy)=>fH hx lo bsc hsp hf hnm 82 (by rw[hs];rfl) wy (hWz.trans (hy.mono hWz.size))
     refine ty_rec v W t S _ wz _ _ _ _ hr fun fb fa fc wy hrow hy=>?_;rw[Wf.getB_rec hf hs];exact lfields x v W n t nm S _ wy hx lo bsc hsp htx fb fc fa hrow hs hS hDe (by omega) (hR (by rw[hs];decide)) (hWz.trans (hy.mono hWz.size))
    ·have hr:=fun wy (hy:Below wz.heap.size wz wy)=>fH hx lo bsc hsp hf hnm 85 (by rw[hs];rfl) wy (hWz.trans (hy.mono hWz.size))
     rw[hgb];exact ty_one x v W n t S _ wz _ _ 85 hS rfl htl (.inr ⟨hs,rfl⟩) hDe (by omega) hWz (fun f hfm h69=>hR h69 f hfm) hr
    ·have hr:=fun wy (hy:Below wz.heap.size wz wy)=>fH hx lo bsc hsp hf hnm 69 (by rw[hs];rfl) wy (hWz.trans (hy.mono hWz.size))
     rw[hgb];exact ty_one x v W n t S _ wz _ _ 69 hS rfl htl (.inl ⟨hs,rfl⟩) hDe (by omega) hWz (fun f hfm h69=>hR h69 f hfm) hr
def rd5 (l kt s:List UInt8):Option Wf.V:=(aV l kt).bind fun y=>if s.length<=600 then (wholeO (Wf.getB y.1 12 y.2 s)).bind fun u=>if (Wf.valIn y.1 y.2 u.print).isSome=true then some u else none else none
theorem wholeO_some {o:Option (Wf.V × List UInt8)} {u:Wf.V} (h:wholeO o=some u):o=some (u,[]):=by
 rcases o with _|⟨w,_|⟨a,r⟩⟩
 ·cases h
 ·cases h;rfl
 ·cases h
theorem rd5_canon (l kt s:List UInt8):canonI l kt s=match rd5 l kt s with|some u=>decide (u.bytes=s)|none=>false:=by
 rw[canon_words];unfold rd5;cases hk:aV l kt with
 | none=>rfl
 | some y =>
  simp only[Option.bind_some];unfold Wf.canonR;by_cases h6:s.length<=600
  ·rw[if_pos h6,if_pos h6]
   rcases Wf.getB y.1 12 y.2 s with _|⟨u,_|⟨a,r⟩⟩
   ·rfl
   ·show((Wf.valIn y.1 y.2 u.print).isSome&&decide (u.bytes=s))=match (if (Wf.valIn y.1 y.2 u.print).isSome=true then some u else none) with|some u=>decide (u.bytes=s)|none=>false
    by_cases hv:(Wf.valIn y.1 y.2 u.print).isSome=true
    ·rw[if_pos hv,hv];rfl
    ·rw[if_neg hv];simp only[Bool.not_eq_true] at hv;rw[hv];rfl
   ·rfl
  ·rw[if_neg h6,if_neg h6]
theorem rd5_some {l kt s:List UInt8} {u:Wf.V} (h:rd5 l kt s=some u):∃ y,aV l kt=some y/\Wf.Typed y.1 12 y.2 u/\u.print.length<=3000:=by
 unfold rd5 at h;cases hk:aV l kt with
 | none=>rw[hk] at h;cases h
 | some y =>
  rw[hk] at h;simp only[Option.bind_some] at h;by_cases h6:s.length<=600
  ·rw[if_pos h6] at h
   cases hw:wholeO (Wf.getB y.1 12 y.2 s) with
   | none=>rw[hw] at h;cases h
   | some u' =>
    rw[hw] at h;simp only[Option.bind_some] at h;split at h
    ·cases h
     have hg:=wholeO_some hw;have h1:=Wf.getB_short 12 y.2 s u [] hg;exact⟨y,rfl,Wf.fB (Wf.eH (gW hk).1) 12 _ _ _ _ hg,by simp at h1;omega⟩
    ·cases h
  ·rw[if_neg h6] at h;cases h
def L5Out (l kt s:List UInt8) (lo:Nat) (e:Ending) (w':World):Prop:=match rd5 l kt s with
 | some u=>∃ a n c p,e=.returned (.tuple #[.slice a n c,ptr p,.bool true])/\LV w' (fun z=>lo<=z) u p
 | none=>∃ a n c p,e=.returned (.tuple #[.slice a n c,.pointer p,.bool false])
theorem L5Out.no {l kt s:List UInt8} {lo:Nat} {e:Ending} {w':World} (h:rd5 l kt s=none) (he:∃ a n c p,e=.returned (.tuple #[.slice a n c,.pointer p,.bool false])):L5Out l kt s lo e w':=by
 unfold L5Out;rw[h];exact he
theorem L5Out.yes {l kt s:List UInt8} {lo:Nat} {e:Ending} {w':World} {u:Wf.V} (h:rd5 l kt s=some u) (he:∃ a n c p,e=.returned (.tuple #[.slice a n c,ptr p,.bool true])/\LV w' (fun z=>lo<=z) u p):L5Out l kt s lo e w':=by
 unfold L5Out;rw[h];exact he
theorem back_two (o:Bool) (S:ByteArray):∃ T:ByteArray,fJ o S=.tuple #[.string T,.bool o]:=by
 cases o
 ·exact⟨_,rfl⟩
 ·exact⟨_,rfl⟩
theorem l5Of (s kt v:ByteArray) (w:World) (hs:s.size<=1048576):Calls Tryz.prog 47 #[.string s,.string kt,.string v] w fun e w'=>L5Out s.data.toList kt.data.toList v.data.toList w.heap.size e w'/\Below w.heap.size w w':=by
 have HLK:=hid (oQ s kt w hs);cases hty:aV s.data.toList kt.data.toList with
 | none =>
  have HO:=hid fun lo e wz (h:cM s.data.toList kt.data.toList lo e wz)=>(by unfold cM at h;rw[hty] at h;exact h:∃ a n c,e=.returned (.tuple #[.slice a n c,.bool false]));have HF:=hid (show rd5 s.data.toList kt.data.toList v.data.toList=none by unfold rd5;rw[hty];rfl);clear hty;go_enter Tryz.func47,Tryz.ntmps47;go_wp2_with (go_at_call 50;refine HLK.out.mono ?_;rintro e w2 ⟨ho,hb2⟩;obtain⟨a,n,c,rfl⟩:=HO.out _ _ _ ho;have HB2:=hid hb2;clear ho hb2)
  all_goals exact zbD (v:=.tuple #[.slice none 0 0,.pointer none,.bool false]) (by simp[results,Tryz.results47,go_sem, *]) rfl ⟨L5Out.no HF.out ⟨_,_,_,_,rfl⟩,HB2.out⟩
 | some y =>
  obtain⟨x,k⟩:=y;obtain⟨hsc,hpk,hhas,hkt,hkl⟩:=jJ hty;have hx:=Wf.gE hsc;have hk:KOk x k:=⟨by rw[hkt];exact hkl,hhas⟩;have HO:=hid fun lo e wz (h:cM s.data.toList kt.data.toList lo e wz)=>(by unfold cM at h;rw[hty] at h;exact h:∃ b a c,e=.returned (.tuple #[.slice a x.length c,.bool true])/\ScSp wz lo b (.slice a x.length c) x);obtain⟨xn,hxn⟩:∃ xn,x.length=xn:=⟨_,rfl⟩;rw[hxn] at HO;have hkk:tx k.text=.string kt:=by rw[tx,show k.text=kt.data.toList from hkt]
  have hrd:rd5 s.data.toList kt.data.toList v.data.toList=(if v.size<=600 then (wholeO (Wf.getB x 12 k v.data.toList)).bind fun u=>if (Wf.valIn x k u.print).isSome=true then some u else none else none):=by
   unfold rd5;rw[hty];simp only[Option.bind_some,aE]
  by_cases h6:v.size<=600
  ·have hd:decide ((600:Int)<(v.size:Int))=false:=decide_eq_false (by omega)
   rw[if_pos h6] at hrd;have HWH:=hid fun(wz:World) (vv:Value) (lo b:Nat) (W:World) (hW:Below W.heap.size W wz) (hsp:ScSp W lo b vv x)=>(by
    have h:=lwhole x vv W 12 k v wz (by omega) hW (lget x hx vv lo b W hsp 12 (by omega) k hk);rw[hkk,whole_of rfl] at h;exact h:Calls Tryz.prog 72 #[.agg #[vv],.string v,.string kt,.int .i64 12] wz fun e w'=>WhOut (wholeO (Wf.getB x 12 k v.data.toList)) wz e w'/\Below wz.heap.size wz w')
   cases hw:wholeO (Wf.getB x 12 k v.data.toList) with
   | none =>
    rw[hw] at hrd HWH;have HF:=hid hrd;clear hty hrd hw hsc hpk hhas hkt hkl hx hk hkk;go_enter Tryz.func47,Tryz.ntmps47;go_wp2_with (first|(go_at_call 72;have _u:=HSP;refine(HWH.out _ _ _ _ _ (zaB) HSP.out).mono ?_;rintro e w3 ⟨⟨p3,rfl⟩,hb3⟩;have HB3:=hid (aC HB2.out hb3);clear hb3)|(go_at_call 50;refine HLK.out.mono ?_;rintro e w2 ⟨ho,hb2⟩;obtain⟨b,a,c,rfl,hsp⟩:=HO.out _ _ _ ho;have HSP:=hid hsp;have HB2:=hid hb2;clear ho hb2 hsp))
    all_goals exact zbD (v:=.tuple #[.slice none 0 0,.pointer none,.bool false]) (by simp[results,Tryz.results47,go_sem, *]) rfl ⟨L5Out.no HF.out ⟨_,_,_,_,rfl⟩,HB3.out⟩
   | some u =>
    rw[hw] at hrd HWH;simp only[Option.bind_some] at hrd;have hg:=wholeO_some hw;have h1:=Wf.getB_short 12 k _ u [] hg;have hty2:=Wf.fB (Wf.eH hx) 12 _ _ _ _ hg;rw[aE] at h1;have hpl:u.print.length<=3000:=(by omega);obtain⟨U,hU⟩:∃ U:ByteArray,(⟨u.print.toArray⟩:ByteArray)=U:=⟨_,rfl⟩;have hUs:U.size<=3000:=(by rw[<-hU,aR];exact hpl);have HOUT:=hid fun(b:Nat) (Wz wz:World) (P:Nat->Prop) (hv:LV Wz P u b) (hz:Below Wz.heap.size Wz wz)=>(by
     have h:=out 12 k u hty2 _ b Wz wz hv hz (by omega);rw[tx,hU] at h;exact h:Calls Tryz.prog 66 #[ptr b] wz fun e w'=>e=.returned (.string U)/\Below wz.heap.size wz w')
    obtain⟨B,hB⟩:∃ B,(Wf.valIn x k u.print).isSome=B:=⟨_,rfl⟩;obtain⟨T,hT⟩:=back_two B U;have HBK:=hid fun(wz:World) (vv:Value) (lo b:Nat) (W:World) (hW:Below W.heap.size W wz) (hsp:ScSp W lo b vv x)=>(by
     have h:=a2I x hx lo b vv k hk U (by omega) W wz hW hsp;rw[hkk,show U.data.toList=u.print by rw[<-hU],hB,hT] at h;exact h:Calls Tryz.prog 73 #[vv,.string kt,.string U] wz fun e w'=>e=.returned (.tuple #[.string T,.bool B])/\Below wz.heap.size wz w')
    rw[hB] at hrd;have HF:=hid hrd;clear hty hrd hw hsc hpk hhas hkt hkl hx hk hkk hg h1 hty2 hpl hU hB hT;go_enter Tryz.func47,Tryz.ntmps47;go_wp2_with (first|(go_at_call 73;have _u:=HB4;refine(HBK.out _ _ _ _ _ HB24.out HSP.out).mono ?_;rintro e w5 ⟨rfl,hb5⟩;have HB5:=hid (HB4.out.trans (hb5.mono HB4.out.size));have HLV5:=hid (LV.below (LV.below HLV.out HB34.out) hb5);clear hb5)|(go_at_call 66;have _u:=HB3;refine(HOUT.out _ _ _ _ HLV.out (zaB)).mono ?_;rintro e w4 ⟨rfl,hb4⟩;have HB34:=hid hb4;have HB24:=hid (HB23.out.trans (hb4.mono HB23.out.size));have HB4:=hid (HB3.out.trans (hb4.mono HB3.out.size));clear hb4)|(go_at_call 72;have _u:=HSP;refine(HWH.out _ _ _ _ _ (zaB) HSP.out).mono ?_;rintro e w3 ⟨ho,hb3⟩;obtain⟨p3,rfl,hlv⟩:=ho;have HLV:=hid hlv;have HB23:=hid hb3;have HB3:=hid (aC HB2.out hb3);clear hb3 hlv)|(go_at_call 50;refine HLK.out.mono ?_;rintro e w2 ⟨ho,hb2⟩;obtain⟨b,a,c,rfl,hsp⟩:=HO.out _ _ _ ho;have HSP:=hid hsp;have HB2:=hid hb2;clear ho hb2 hsp))
    all_goals exact zbD (v:=.tuple #[.slice a xn c,ptr p3,.bool B]) (by simp[results,Tryz.results47,go_sem, *]) rfl ⟨by
     have hB3:=HB2.out.size;cases B with
     | true=>exact L5Out.yes (by rw[HF.out];rfl) ⟨_,_,_,_,rfl,LV.mono HLV5.out fun z hz _=>zaI hB3 hz⟩
     | false=>exact L5Out.no (by rw[HF.out];rfl) ⟨_,_,_,_,rfl⟩,HB5.out⟩
  ·have hd:decide ((600:Int)<(v.size:Int))=true:=decide_eq_true (by omega)
   rw[if_neg h6] at hrd;have HF:=hid hrd;clear hty hrd hsc hpk hhas hkt hkl hx hk hkk;go_enter Tryz.func47,Tryz.ntmps47;go_wp2_with (go_at_call 50;refine HLK.out.mono ?_;rintro e w2 ⟨ho,hb2⟩;obtain⟨b,a,c,rfl,hsp⟩:=HO.out _ _ _ ho;have HSP:=hid hsp;have HB2:=hid hb2;clear ho hb2 hsp)
   all_goals exact zbD (v:=.tuple #[.slice none 0 0,.pointer none,.bool false]) (by simp[results,Tryz.results47,go_sem, *]) rfl ⟨L5Out.no HF.out ⟨_,_,_,_,rfl⟩,HB2.out⟩
theorem bytesCanon_s (s kt v:ByteArray) (w:World) (hs:s.size<=1048576):Calls Tryz.prog 24 #[.string s,.string kt,.string v] w fun e w'=>e=.returned (.bool (canonI s.data.toList kt.data.toList v.data.toList))/\Below w.heap.size w w':=by
 have HG:=hid (l5Of s kt v w hs);have hc:=rd5_canon s.data.toList kt.data.toList v.data.toList;cases hr:rd5 s.data.toList kt.data.toList v.data.toList with
 | none =>
  rw[hr] at hc;have HF:=hid hc;have HO:=hid fun(e:Ending) (w':World) (h:L5Out s.data.toList kt.data.toList v.data.toList w.heap.size e w')=>(by unfold L5Out at h;rw[hr] at h;exact h:∃ a n c p,e=.returned (.tuple #[.slice a n c,.pointer p,.bool false]));clear hr hc;go_enter Tryz.func24,Tryz.ntmps24;go_wp2_with (go_at_call 47;refine HG.out.mono ?_;rintro e w2 ⟨ho,hb2⟩;obtain⟨a,n,c,p,rfl⟩:=HO.out _ _ ho;have HB2:=hid hb2;clear ho hb2)
  go_ret
  exact⟨by rw[HF.out];rfl,HB2.out⟩
 | some u =>
  obtain⟨y,_,hty,hpl⟩:=rd5_some hr;rw[hr] at hc;dsimp only at hc;obtain⟨A,hA⟩:∃ A:ByteArray,(⟨u.bytes.toArray⟩:ByteArray)=A:=⟨_,rfl⟩;have HF:=hid (show canonI s.data.toList kt.data.toList v.data.toList=(A.toList==v.toList) by
   rw[hc,<-hA,zaZ,zaZ];show decide (u.bytes=v.data.toList)=(u.bytes==v.data.toList);rw[Bool.eq_iff_iff,decide_eq_true_eq,beq_iff_eq])
  have HBY:=hid fun(pb:Nat) (W wz:World) (hlv:LV W (fun z=>w.heap.size<=z) u pb) (hz:Below W.heap.size W wz)=>lbytes 12 y.2 u hty _ pb W wz hlv hz (by omega);simp only[tx,hA] at HBY;have HO:=hid fun(e:Ending) (w':World) (h:L5Out s.data.toList kt.data.toList v.data.toList w.heap.size e w')=>(by unfold L5Out at h;rw[hr] at h;exact h:∃ a n c p,e=.returned (.tuple #[.slice a n c,ptr p,.bool true])/\LV w' (fun z=>w.heap.size<=z) u p);clear hr hc hty hpl hA;go_enter Tryz.func24,Tryz.ntmps24;go_wp2_with (first|(go_at_call 30;have _u:=HLV;refine(HBY.out _ w2 _ HLV.out (by have B:=Below.refl w2.heap.size w2;first|exact B|exact B.drew)).mono ?_;rintro e w3 ⟨rfl,hb3⟩;have HB3:=hid (aC HB2.out hb3);clear hb3)|(go_at_call 47;refine HG.out.mono ?_;rintro e w2 ⟨ho,hb2⟩;obtain⟨a,n,c,p,rfl,hlv⟩:=HO.out _ _ ho;have HLV:=hid hlv;have HB2:=hid hb2;clear ho hb2 hlv))
  go_ret
  exact⟨by rw[HF.out];rfl,HB3.out⟩
