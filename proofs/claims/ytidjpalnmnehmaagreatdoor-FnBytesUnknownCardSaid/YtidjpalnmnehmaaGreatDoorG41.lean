/- Packed. -/
import Derived.Test.YtidjpalnmnehmaaGreatDoorG40
import Derived.Deep.WholeRow
set_option maxRecDepth 99999
set_option maxHeartbeats 40000000
set_option linter.all false
namespace Go.Proofs.YtidjpalnmnehmaaGreatDoor
open Go.ChangeShapes Go.WideShapes Go.ChangeAt Go.RowKit Go.Lib
theorem l1Put (n:Nat) (hn:n<=999999) (w:World):Calls Tryz.prog 53 #[.int .i64 n] w fun e w'=>e=.returned (tx (Wf.putN n))/\Below w.heap.size w w':=by
 have:=l1Put_any n n w (Int.le_refl _) (by omega) (by omega);simpa using this
theorem l5Len (s:ByteArray) (hs:s.size<=999999) (w:World):Calls Tryz.prog 54 #[.string s] w fun e w'=>e=.returned (tx (Wf.putN s.data.toList.length++s.data.toList))/\Below w.heap.size w w':=by
 have HP:=hid fun wz=>l1Put s.size hs wz;obtain⟨B,hB⟩:∃ B:ByteArray,(⟨(Wf.putN s.size).toArray⟩:ByteArray)=B:=⟨_,rfl⟩;have hBs:B.size<=3:=by rw[<-hB];exact(Wf.bH s.size hs).2
 have HF:=hid (show(⟨(Wf.putN s.data.toList.length++s.data.toList).toArray⟩:ByteArray)=B++s from
  ((aS (B++s) _).2 (by rw[zaU,zaW,<-hB,aC])).symm)
 have a1:=fun wz=>zbH (P:=Tryz.prog) (w:=wz) B s (by omega);simp only[tx,hB] at HP;clear hB;go_enter Tryz.func54,Tryz.ntmps54;go_wp2_with (go_at_call 53;refine(HP.out _).mono ?_;rintro e w2 ⟨rfl,hb2⟩;have HB2:=hid hb2;clear hb2)
 go_ret
 exact⟨by rw[tx,HF.out];rfl,HB2.out⟩
section
variable (b:Nat) (KD:ByteArray) (w:World)
theorem lb_num (T:ByteArray) (m:Nat) (hm:m<=999999) (hT:T.data.toList=Wf.dec m) (hlt:b<w.heap.size) (hs:0<KD.size) (e0:∀ h,(KD[0]'h).toNat=110) (c0:w.cell? ⟨b,0,none⟩=some (.string KD)) (c1:w.cell? ⟨b,1,none⟩=some (.string T)) :
  Calls Tryz.prog 30 #[ptr b] w fun e w'=>e=.returned (tx (Wf.putN m))/\Below w.heap.size w w':=by
 have hTs:T.size<=6:=by rw[<-aC,hT];exact Wf.bW hm
 have HN:=hid fun wz=>(gQ T 999999 (zaA) wz (by omega)).mono (R':=fun e w'=>e=.returned (.tuple #[.int .i64 m,.bool true])/\Below wz.heap.size wz w') fun e w' ⟨h1,h2⟩=>⟨by unfold aY at h1;rw[hT,Wf.gX hm hm] at h1;exact h1,h2⟩;have HP:=hid fun wz=>l1Put m hm wz;obtain⟨B,hB⟩:∃ B:ByteArray,(⟨(Wf.putN m).toArray⟩:ByteArray)=B:=⟨_,rfl⟩;simp only[tx,hB] at HP ⊢;clear hT hB;go_enter Tryz.func30,Tryz.ntmps30;go_wp2_with (first|(go_at_call 53;refine(HP.out _).mono ?_;rintro e w3 ⟨rfl,hb3⟩;have B3:=hid (aE HB2.out hb3);clear hb3)|(go_at_call 52;refine(HN.out _).mono ?_;rintro e w2 ⟨rfl,hb2⟩;have HB2:=hid hb2;clear hb2))
 go_ret
 exact⟨rfl,B3.out⟩
theorem lb_txt (T X:ByteArray) (hX:T.data.toList=39::(X.data.toList++[39])) (hXs:X.size<=12) (hlt:b<w.heap.size) (hs:0<KD.size) (e0:∀ h,(KD[0]'h).toNat=116) (c0:w.cell? ⟨b,0,none⟩=some (.string KD)) (c1:w.cell? ⟨b,1,none⟩=some (.string T)) :
  Calls Tryz.prog 30 #[ptr b] w fun e w'=>e=.returned (tx (Wf.putN X.data.toList.length++X.data.toList))/\Below w.heap.size w w':=by
 have hTs:T.size=X.size+2:=by rw[<-aC,hX,<-aC];simp
 have HL:=hid fun wz=>l5Len X (by omega) wz;obtain⟨B,hB⟩:∃ B:ByteArray,(⟨(Wf.putN X.data.toList.length++X.data.toList).toArray⟩:ByteArray)=B:=⟨_,rfl⟩;simp only[tx,hB] at HL ⊢;have hx:T.extract 1 (T.size-1)=X:=by
  have h1:(T.extract 1 (T.size-1)).data.toList=X.data.toList:=by
   rw[bB,hX,hTs,show X.size+2-1-1=X.size by omega,List.drop_succ_cons,List.drop_zero,<-aC,List.take_left]
  rw[cU _ _ h1]
 have kw:IntKind.i64.wrap ((T.size:Int)-1)=(T.size:Int)-1:=zbI _ (by omega);have ks:∀ wz,(Instr.slice 9 (.string T) (some (.int .i64 1)) (some (.int .i64 ((T.size:Int)-1))) none).run Tryz.prog wz=.ok (.string X) wz:=fun wz=>by
  have h:=run_slice_string (P:=Tryz.prog) (w:=wz) 9 T .i64 .i64 1 ((T.size:Int)-1) Tryz.underlying9 (by omega) (by omega) (by omega);rw[h,show(1:Int).toNat=1 from rfl,show((T.size:Int)-1).toNat=T.size-1 by omega,hx]
 have ht2:(2:Int)<=(T.size:Int):=by omega
 have ht3:(T.size:Int)<=14:=by omega
 clear hX hB hx hTs;go_enter Tryz.func30,Tryz.ntmps30;go_wp2_with fail
 go_region_held3 (fun w'=>w'.cell? ⟨b,1,none⟩=some (.string T)) (first|exact j1|go_keep) ((go_at_call 54;refine(HL.out _).mono ?_;rintro e w3 ⟨rfl,hb3⟩;have TD:=hid (show Below w.heap.size w w3 by refine Below.trans (b:=_) ?_ hb3;repeat (first|with_reducible exact zaB|with_reducible refine zbE ?_));have j1:=(TD.out.cell (p:=⟨b,1,none⟩) hlt).trans c1;clear hb3))
 all_goals go_wp2_with fail
 all_goals go_ret
 all_goals exact⟨rfl,TD.out⟩
theorem lb_flag (y:Bool) (hlt:b<w.heap.size) (hs:0<KD.size) (e0:∀ h,(KD[0]'h).toNat=102) (c0:w.cell? ⟨b,0,none⟩=some (.string KD)) (c1:w.cell? ⟨b,1,none⟩=some (tx (if y then [121,101,115] else [110,111]))) :
  Calls Tryz.prog 30 #[ptr b] w fun e w'=>e=.returned (tx (if y then [1] else [0]))/\Below w.heap.size w w':=by
 have hcv:=run_convert_lit (P:=Tryz.prog) 22 9 5 Tryz.underlying22 Tryz.underlying5 Tryz.underlying9;cases y
 ·rw[if_neg (by simp)] at c1 ⊢
  obtain⟨T,hT⟩:∃ T:ByteArray,(⟨#[110,111]⟩:ByteArray)=T:=⟨_,rfl⟩;have c1:w.cell? ⟨b,1,none⟩=some (.string T):=by rw[<-hT];exact c1
  have hTs:(T.size:Int)=2:=by rw[<-hT];rfl
  clear hT;go_enter Tryz.func30,Tryz.ntmps30;go_wp2_with fail
  go_ret
  exact⟨rfl,(zaB).alloc (zaA) _⟩
 ·rw[if_pos rfl] at c1 ⊢
  obtain⟨T,hT⟩:∃ T:ByteArray,(⟨#[121,101,115]⟩:ByteArray)=T:=⟨_,rfl⟩;have c1:w.cell? ⟨b,1,none⟩=some (.string T):=by rw[<-hT];exact c1
  have hTs:(T.size:Int)=3:=by rw[<-hT];rfl
  clear hT;go_enter Tryz.func30,Tryz.ntmps30;go_wp2_with fail
  go_ret
  exact⟨rfl,(zaB).alloc (zaA) _⟩
theorem lb_none (c:Nat) (a:Option Addr) (hlt:b<w.heap.size) (hs:0<KD.size) (e0:∀ h,(KD[0]'h).toNat=63) (c0:w.cell? ⟨b,0,none⟩=some (.string KD)) (c3:w.cell? ⟨b,3,none⟩=some (.slice a 0 c)) :
  Calls Tryz.prog 30 #[ptr b] w fun e w'=>e=.returned (tx [0])/\Below w.heap.size w w':=by
 have hcv:=run_convert_lit (P:=Tryz.prog) 22 9 5 Tryz.underlying22 Tryz.underlying5 Tryz.underlying9;go_enter Tryz.func30,Tryz.ntmps30;go_wp2_with fail
 go_ret
 exact⟨rfl,(zaB).alloc (zaA) _⟩
theorem lb_some (kb o u c:Nat) (T:ByteArray) (hlt:b<w.heap.size) (hs:0<KD.size) (e0:∀ h,(KD[0]'h).toNat=63) (c0:w.cell? ⟨b,0,none⟩=some (.string KD)) (c3:w.cell? ⟨b,3,none⟩=some (.slice (some ⟨kb,o,none⟩) 1 c)) (hkb:kb<w.heap.size) (ck:w.cell? ⟨kb,o,none⟩=some (ptr u)) (h1:1<=c) (hc:c<=maxLen) (hT:T.size<=2000000)
  (hk:∀ wz,Below w.heap.size w wz->Calls Tryz.prog 30 #[ptr u] wz fun e w'=>e=.returned (.string T)/\Below wz.heap.size wz w') :
  Calls Tryz.prog 30 #[ptr b] w fun e w'=>e=.returned (tx (1::T.data.toList))/\Below w.heap.size w w':=by
 have HK:=hid hk;have HO:=hid (show(⟨#[1]⟩:ByteArray)++T=⟨(1::T.data.toList).toArray⟩ by rw[aS];simp);have hc1:=fun W a c=>run_convert_one (P:=Tryz.prog) 22 9 5 Tryz.underlying22 Tryz.underlying5 Tryz.underlying9 W a c 1;have a1:=fun wz=>zbH (P:=Tryz.prog) (w:=wz) ⟨#[1]⟩ T (by show 1+T.size<=_;omega);unfold maxLen at hc;have F:=hid fun(wz:World) (hz:Below w.heap.size w wz)=>(show wz.cell? ⟨b,3,none⟩=some (.slice (some ⟨kb,o,none⟩) 1 c)/\wz.cell? ⟨kb,o,none⟩=some (ptr u) from⟨(hz.cell (p:=⟨b,3,none⟩) hlt).trans c3,(hz.cell (p:=⟨kb,o,none⟩) hkb).trans ck⟩);clear hk;go_enter Tryz.func30,Tryz.ntmps30;go_wp2_with fail
 go_region_with (go_at_call 30;refine(HK.out _ (by repeat (first|with_reducible exact zaB|with_reducible refine zbE ?_|with_reducible refine zbG ?_ (by simp) _))).mono ?_;rintro e w2 ⟨rfl,hb2⟩;have TD:=hid (show Below w.heap.size w w2 by refine Below.trans (b:=_) ?_ (hb2.mono (by simp));repeat (first|with_reducible exact zaB|with_reducible refine zbE ?_|with_reducible refine zbG ?_ (by simp) _));have hc:=(bcell hb2).1;clear hb2)
 all_goals go_wp2_with fail
 all_goals go_ret
 all_goals first|exact⟨aX HO.out,TD.out⟩|exact⟨aX HO.out,TD.out.alloc TD.out.size _⟩
theorem lb_list (kb:Nat) (kv:Value) (bs:List Nat) (ps:List (List UInt8)) (hlt:b<w.heap.size) (hs:0<KD.size) (e0:∀ h,(KD[0]'h).toNat=91) (c0:w.cell? ⟨b,0,none⟩=some (.string KD)) (c3:w.cell? ⟨b,3,none⟩=some kv) (hrow:aI w kb kv (bs.map ptr)) (hl:bs.length=ps.length) (hn:ps.length<=1000) (hsz:ps.flatten.length<=2000000)
  (hk:∀ i (h1:i<bs.length) (h2:i<ps.length) wz,Below w.heap.size w wz->Calls Tryz.prog 30 #[ptr bs[i]] wz fun e w'=>e=.returned (tx ps[i])/\Below wz.heap.size wz w') :
  Calls Tryz.prog 30 #[ptr b] w fun e w'=>e=.returned (tx (Wf.putN ps.length++ps.flatten))/\Below w.heap.size w w':=by
 obtain⟨a,c,rfl,hnc,hcm⟩:=hrow.form;obtain⟨m,hm⟩:∃ m,(bs.map ptr).length=m:=⟨_,rfl⟩;have hbm:bs.length=m:=by rw[<-hm,zaG]
 have hpm:ps.length=m:=by omega
 have hm6:m<=1000:=by omega
 rw[hpm];obtain⟨B,hB⟩:∃ B:ByteArray,(⟨(Wf.putN m).toArray⟩:ByteArray)=B:=⟨_,rfl⟩;have hBs:B.size<=3:=by rw[<-hB];exact(Wf.bH m (by omega)).2
 have HBL:=hid (show B.data.toList=Wf.putN m by rw[<-hB]);have HP:=hid fun wz=>l1Put m (by omega) wz;simp only[tx,hB] at HP;have HBM:=hid hbm;have HPM:=hid hpm;have HMM:=hid hm;rw[hm] at c3 hrow hnc;have HROW:=hid hrow;have HK:=hid hk;have HSZ:=hid hsz;have HFT:=hid fun(i:Nat) (hi:i<ps.length)=>(show(ps.take (i+1)).flatten=(ps.take i).flatten++ps[i] by
  have e:ps.take (i+1)=ps.take i++[ps[i]]:=by rw[List.take_add_one,zaV hi];rfl
  rw[e,List.flatten_append,List.flatten_cons,List.flatten_nil,List.append_nil])
 have HFL:=hid fun(i:Nat)=>(show(ps.take i).flatten.length<=2000000 by
  refine zaI ?_ hsz;conv=>rhs;rw[<-List.take_append_drop i ps,List.flatten_append,zaD]
  omega)
 unfold maxLen at hcm;clear hrow hk hl hsz hm hbm hpm hB;go_enter Tryz.func30,Tryz.ntmps30;go_wp2_with (go_at_call 53;refine(HP.out _).mono ?_;rintro e w2 ⟨rfl,hb2⟩;have HB2:=hid hb2;clear hb2)
 go_loopw [5,6] (fun s5 s6 wr=>∃ (i:Nat) (S:ByteArray),s5=.string S/\s6=.int .i64 i/\i<=m/\S.size<=2000003/\Hid (S.data.toList=Wf.putN m++(ps.take i).flatten/\Below w.heap.size w wr)) (fun _ s6 _=>m-(RowKit.intOf s6).toNat)
 case atStart=>exact⟨0,B,rfl,rfl,Nat.zero_le _,by omega,hid ⟨by rw[HBL.out];simp,HB2.out⟩⟩
 case round =>
  obtain⟨i,S,rfl,rfl,hi,hS,hh⟩:=hrel;have hbw:b<wr.heap.size:=zaC hlt hh.out.2.size;have y3:=(hh.out.2.cell (p:=⟨b,3,none⟩) hlt).trans c3;by_cases hlt2:i<m
  ·have hib:i<bs.length:=by rw[HBM.out];exact hlt2
   have hip:i<ps.length:=(by rw[HPM.out];exact hlt2);obtain⟨o,rfl,hkb,_,_,ck⟩:=HROW.out.get (i:=i) (by rw[HMM.out];exact hlt2);rw[zaR] at ck;obtain⟨u,hu⟩:∃ u,bs[i]=u:=⟨_,rfl⟩;obtain⟨T,hT⟩:∃ T:ByteArray,(⟨(ps[i]).toArray⟩:ByteArray)=T:=⟨_,rfl⟩;rw[hu] at ck;have hkw:kb<wr.heap.size:=zaC hkb hh.out.2.size;have yk:=(hh.out.2.cell (p:=⟨kb,o+i,none⟩) hkb).trans ck;have HC:=hid (show Calls Tryz.prog 30 #[ptr u] wr fun e w'=>e=.returned (.string T)/\Below wr.heap.size wr w' by
    have:=HK.out i hib hip wr hh.out.2;rw[hu] at this;simp only[tx,hT] at this;exact this)
   have hft:=HFT.out i hip;have hfl:=HFL.out (i+1);have hpl:(Wf.putN m).length<=3:=(Wf.bH m (by omega)).2;have HE:=hid (show(S++T).data.toList=Wf.putN m++(ps.take (i+1)).flatten by
    rw[hft,zaU,zaW,hh.out.1,<-hT,zaT])
   have hST:(S++T).size<=2000003:=by
    rw[<-aC,HE.out,zaD];omega
   have hTs:S.size+T.size<=2000003:=(by rw[<-zaO];exact hST);clear hu hT ck hft hfl;go_wp2_with (go_at_call 30;refine HC.out.mono ?_;rintro e w2 ⟨rfl,hb2⟩;have HB3:=hid hb2;clear hb2)
   go_roundw
   case rel=>exact⟨i+1,S++T,by rfl,by go_num,by omega,hST,hid ⟨HE.out,hh.out.2.trans (HB3.out.mono hh.out.2.size)⟩⟩
   case measure=>simp[RowKit.intOf];omega
  ·have him:i=m:=by omega
   subst him;have HE:=hid (show S=⟨(Wf.putN i++ps.flatten).toArray⟩ by
    rw[aS,hh.out.1,zaS (by rw[HPM.out];exact zaA)])
   go_wp2_with fail
   go_ret
   exact⟨aX HE.out,hh.out.2⟩
theorem lb_named (T O:ByteArray) (y:Bool) (hy:(T.toList==[82])=y) (tb kb:Nat) (tv kv:Value) (gs bs:List Nat) (ps Q:List (List UInt8)) (hlt:b<w.heap.size) (hs:0<KD.size) (e0:∀ h,(KD[0]'h).toNat=64) (c0:w.cell? ⟨b,0,none⟩=some (.string KD)) (c1:w.cell? ⟨b,1,none⟩=some (.string T)) (c2:w.cell? ⟨b,2,none⟩=some tv) (c3:w.cell? ⟨b,3,none⟩=some kv) (hrt:aI w tb tv (gs.map ix)) (hrow:aI w kb kv (bs.map ptr)) (hlp:bs.length=ps.length) (hgl:Q.length=gs.length) (hn:gs.length<=1000)
  (hg:∀ g∈gs,g<=999999) (hsz:Q.flatten.length<=2000000) (hO:O.data.toList=Q.flatten++(if y then [0] else []))
  (hQ:∀ i (h1:i<Q.length) (h2:i<gs.length),(∃ h3:i<ps.length,ps[i].length<=999999/\Q[i]=Wf.putN gs[i]++(Wf.putN ps[i].length++ps[i]))\/(ps.length<=i/\Q[i]=Wf.putN gs[i]))
  (hk:∀ i (h1:i<bs.length) (h2:i<ps.length) wz,Below w.heap.size w wz->Calls Tryz.prog 30 #[ptr bs[i]] wz fun e w'=>e=.returned (tx ps[i])/\Below wz.heap.size wz w') :
  Calls Tryz.prog 30 #[ptr b] w fun e w'=>e=.returned (.string O)/\Below w.heap.size w w':=by
 obtain⟨a,c,rfl,hnc,hcm⟩:=hrow.form;obtain⟨ta,tc,rfl,htc,htm⟩:=hrt.form;obtain⟨k,hkk⟩:∃ k,(bs.map ptr).length=k:=⟨_,rfl⟩;obtain⟨m,hm⟩:∃ m,(gs.map ix).length=m:=⟨_,rfl⟩;have hbk:bs.length=k:=by rw[<-hkk,zaG]
 have hpk:ps.length=k:=by omega
 have hgm:gs.length=m:=by rw[<-hm,zaG]
 have hqm:Q.length=m:=by omega
 have hm6:m<=1000:=by omega
 have HKK:=hid hkk;have HMM:=hid hm;have HBK:=hid hbk;have HPK:=hid hpk;have HGM:=hid hgm;have HQM:=hid hqm;rw[hkk] at c3 hrow hnc;rw[hm] at c2 hrt htc;have HROW:=hid hrow;have HRT:=hid hrt;have HK:=hid hk;have HG:=hid hg;have HQ:=hid hQ;have HO:=hid hO;have HFT:=hid fun(i:Nat) (hi:i<Q.length)=>(show(Q.take (i+1)).flatten=(Q.take i).flatten++Q[i] by
  have e:Q.take (i+1)=Q.take i++[Q[i]]:=by rw[List.take_add_one,zaV hi];rfl
  rw[e,List.flatten_append,List.flatten_cons,List.flatten_nil,List.append_nil])
 have HFL:=hid fun(i:Nat)=>(show(Q.take i).flatten.length<=2000000 by
  refine zaI ?_ hsz;conv=>rhs;rw[<-List.take_append_drop i Q,List.flatten_append,zaD]
  omega)
 have hcv:=run_convert_lit (P:=Tryz.prog) 22 9 5 Tryz.underlying22 Tryz.underlying5 Tryz.underlying9;have HCV:=hid hcv;unfold maxLen at hcm htm;clear hrow hk hlp hsz hm hkk hbk hpk hrt hg hgm hqm hQ hgl hO hcv;go_enter Tryz.func30,Tryz.ntmps30;go_wp2_with fail
 go_loopw [7,8] (fun s7 s8 wr=>∃ (i:Nat) (S:ByteArray),s7=.string S/\s8=.int .i64 i/\i<=m/\S.size<=2000000/\Hid (S.data.toList=(Q.take i).flatten/\Below w.heap.size w wr)) (fun _ s8 _=>m-(RowKit.intOf s8).toNat)
 case atStart=>exact⟨0,⟨#[]⟩,rfl,rfl,Nat.zero_le _,by decide,hid ⟨rfl,zaB⟩⟩
 case round =>
  obtain⟨i,S,rfl,rfl,hi,hS,hh⟩:=hrel;have hbw:b<wr.heap.size:=zaC hlt hh.out.2.size;have y2:=(hh.out.2.cell (p:=⟨b,2,none⟩) hlt).trans c2;by_cases hlt2:i<m
  ·have hig:i<gs.length:=by rw[HGM.out];exact hlt2
   have hiq:i<Q.length:=(by rw[HQM.out];exact hlt2);obtain⟨p,rfl,htb,_,_,ct⟩:=HRT.out.get (i:=i) (by rw[HMM.out];exact hlt2);rw[zaR] at ct;obtain⟨g,hgi⟩:∃ g,gs[i]=g:=⟨_,rfl⟩;have hg6:g<=999999:=(by rw[<-hgi];exact HG.out _ (zaQ hig));rw[hgi] at ct;have hct:ix g=.int .i64 g:=rfl;rw[hct] at ct;have htw:tb<wr.heap.size:=zaC htb hh.out.2.size;have yt:=(hh.out.2.cell (p:=⟨tb,p+i,none⟩) htb).trans ct;have HD:=hid fun wz=>l1Put g hg6 wz;obtain⟨D,hD⟩:∃ D:ByteArray,(⟨(Wf.putN g).toArray⟩:ByteArray)=D:=⟨_,rfl⟩;have hDl:D.data.toList=Wf.putN g:=(by rw[<-hD]);have hDs:D.size<=3:=(by rw[<-hD];exact(Wf.bH g hg6).2);simp only[tx,hD] at HD;have hft:=HFT.out i hiq;have hfl:=HFL.out (i+1);have a1:=fun wz=>zbH (P:=Tryz.prog) (w:=wz) S D (by omega);have n1:(0:Int)<=(i:Int):=(by omega);have n2:(i:Int)<(m:Int):=(by omega);have hq:=HQ.out i hiq hig;rw[hgi] at hq;clear hct ct hgi hD;rcases hq with⟨hip,hpl,hqe⟩|⟨hip,hqe⟩
   ·have hik:i<k:=by rw[<-HPK.out];exact hip
    have hib:i<bs.length:=(by rw[HBK.out];exact hik);have n3:(i:Int)<(k:Int):=(by omega);have y3:=(hh.out.2.cell (p:=⟨b,3,none⟩) hlt).trans c3;obtain⟨o,rfl,hkb,_,_,ck⟩:=HROW.out.get (i:=i) (by rw[HKK.out];exact hik);rw[zaR] at ck;obtain⟨u,hu⟩:∃ u,bs[i]=u:=⟨_,rfl⟩;obtain⟨X,hX⟩:∃ X:ByteArray,(⟨(ps[i]).toArray⟩:ByteArray)=X:=⟨_,rfl⟩;have hXl:X.data.toList=ps[i]:=(by rw[<-hX]);have hXs:X.size=ps[i].length:=(by rw[<-hX];rfl);rw[hu] at ck;have hkw:kb<wr.heap.size:=zaC hkb hh.out.2.size;have yk:=(hh.out.2.cell (p:=⟨kb,o+i,none⟩) hkb).trans ck;have HC:=hid fun(wz:World) (hz:Below wr.heap.size wr wz)=>(show Calls Tryz.prog 30 #[ptr u] wz fun e w'=>e=.returned (.string X)/\Below wz.heap.size wz w' by
     have:=HK.out i hib hip wz (hh.out.2.trans (hz.mono hh.out.2.size));rw[hu] at this;simp only[tx,hX] at this;exact this)
    have HL:=hid fun wz=>l5Len X (by omega) wz;obtain⟨Z,hZ⟩:∃ Z:ByteArray,(⟨(Wf.putN X.data.toList.length++X.data.toList).toArray⟩:ByteArray)=Z:=⟨_,rfl⟩;have hZl:Z.data.toList=Wf.putN ps[i].length++ps[i]:=(by rw[<-hZ,<-hXl]);simp only[tx,hZ] at HL;have HE:=hid (show(S++D++Z).data.toList=(Q.take (i+1)).flatten by
     rw[hft,hqe,zaU,zaU,zaW,zaW,hh.out.1,hDl,hZl,zaT])
    have hSZ:(S++D++Z).size<=2000000:=(by rw[<-aC,HE.out];exact hfl);have a2:=fun wz=>zbH (P:=Tryz.prog) (w:=wz) (S++D) Z (by rw[<-zaO];omega);clear hu hX ck hZ hZl hXl hXs hft hfl hqe hpl hDl;go_wp2_with (first|(go_at_call 54;have _u:=HB3;refine(HL.out _).mono ?_;rintro e w4 ⟨rfl,hb4⟩;have HB4:=hid (HB3.out.trans (hb4.mono HB3.out.size));clear hb4)|(go_at_call 30;have _u:=HB2;refine(HC.out _ HB2.out).mono ?_;rintro e w3 ⟨rfl,hb3⟩;have HB3:=hid (HB2.out.trans (hb3.mono HB2.out.size));clear hb3)|(go_at_call 53;refine(HD.out _).mono ?_;rintro e w2 ⟨rfl,hb2⟩;have HB2:=hid hb2;have z3:=(hb2.cell (p:=⟨b,3,none⟩) hbw).trans y3;have zk:=(hb2.cell (p:=⟨kb,o+i,none⟩) hkw).trans yk;have zl1:=zaC hbw hb2.size;have zl2:=zaC hkw hb2.size;clear hb2))
    go_roundw
    case rel=>exact⟨i+1,S++D++Z,by rfl,by go_num,by omega,hSZ,hid ⟨HE.out,hh.out.2.trans (HB4.out.mono hh.out.2.size)⟩⟩
    case measure=>simp[RowKit.intOf];omega
   ·have hik:k<=i:=by rw[<-HPK.out];exact hip
    have n3:¬ (i:Int)<(k:Int):=(by omega);have y3:=(hh.out.2.cell (p:=⟨b,3,none⟩) hlt).trans c3;have HE:=hid (show(S++D).data.toList=(Q.take (i+1)).flatten by
     rw[hft,hqe,zaU,zaW,hh.out.1,hDl])
    have hSZ:(S++D).size<=2000000:=(by rw[<-aC,HE.out];exact hfl);clear hft hfl hqe hDl;go_wp2_with (go_at_call 53;refine(HD.out _).mono ?_;rintro e w2 ⟨rfl,hb2⟩;have HB2:=hid hb2;have z3:=(hb2.cell (p:=⟨b,3,none⟩) hbw).trans y3;have zl1:=zaC hbw hb2.size;clear hb2)
    go_roundw
    case rel=>exact⟨i+1,S++D,by rfl,by go_num,by omega,hSZ,hid ⟨HE.out,hh.out.2.trans (HB2.out.mono hh.out.2.size)⟩⟩
    case measure=>simp[RowKit.intOf];omega
  ·have him:i=m:=by omega
   subst him;have y1:=(hh.out.2.cell (p:=⟨b,1,none⟩) hlt).trans c1;have hSl:=hh.out.1;rw[zaS (by rw[HQM.out];exact zaA)] at hSl;have hcv:=HCV.out;cases y with
   | true =>
    have HE:=hid (show S++(⟨#[0]⟩:ByteArray)=O from by
     have h1:(S++(⟨#[0]⟩:ByteArray)).data.toList=O.data.toList:=by
      rw[HO.out,if_pos rfl,zaU,zaW,hSl]
     rw[cU _ _ h1])
    clear hSl;go_wp2_with fail
    go_ret
    exact⟨aX HE.out,hh.out.2.alloc hh.out.2.size _⟩
   | false =>
    have HE:=hid (show S=O from by
     have h1:S.data.toList=O.data.toList:=(by rw[HO.out,if_neg (by simp),List.append_nil,hSl]);rw[cU _ _ h1])
    clear hSl hcv;go_wp2_with fail
    go_ret
    exact⟨aX HE.out,hh.out.2⟩
end

theorem flat_kid {l:List Wf.V} {v:Wf.V} (h:v∈l):v.print.length<=(Wf.commas (l.map Wf.V.print)).length:=Wf.cV (List.mem_map.2 ⟨v,h,rfl⟩)
theorem lbytes {x:Wf.Sc}:∀ (n:Nat) (k:Wf.K) (v:Wf.V),Wf.Typed x n k v->∀ (P:Nat->Prop) (b:Nat) (W w:World),LV W P v b->Below W.heap.size W w->v.print.length<=10000->Calls Tryz.prog 30 #[ptr b] w fun e w'=>e=.returned (tx v.bytes)/\Below w.heap.size w w':=by
 intro n;induction n with
 | zero=>intro k v h;exact h.elim
 | succ n ih =>
  intro k v h P b W w hL hW hlen;have hbl:=Wf.eC (n+1) k v h (by omega);obtain⟨hlt,kd,t,tv,kv,tb,kb,bs,c0,c1,c2,c3,r1,r2,hs,hk⟩:=hL.at (Wf.oK h) hW;cases k with
  | num =>
   obtain⟨m,hm,rfl⟩:=h;simp only[Wf.V.what,Wf.V.text,aZ] at hs;obtain⟨h1,h2⟩:=bC hs.1;rw[Wf.kE];exact lb_num b ⟨kd.toArray⟩ w ⟨t.toArray⟩ m hm hs.2 hlt h1 h2 c0 c1
  | txt =>
   obtain⟨d,_,hd,rfl⟩:=h;simp only[Wf.V.what,Wf.V.text,aZ] at hs;obtain⟨h1,h2⟩:=bC hs.1;rw[Wf.iU];exact lb_txt b ⟨kd.toArray⟩ w ⟨t.toArray⟩ ⟨d.toArray⟩ hs.2 hd hlt h1 h2 c0 c1
  | flag =>
   rcases h with rfl|rfl;all_goals simp only[Wf.V.what,Wf.V.text,aZ] at hs
   all_goals obtain⟨h1,h2⟩:=bC hs.1
   ·rw[Wf.jF]
    exact lb_flag b ⟨kd.toArray⟩ w true hlt h1 h2 c0 (by rw[c1];congr 1;rw[hs.2];rfl)
   ·rw[Wf.jP]
    exact lb_flag b ⟨kd.toArray⟩ w false hlt h1 h2 c0 (by rw[c1];congr 1;rw[hs.2];rfl)
  | list k =>
   obtain⟨l,h20,hl,rfl⟩:=h;simp only[Wf.V.what,Wf.V.text,Wf.V.kids,aZ] at hs hk;obtain⟨h1,h2⟩:=bC hs.1;rw[Wf.dD] at hlen;rw[Wf.dD,Wf.hJ] at hbl;have hcl:(Wf.commas (l.map Wf.V.print)).length<=10000:=(by simp at hlen;omega);have:=lb_list b ⟨kd.toArray⟩ w kb kv bs (l.map Wf.V.bytes) hlt h1 h2 c0 c3 r2 (by rw[hk.len,zaG]) (by rw[zaG];omega) (by simp only[zaD,zaF,zaM] at hbl hlen;omega) fun i g1 g2 wz hz=>by
    have g3:i<l.length:=(by simpa using g2);rw[zaR];exact ih k l[i] (hl _ (zaQ g3)) P bs[i] W wz (hk.get i g3 g1) (hW.trans (hz.mono hW.size)) (zaI (flat_kid (zaQ g3)) hcl)
   rw[Wf.hJ];rw[zaG] at this;exact this
  | opt k =>
   rcases h with rfl|⟨u,hu,rfl⟩
   ·simp only[Wf.V.what,Wf.V.text,Wf.V.kids,aZ] at hs hk
    obtain⟨h1,h2⟩:=bC hs.1;obtain rfl:=hk.none;obtain⟨a,c,rfl,_,_⟩:=r2.form;rw[Wf.jE];exact lb_none b ⟨kd.toArray⟩ w c a hlt h1 h2 c0 c3
   ·simp only[Wf.V.what,Wf.V.text,Wf.V.kids,aZ] at hs hk
    obtain⟨h1,h2⟩:=bC hs.1;obtain⟨ub,rfl,hu2⟩:=hk.one;obtain⟨a,c,rfl,hnc,hcm⟩:=r2.form;obtain⟨o,rfl,hkb,_,_,ck⟩:=r2.get (i:=0) (by simp);rw[Wf.dA] at hlen;rw[Wf.dA,Wf.iG] at hbl;simp only[zaF] at hlen hbl;rw[Wf.iG];exact lb_some b ⟨kd.toArray⟩ w kb o ub c ⟨u.bytes.toArray⟩ hlt h1 h2 c0 c3 hkb ck hnc hcm (by show u.bytes.length<=_;omega) fun wz hz=>ih k u hu P ub W wz hu2 (hW.trans (hz.mono hW.size)) (by omega)
  | ref nm =>
   obtain⟨ty,hty,h⟩:=h;rcases h with⟨_,f,hf,hf2,rfl⟩|⟨_,_,f,u,hf,hf2,hu,rfl⟩|⟨_,_,l,hasc,hl,rfl⟩
   ·simp only[Wf.V.what,Wf.V.text,Wf.V.kids,Wf.V.tag,aZ] at hs hk r1
    obtain⟨h1,h2⟩:=bC hs.1;have htl:t=[69]:=hs.2;subst htl;obtain rfl:=hk.none;rw[Wf.jN];have r1':aI w tb tv ([f.tag].map ix):=(by simpa[bG] using r1);refine lb_named b ⟨kd.toArray⟩ w ⟨[69].toArray⟩ ⟨(Wf.putN f.tag).toArray⟩ false (by rw[zaZ];rfl) tb kb tv kv [f.tag] [] [] [Wf.putN f.tag] hlt h1 h2 c0 c1 c2 c3 r1' r2 rfl rfl (by simp) (by simp;omega) ?_ (by simp) ?_ ?_
    ·have:=(Wf.bH f.tag (by omega)).2;simp;omega
    ·intro i h1 h2
     obtain rfl:i=0:=by simp at h1;omega
     exact .inr ⟨by simp,rfl⟩
    ·intro i h1;simp at h1
   ·simp only[Wf.V.what,Wf.V.text,Wf.V.kids,Wf.V.tag,aZ] at hs hk r1
    obtain⟨h1,h2⟩:=bC hs.1;have htl:t=[85]:=hs.2;subst htl;obtain⟨ub,rfl,hu2⟩:=hk.one;rw[Wf.dH] at hlen;rw[Wf.iX] at hbl ⊢;have hul:u.print.length<=10000:=(by simp only[zaD,zaF,zaM] at hlen;omega);have hub:=Wf.eC n f.kind u hu (by omega);have r1':aI w tb tv ([f.tag].map ix):=(by simpa[bG] using r1);refine lb_named b ⟨kd.toArray⟩ w ⟨[85].toArray⟩ ⟨(Wf.putN f.tag++(Wf.putN u.bytes.length++u.bytes)).toArray⟩ false (by rw[zaZ];rfl) tb kb tv kv [f.tag] [ub] [u.bytes] [Wf.putN f.tag++(Wf.putN u.bytes.length++u.bytes)] hlt h1 h2 c0 c1 c2 c3 r1' r2 rfl rfl (by simp) (by simp;omega) ?_ (by simp) ?_ ?_
    ·have:=(Wf.bH f.tag (by omega)).2
     have:=(Wf.bH u.bytes.length (by omega)).2;simp only[List.flatten_cons,List.flatten_nil,List.append_nil,zaD];omega
    ·intro i h1 h2
     obtain rfl:i=0:=by simp at h1;omega
     exact .inl ⟨by simp,by show u.bytes.length<=_;omega,rfl⟩
    ·intro i h1 h2 wz hz
     obtain rfl:i=0:=by simp at h1;omega
     exact ih f.kind u hu P ub W wz hu2 (hW.trans (hz.mono hW.size)) hul
   ·simp only[Wf.V.what,Wf.V.text,Wf.V.kids,Wf.V.tag,aZ] at hs hk r1
    obtain⟨h1,h2⟩:=bC hs.1;have htl:t=[82]:=hs.2;subst htl;rw[mP] at r1;have hk2:=hk.fields;have hbs:bs.length=l.length:=(by rw[hk2.len,zaG]);rw[Wf.cN] at hlen;rw[Wf.iC] at hbl ⊢;have hcl:(Wf.commas ((l.map fun e=>Wf.V.mk 61 [] e.1.tag [e.2]).map Wf.V.print)).length<=10000:=(by simp only[zaF,zaD,zaM] at hlen;omega);have hpr:∀ e∈l,e.2.print.length<=10000:=fun e he=>by
     have h3:=Wf.cV (l:=(l.map fun e=>Wf.V.mk 61 [] e.1.tag [e.2]).map Wf.V.print) (a:=(Wf.V.mk 61 [] e.1.tag [e.2]).print) (List.mem_map.2 ⟨_,List.mem_map.2 ⟨e,he,rfl⟩,rfl⟩);rw[Wf.dO] at h3;simp only[zaD,zaF] at h3;omega
    have hll:l.length<=1000:=by
     have:=(Wf.typed_bok (n+1) (.ref nm) _ ⟨ty,hty,.inr (.inr ⟨‹_›,‹_›,l,hasc,hl,rfl⟩)⟩);cases this with
     | mk _ _ _ _ _ h6 _ _=>simpa using h6
    refine lb_named b ⟨kd.toArray⟩ w ⟨[82].toArray⟩ ⟨(((l.map fun(e:Wf.Fd × Wf.V)=>Wf.V.mk 61 [] e.1.tag [e.2]).map Wf.V.bytes).flatten++[0]).toArray⟩ true (by rw[zaZ];rfl) tb kb tv kv (l.map fun e=>e.1.tag) bs (l.map fun e=>e.2.bytes) ((l.map fun e=>Wf.V.mk 61 [] e.1.tag [e.2]).map Wf.V.bytes) hlt h1 h2 c0 c1 c2 c3 r1 r2 (by rw[zaG,hbs]) (by simp) (by simpa using hll) (fun g hg=>?_) ?_ rfl ?_ ?_
    ·obtain⟨e,he,rfl⟩:=List.mem_map.1 hg
     have:=(hl e he).2.2.1;omega
    ·rw[zaD] at hbl
     have hpl:(Wf.V.mk 82 [] 0 (l.map fun(e:Wf.Fd × Wf.V)=>Wf.V.mk 61 [] e.1.tag [e.2])).print.length<=10000:=(by rw[Wf.cN];exact hlen);omega
    ·intro i g1 g2
     have g3:i<l.length:=(by simpa using g2);have he:=zaQ g3;have:=Wf.eC n _ _ (hl _ he).2.2.2.1 (by have:=hpr _ he;omega);have:=hpr _ he;refine .inl ⟨by simpa using g3,by simp only[zaR];omega,?_⟩;simp only[zaR];exact Wf.gH _ _
    ·intro i g1 g2 wz hz
     have g3:i<l.length:=(by simpa using g2);have g4:i<(l.map (·.2)).length:=(by simpa using g3);have hv:=hk2.get i g4 g1;rw[zaR] at hv;rw[zaR];exact ih (l[i]).1.kind (l[i]).2 (hl _ (zaQ g3)).2.2.2.1 P bs[i] W wz hv (hW.trans (hz.mono hW.size)) (hpr _ (zaQ g3))

theorem bytesPut_s (s kt v:ByteArray) (w:World) (hs:s.size<=1048576) (hv:v.size<=1048576):Calls Tryz.prog 12 #[.string s,.string kt,.string v] w fun e w'=>e=.returned (vfV (bytesVal s.data.toList kt.data.toList v.data.toList))/\Below w.heap.size w w':=by
 have HG:=hid (l4Of s kt v w hs hv);cases hvo:valOf s.data.toList kt.data.toList v.data.toList with
 | none =>
  have HD:=hid (show vfV (bytesVal s.data.toList kt.data.toList v.data.toList)=.tuple #[.string ⟨#[]⟩,.bool false] by unfold bytesVal;rw[hvo];rfl);have HO:=hid fun(e:Ending) (w':World) (h:cG s.data.toList kt.data.toList v.data.toList w.heap.size e w')=>(by unfold cG at h;rw[hvo] at h;exact h:∃ a n c p,e=.returned (.tuple #[.slice a n c,.pointer p,.bool false]));clear hvo;go_enter Tryz.func12,Tryz.ntmps12;go_wp2_with (go_at_call 29;refine HG.out.mono ?_;rintro e w2 ⟨ho,hb2⟩;obtain⟨a,n,c,p,rfl⟩:=HO.out _ _ ho;have HB2:=hid hb2;clear ho hb2)
  go_ret2
  exact⟨by rw[HD.out];rfl,HB2.out⟩
 | some y =>
  obtain⟨⟨x,k⟩,u⟩:=y;obtain⟨_,hvi⟩:=fU hvo;obtain⟨hty,hsv,hlv⟩:=Wf.gT hvi;have hbv:bytesVal s.data.toList kt.data.toList v.data.toList=some u.bytes:=by unfold bytesVal;rw[hvo];rfl
  have hl:=bytesVal_len hbv;obtain⟨R,hR⟩:∃ R:ByteArray,(⟨u.bytes.toArray⟩:ByteArray)=R:=⟨_,rfl⟩;have hRs:R.size<=400:=by rw[<-hR];exact hl
  have HD:=hid (show vfV (bytesVal s.data.toList kt.data.toList v.data.toList)=.tuple #[.string R,.bool true] by rw[hbv,<-hR];rfl);have HBY:=hid fun(pb:Nat) (W wz:World) (hlv:LV W (fun z=>w.heap.size<=z) u pb) (hz:Below W.heap.size W wz)=>lbytes 12 k u hty _ pb W wz hlv hz (by rw[<-hsv];omega);simp only[tx,hR] at HBY;have HO:=hid fun(e:Ending) (w':World) (h:cG s.data.toList kt.data.toList v.data.toList w.heap.size e w')=>(by unfold cG at h;rw[hvo] at h;exact h:∃ b a c p,e=.returned (.tuple #[.slice a x.length c,ptr p,.bool true])/\ScSp w' w.heap.size b (.slice a x.length c) x/\LV w' (fun z=>w.heap.size<=z) u p);clear hvo hvi hty hbv hl hR hsv;go_enter Tryz.func12,Tryz.ntmps12;go_wp2_with (first|(go_at_call 30;have _u:=B3;refine(HBY.out _ w2 _ HLV.out HB23.out).mono ?_;rintro e w4 ⟨rfl,hb4⟩;have B4:=hid (aE B3.out hb4);clear hb4)|(go_at_call 30;refine(HBY.out _ w2 _ HLV.out (zaB)).mono ?_;rintro e w3 ⟨rfl,hb3⟩;have HB23:=hid hb3;have B3:=hid (aE HB2.out hb3);clear hb3)|(go_at_call 29;refine HG.out.mono ?_;rintro e w2 ⟨ho,hb2⟩;obtain⟨b,a,c,p,rfl,_,hlv⟩:=HO.out _ _ ho;have HLV:=hid hlv;have HB2:=hid hb2;clear ho hb2 hlv))
  go_ret2
  exact⟨by rw[HD.out];rfl,B4.out⟩

theorem cE.form {l kt:List UInt8} {lo:Nat} {e:Ending} {w':World} (h:cE l kt lo e w'):∃ a n c b,e=.returned (.tuple #[.slice a n c,.bool b]):=by
 unfold cE at h;cases hk:aU l kt with
 | none=>rw[hk] at h;obtain⟨a,n,c,rfl⟩:=h;exact⟨_,_,_,_,rfl⟩
 | some y=>rw[hk] at h;obtain⟨b,a,c,rfl,_⟩:=h;exact⟨_,_,_,_,rfl⟩
theorem a0B (rb k:Nat) (w:World) (H:Rd w rb k) (hk:k<=900000) :
  Calls Tryz.prog 103 #[.pointer (some ⟨rb,0,none⟩)] w fun e w'=>∃ b:List UInt8,e=.returned (tx (39::(b++[39])))/\b.all Wf.aG=true/\b.length<=12/\Rd w' rb (k+1)/\aA rb w w':=by
 have R0:=H.lt;go_enter Tryz.func103,Tryz.ntmps103;go_wp2_with (go_at_call 62;refine(pick rb k 6 _ (H.alloc _) (by omega) (by omega)).mono ?_;rintro e w3 ⟨n,rfl,hn,_,hR3,hBs3⟩;obtain⟨hn0,hn1⟩:=hn (by omega);obtain⟨x,hx0,hx1,hxc⟩:=cM 12 [[],[97],[104,105],[97,32,98],[122,122,57],[97,98,99,100,101,102,103,104,105,106,107,108]] hBs3 R0 n hn0 hn1 (by decide);have B3:=Lib.hid (((aA.refl rb w).alloc _).trans hBs3);clear hBs3)
 have hall:=List.all_eq_true.1 (show([[],[97],[104,105],[97,32,98],[122,122,57],[97,98,99,100,101,102,103,104,105,106,107,108]]:List (List UInt8)).all (fun b=>b.all Wf.aG&&decide (b.length<=12))=true by decide) _ hx1;rw[Bool.and_eq_true,decide_eq_true_eq] at hall;go_ret
 refine⟨x.data.toList,?_,hall.1,hall.2,hR3,B3.out⟩;refine congrArg (fun s=>Ending.returned (Value.string s)) ?_;rw[aS];simp[zaU]
theorem a4L (rb k:Nat) (s:ByteArray) (hs:s.size<=1048576) (w:World) (H:Rd w rb k) (hk:k<=800000) :
  Calls Tryz.prog 38 #[.pointer (some ⟨rb,0,none⟩),.string s] w fun e w'=>∃ K:ByteArray,e=.returned (.string K)/\K.size<=100/\Rd w' rb (k+10)/\aA rb w w':=by
 have R0:=H.lt;have HK:=hid fun(kt:ByteArray) (wz:World)=>lJ s kt wz hs;go_enter Tryz.func38,Tryz.ntmps38;go_wp2_with (first|(go_at_call 50;refine(HK.out x _).mono ?_;rintro e w4 ⟨ho,hb4⟩;obtain⟨a,n,c,b,rfl⟩:=ho.form;have R4:=hid (hR3.below hb4 hR3.lt);have B4:=hid (B3.out.trans (aA.aF hb4 (zaA)));clear ho hb4;cases b)|(go_at_call 64;refine(sN rb (k+1) _ hR2 (by omega)).mono ?_;rintro e w3 ⟨K,rfl,hK,hR4,hBs4⟩;have B5:=hid (B2.out.trans hBs4);clear hBs4)|(go_at_call 62;have _u:=hR2;refine(pick rb (k+1) 11 _ (hR2.alloc _) (by omega) (by omega)).mono ?_;rintro e w3 ⟨n,rfl,hn,_,hR3,hBs3⟩;obtain⟨hn0,hn1⟩:=hn (by omega);obtain⟨x,hx0,hx1,hxc⟩:=cM 4 [[64,97,59],[64,97,59],[64,97,59],[64,98,59],[64,99,59],[91,110],[63,64,97,59],[110],[116],[91,64,98,59],[63,91,102]] hBs3 hR2.lt n hn0 hn1 (by decide);have B3:=Lib.hid ((B2.out.alloc _).trans hBs3);clear hBs3)|(go_at_call 62;refine(pick rb k 30 _ H (by omega) (by omega)).mono ?_;rintro e w2 ⟨v,rfl,hv,_,hR2,hBs⟩;obtain⟨hv0,hv1⟩:=hv (by omega);have B2:=Lib.hid hBs;clear hBs hv;rcases(Bool.eq_false_or_eq_true (v==(0:Int))) with hq|hq))
 all_goals go_ret
 all_goals first|exact⟨K,rfl,by omega,hR4.mono (by omega),B5.out⟩|exact⟨_,rfl,by decide,R4.out.mono (by omega),B4.out⟩|exact⟨x,rfl,by omega,R4.out.mono (by omega),B4.out⟩

def DrV (x:Wf.Sc) (v:Value) (rb lo bsc:Nat) (d:Int) (k:Wf.K) (C B N:Nat):Prop:=∀ (w:World) (k0:Nat),Rd w rb k0->k0+C<=900000->ScSp w lo bsc v x->rb<lo->Calls Tryz.prog 65 #[.pointer (some ⟨rb,0,none⟩),v,tx k.text,.int .i64 d] w fun e w'=>∃ (u:Wf.V) (p:Nat),e=.returned (ptr p)/\Wf.Typed x N k u/\u.print.length<=B/\LV w' (fun z=>w.heap.size<=z) u p/\Rd w' rb (k0+C)/\aA rb w w'
theorem DrV.mono {x:Wf.Sc} {v:Value} {rb lo bsc:Nat} {d:Int} {k:Wf.K} {C B N C' B' N':Nat} (h:DrV x v rb lo bsc d k C B N) (hC:C<=C') (hB:B<=B') (hN:N<=N'):DrV x v rb lo bsc d k C' B' N':=fun w k0 hr hk hs hl =>
 (h w k0 hr (by omega) hs hl).mono fun e w' ⟨u,p,h1,h2,h3,h4,h5,h6⟩=>⟨u,p,h1,Wf.iD _ _ _ h2 _ hN,by omega,h4,h5.mono (by omega),h6⟩
abbrev vNew (KT:ByteArray):Obj:=.cells #[.string KT,.string ⟨#[]⟩,.slice none 0 0,.slice none 0 0] 103
theorem eP {w w3:World} {rb:Nat} {KT:ByteArray} (hr:rb<w.heap.size) (hb:aA rb (w.alloc (vNew KT)) w3):w.heap.size<w3.heap.size/\w3.cell? ⟨w.heap.size,0,none⟩=some (.string KT)/\w3.cell? ⟨w.heap.size,1,none⟩=some (.string ⟨#[]⟩)/\w3.cell? ⟨w.heap.size,2,none⟩=some (.slice none 0 0)/\w3.cell? ⟨w.heap.size,3,none⟩=some (.slice none 0 0)/\w3.frozen? ⟨w.heap.size,1,none⟩=false/\w3.frozen? ⟨w.heap.size,2,none⟩=false/\w3.frozen? ⟨w.heap.size,3,none⟩=false:=by
 have hlt:w.heap.size<(w.alloc (vNew KT)).heap.size:=by simp
 have hne:w.heap.size≠rb:=by omega
 have hblk:=hb.block w.heap.size hlt hne;have cd:=fun o=>zbJ (w:=w.alloc (vNew KT)) (w':=w3) (a:=⟨w.heap.size,o,none⟩) hblk;have cf:=fun o=>World.frozen?_of_block (w:=w.alloc (vNew KT)) (w':=w3) (a:=⟨w.heap.size,o,none⟩) hblk;refine⟨zaC hlt hb.size,(cd 0).trans ?_,(cd 1).trans ?_,(cd 2).trans ?_,(cd 3).trans ?_,(cf 1).trans ?_,(cf 2).trans ?_,(cf 3).trans ?_⟩ <;> simp[vNew,go_sem]
theorem LV.leaf {w w3:World} {rb:Nat} {KT X:ByteArray} {what:UInt8} {text:List UInt8} (hr:rb<w.heap.size) (hb:aA rb (w.alloc (vNew KT)) w3) (hs:aZ what text KT.data.toList X.data.toList) (h61:what≠61) (ht:bG what 0 []=[]):LV (w3.setCell ⟨w.heap.size,1,none⟩ (.string X)) (fun z=>w.heap.size<=z) (.mk what text 0 []) w.heap.size:=by
 obtain⟨hlt,c0,c1,c2,c3,_,_,_⟩:=eP hr hb;refine LV.mk (kd:=KT.data.toList) (t:=X.data.toList) (bs:=[]) (tb:=0) (kb:=0) (tv:=.slice none 0 0) (kv:=.slice none 0 0) h61 (zaA) (by simpa using hlt) ((zbA w3 _ _ _ (by simp)).trans c0) (zbC w3 _ _ c1) ((zbA w3 _ _ _ (by simp)).trans c2) ((zbA w3 _ _ _ (by simp)).trans c3) (by rw[ht];exact dV _ _) (.inl ht) (dV _ _) (.inl rfl) hs (by simp only[LVs])
theorem mA {rb:Nat} {w w3:World} (h:aA rb w w3) {p:Addr} (hp:w.heap.size<=p.block) (u:Value):aA rb w (w3.setCell p u):=by
 have hb:=(Below.refl w.heap.size w3).setCell hp u;exact⟨hb.os.trans h.os,hb.tape.trans h.tape,hb.output.trans h.output,zaI h.size hb.size,fun k hk hr=>(Below.heap_setCell w3 p u k (by omega)).trans (h.block k hk hr)⟩
theorem yG {w4:World} {a:Addr} {c:Value} {p:Nat} (hp:p<=999999) (hc:c∈[Value.int .i64 0,.int .i64 5,.int .i64 (p:Int),.int .i64 127,.int .i64 128,.int .i64 16383,.int .i64 16384,.int .i64 999999]) (hcc:w4.cell? a=some c):∃ y:Nat,y<=999999/\w4.cell? a=some (.int .i64 y):=by
 simp only[List.mem_cons,List.not_mem_nil,or_false] at hc;rcases hc with rfl|rfl|rfl|rfl|rfl|rfl|rfl|rfl
 ·exact⟨0,by omega,hcc⟩
 ·exact⟨5,by omega,hcc⟩
 ·exact⟨p,hp,hcc⟩
 ·exact⟨127,by omega,hcc⟩
 ·exact⟨128,by omega,hcc⟩
 ·exact⟨16383,by omega,hcc⟩
 ·exact⟨16384,by omega,hcc⟩
 ·exact⟨999999,by omega,hcc⟩
section
variable (x:Wf.Sc) (v:Value) (rb lo bsc:Nat) (d:Int)
theorem nC:DrV x v rb lo bsc d .txt 1 14 1:=fun w k0 H hk0 hsp hlo=>by
 have R0:=H.lt;obtain⟨KT,hKT⟩:∃ KT:ByteArray,(⟨(Wf.K.text .txt).toArray⟩:ByteArray)=KT:=⟨_,rfl⟩;have hk1:0<KT.size:=by rw[<-hKT];decide
 have ek:∀ h,(KT[0]'h).toNat=116:=by rw[<-hKT];intro h;rfl
 have HKH:=hid (show KT.data.toList.head? = some 116 by rw[<-hKT];rfl);rw[tx,hKT];clear hKT;go_enter Tryz.func65,Tryz.ntmps65;go_wp2_with (go_at_call 103;refine(a0B rb k0 _ (H.alloc _) (by omega)).mono ?_;rintro e w3 ⟨b,rfl,hb1,hb2,hR3,hBs3⟩;obtain⟨hlt,c0,c1,c2,c3,f1,f2,f3⟩:=eP R0 hBs3;have B3:=Lib.hid hBs3;have R3:=Lib.hid hR3;clear hBs3 hR3)
 go_ret
 refine⟨.mk 116 b 0 [],w.heap.size,rfl,⟨b,hb1,hb2,rfl⟩,by rw[Wf.eM];simp;omega,LV.leaf (X:=⟨(39::(b++[39])).toArray⟩) R0 B3.out ⟨HKH.out,rfl⟩ (by decide) rfl,R3.out.below ((Below.refl w.heap.size w3).setCell (zaA) _) R0,mA (((aA.refl rb w).alloc _).trans B3.out) (zaA) _⟩
theorem kJ:DrV x v rb lo bsc d .flag 1 3 1:=fun w k0 H hk0 hsp hlo=>by
 have R0:=H.lt;obtain⟨KT,hKT⟩:∃ KT:ByteArray,(⟨(Wf.K.text .flag).toArray⟩:ByteArray)=KT:=⟨_,rfl⟩;have hk1:0<KT.size:=by rw[<-hKT];decide
 have ek:∀ h,(KT[0]'h).toNat=102:=by rw[<-hKT];intro h;rfl
 have HKH:=hid (show KT.data.toList.head? = some 102 by rw[<-hKT];rfl);have hr1:rb<(w.alloc (vNew KT)).heap.size:=zaC R0 (by simp);rw[tx,hKT];clear hKT;go_enter Tryz.func65,Tryz.ntmps65;go_wp2_with (go_at_call 62;refine(pick rb k0 2 _ ((H.alloc _).alloc _) (by omega) (by omega)).mono ?_;rintro e w3 ⟨n,rfl,hn,_,hR3,hBs3⟩;obtain⟨hn0,hn1⟩:=hn (by omega);obtain⟨X,hx0,hx1,hxc⟩:=cM 3 [[121,101,115],[110,111]] hBs3 hr1 n hn0 hn1 (by decide);have hxd:w3.cell? ⟨w.heap.size+1,n.toNat,none⟩=some (.string X):=(by have h:=hxc;rw[show(w.alloc (vNew KT)).heap.size=w.heap.size+1 by simp] at h;exact h);clear hxc;have B2:=Lib.hid (((aA.refl rb (w.alloc (vNew KT))).alloc _).trans hBs3);obtain⟨hlt,c0,c1,c2,c3,f1,f2,f3⟩:=eP R0 B2.out;have R3:=Lib.hid hR3;clear hBs3 hR3)
 go_ret
 have hX:X.data.toList=[121,101,115]\/X.data.toList=[110,111]:=by simpa using hx1
 refine⟨.mk 102 X.data.toList 0 [],w.heap.size,rfl,?_,by rw[Wf.cQ,aC];exact hx0,LV.leaf (X:=X) R0 B2.out ⟨HKH.out,rfl⟩ (by decide) rfl,R3.out.below ((Below.refl w.heap.size w3).setCell (zaA) _) R0,mA (((aA.refl rb w).alloc _).trans B2.out) (zaA) _⟩;rcases hX with h|h
 ·exact .inl (by rw[h])
 ·exact .inr (by rw[h])
theorem lA:DrV x v rb lo bsc d .num 2 6 1:=fun w k0 H hk0 hsp hlo=>by
 have R0:=H.lt;obtain⟨KT,hKT⟩:∃ KT:ByteArray,(⟨(Wf.K.text .num).toArray⟩:ByteArray)=KT:=⟨_,rfl⟩;have hk1:0<KT.size:=by rw[<-hKT];decide
 have ek:∀ h,(KT[0]'h).toNat=110:=by rw[<-hKT];intro h;rfl
 have HKH:=hid (show KT.data.toList.head? = some 110 by rw[<-hKT];rfl);have HD:=hid fun(m:Nat) (hm:m<=999999) (wz:World)=>eN m m wz (zaA) (by omega);rw[tx,hKT];clear hKT;go_enter Tryz.func65,Tryz.ntmps65;go_wp2_with (first|(go_at_call 89;have _u:=hxd;refine(HD.out y (by omega) _).mono ?_;rintro e w5 ⟨rfl,hb5⟩;have B5:=Lib.hid (B4.out.trans (aA.aF hb5 (zaA)));have R5:=Lib.hid (R4.out.below hb5 R4.out.lt);obtain⟨hlt,c0,c1,c2,c3,f1,f2,f3⟩:=eP R0 B5.out;clear hb5)|(go_at_call 62;have _u:=hr3;refine(pick rb (k0+1) 8 _ (R3.out.alloc _) (by omega) (by omega)).mono ?_;rintro e w4 ⟨n,rfl,hn,_,hR4,hBs4⟩;obtain⟨hn0,hn1⟩:=hn (by omega);obtain⟨c,hc,hcc⟩:=nV [.int .i64 0,.int .i64 5,.int .i64 (p:Int),.int .i64 127,.int .i64 128,.int .i64 16383,.int .i64 16384,.int .i64 999999] hBs4 hr3 n hn0 (by simpa using hn1);obtain⟨y,hy,hxd⟩:=yG (p:=p) (by omega) hc hcc;clear hc hcc;have hl4:w3.heap.size<w4.heap.size:=zaC (by simp) hBs4.size;have B4:=Lib.hid (B3.out.trans (((aA.refl rb w3).alloc _).trans hBs4));have R4:=Lib.hid hR4;clear hBs4 hR4)|(go_at_call 62;refine(pick rb k0 200 _ (H.alloc _) (by omega) (by omega)).mono ?_;rintro e w3 ⟨p',rfl,hp,_,hR3,hBs3⟩;obtain⟨hp0,hp1⟩:=hp (by omega);obtain⟨p,rfl⟩:=Int.eq_ofNat_of_zero_le hp0;have B3:=Lib.hid hBs3;have R3:=Lib.hid hR3;have hr3:rb<w3.heap.size:=hR3.lt;clear hBs3 hR3))
 go_ret
 refine⟨.mk 110 (Wf.dec y) 0 [],w.heap.size,rfl,⟨y,hy,rfl⟩,by rw[Wf.eR];exact Wf.bW hy,LV.leaf (X:=⟨(Wf.dec y).toArray⟩) R0 B5.out ⟨HKH.out,rfl⟩ (by decide) rfl,R5.out.below ((Below.refl w.heap.size w5).setCell (zaA) _) R0,mA (((aA.refl rb w).alloc _).trans B5.out) (zaA) _⟩
end

theorem ScSp.beside {w w':World} {lo b rb:Nat} {v:Value} {x:Wf.Sc} (h:ScSp w lo b v x) (hb:aA rb w w') (hr:rb<lo):ScSp w' lo b v x:=by
 obtain⟨cs,h0,h1,h2,h3⟩:=h;refine⟨cs,h0,h1.keep hb.size fun hx=>hb.block b hx (by omega),h2,fun i hi hi'=>?_⟩;obtain⟨fb,a,c,e1,e0,e2⟩:=h3 i hi hi';exact⟨fb,a,c,e1,e0,e2.keep hb.size fun hx=>hb.block fb hx (by omega)⟩
theorem KB.new {w:World} {KT:ByteArray}:KB w (w.alloc (vNew KT)) w.heap.size (w.heap.size+1) none 0 0 [] []:=by
 refine⟨by omega,zaA,by simp,?_,?_,World.ownsRow_nil _ _ _ _,rfl,by simp only[LVs]⟩;all_goals (simp[vNew,go_sem];done)
theorem KB.cS {w wr w2:World} {vb base m c rb:Nat} {a:Option Addr} {l:List Wf.V} {bs:List Nat} (h:KB w wr vb base a m c l bs) (hb:aA rb wr w2) (hr:rb<w.heap.size):KB w w2 vb base a m c l bs:=by
 have hv:vb<wr.heap.size:=zaC h.lt h.sz;have h1:=h.le;have h2:=h.lt;have hne:vb≠rb:=by omega
 have hblk:=hb.block vb hv hne;exact⟨h.lt,h.le,zaI h.sz hb.size,(zbJ (w:=wr) (w':=w2) (a:=⟨vb,3,none⟩) hblk).trans h.v3,(World.frozen?_of_block (w:=wr) (w':=w2) (a:=⟨vb,3,none⟩) hblk).trans h.f3,cT h.own hb (by omega),h.hl,LVs.keep (fun y hy hlt=>⟨hy,hb.block y hlt (by have:=hy.1;omega)⟩) hb.size _ _ h.vals⟩
theorem LV.empty {w w3:World} {rb:Nat} {KT:ByteArray} {what:UInt8} (hr:rb<w.heap.size) (hb:aA rb (w.alloc (vNew KT)) w3) (hs:aZ what [] KT.data.toList []) (h61:what≠61) (ht:bG what 0 []=[]):LV w3 (fun z=>w.heap.size<=z) (.mk what [] 0 []) w.heap.size:=by
 obtain⟨hlt,c0,c1,c2,c3,_,_,_⟩:=eP hr hb;exact LV.mk (kd:=KT.data.toList) (t:=[]) (bs:=[]) (tb:=0) (kb:=0) h61 (zaA) hlt c0 c1 c2 c3 (by rw[ht];exact dV _ _) (.inl ht) (dV _ _) (.inl rfl) hs (by simp only[LVs])
section
variable (x:Wf.Sc) (v:Value) (rb lo bsc:Nat) (d:Int)
theorem sR (k:Wf.K) (hd:decide ((0:Int)<d)=false):DrV x v rb lo bsc d (.opt k) 0 1 1:=fun w k0 H hk0 hsp hlo=>by
 have R0:=H.lt;obtain⟨KT,hKT⟩:∃ KT:ByteArray,(⟨(Wf.K.opt k).text.toArray⟩:ByteArray)=KT:=⟨_,rfl⟩;obtain⟨hk1,ek⟩:=bC (kd:=(Wf.K.opt k).text) (c:=63) rfl;rw[hKT] at hk1 ek;have ek2:∀ h,(KT[0]'h).toNat=63:=ek;have HKH:=hid (show KT.data.toList.head? = some 63 by rw[<-hKT];rfl);rw[tx,hKT];clear hKT ek;go_enter Tryz.func65,Tryz.ntmps65;go_wp2_with fail
 go_ret
 exact⟨.mk 63 [] 0 [],w.heap.size,rfl,.inl rfl,by rw[Wf.eO];simp,LV.empty R0 (aA.refl rb _) ⟨HKH.out,rfl⟩ (by decide) rfl,H.alloc _,(aA.refl rb w).alloc _⟩
end

theorem KB.put2 {w wr:World} {vb base m c:Nat} {a:Option Addr} {l:List Wf.V} {bs:List Nat} (h:KB w wr vb base a m c l bs) {wx w4:World} (hs:KB w wx vb base a m c l bs) (hg:wx.grownBy w4 (Value.slice a m c).ownBlock) {g cap b:Nat} {u:Wf.V}
  (ho:w4.ownsRow base 57 1 (.slice (some ⟨g,0,none⟩) (m+1) cap) (m+1) (bs.map ptr++[ptr b])) (hat:(Value.slice a m c).ownBlock=some g\/g=wx.heap.size) (hv:LV wx (fun y=>wr.heap.size<=y) u b) :
  KB w (w4.setCell ⟨vb,3,none⟩ (.slice (some ⟨g,0,none⟩) (m+1) cap)) vb base (some ⟨g,0,none⟩) (m+1) cap (l++[u]) (bs++[b]):=by
 have hlo:=aQ hs.own;have hlo0:=aQ h.own;have hB:Below base wx w4:=aV hg (fun g hgk=>(hlo g hgk).1) hs.sz;have hss:(w4.setCell ⟨vb,3,none⟩ (.slice (some ⟨g,0,none⟩) (m+1) cap)).heap.size=w4.heap.size:=by simp
 have c3:=(hB.cell (p:=⟨vb,3,none⟩) h.lt).trans hs.v3;have hloc:(Value.slice (some ⟨g,0,none⟩) (m+1) cap).ownBlock=(Value.slice a m c).ownBlock\/(Value.slice (some ⟨g,0,none⟩) (m+1) cap).ownBlock=some wx.heap.size:=by
  rcases hat with hat|hat
  ·exact .inl hat.symm
  ·exact .inr (by rw[<-hat];rfl)
 have hl:=h.lt;have hkeep:∀ y,base<=y->y<wx.heap.size->some y≠(Value.slice a m c).ownBlock->some y≠(Value.slice (some ⟨g,0,none⟩) (m+1) cap).ownBlock/\(w4.setCell ⟨vb,3,none⟩ (.slice (some ⟨g,0,none⟩) (m+1) cap)).heap[y]? = wx.heap[y]?:=fun y hy1 hy2 hy3=>by
  obtain⟨e1,e2⟩:=fE hg hloc hy2 hy3;refine⟨e2,?_⟩;rw[Below.heap_setCell w4 ⟨vb,3,none⟩ _ _ (by show y≠vb;omega)];exact e1
 refine⟨h.lt,h.le,by rw[hss];exact zaI hs.sz hB.size,zbC w4 _ _ c3,?_,?_,by rw[zaD,h.hl];rfl,LVs.snoc ?_ ?_⟩
 ·have:=(hB.frozen (p:=⟨vb,3,none⟩) h.lt).trans hs.f3
  simpa using this
 ·rw[List.map_append]
  exact ownsRow_setCell_below ho h.lt _
 ·exact LV.keep (fun y hp hlt=>by
   have hb1:base<=y:=zaI h.sz hp;have hb3:some y≠(Value.slice a m c).ownBlock:=fun he=>by
    have h5:=(hlo0 y he.symm).2;have h6:wr.heap.size<=y:=hp;omega
   obtain⟨e1,e2⟩:=hkeep y hb1 hlt hb3;exact⟨⟨hb1,e1⟩,e2⟩) (by rw[hss];exact hB.size) _ _ hv
 ·exact LVs.keep (fun y hp hlt=>by
   obtain⟨e1,e2⟩:=hkeep y hp.1 hlt hp.2;exact⟨⟨hp.1,e1⟩,e2⟩) (by rw[hss];exact hB.size) _ _ hs.vals
theorem KB.val {w wr:World} {vb base m c:Nat} {a:Option Addr} {l:List Wf.V} {bs:List Nat} {KT:ByteArray} {what:UInt8} (h:KB w wr vb base a m c l bs) (h61:what≠61) (h0:wr.cell? ⟨vb,0,none⟩=some (.string KT)) (h1:wr.cell? ⟨vb,1,none⟩=some (.string ⟨#[]⟩)) (h2:wr.cell? ⟨vb,2,none⟩=some (.slice none 0 0)) (hs:aZ what [] KT.data.toList []) (ht:bG what 0 l=[]):LV wr (fun y=>w.heap.size<=y) (.mk what [] 0 l) vb:=by
 have hbl:(bs.map ptr).length=m:=by rw[zaG,h.hl]
 obtain⟨b,hb,hrow⟩:=aI.cA (xs:=bs.map ptr) (by rw[hbl];exact h.own);have e1:=h.lt;have e3:=h.le;have e4:=h.sz;exact LV.mk (kd:=KT.data.toList) (t:=[]) (tb:=0) (kb:=b) (bs:=bs) h61 e3 (by omega) h0 h1 h2 h.v3 (by rw[ht];exact dV _ _) (.inl ht) hrow (.inr (by omega)) hs (LVs.keep (fun y hp hlt=>⟨by have:=hp.1;omega,rfl⟩) (zaA) _ _ h.vals)
theorem fX {rb B:Nat} {w w3 w4:World} (h:aA rb w w3) (hb:Below B w3 w4) (hB:w.heap.size<=B):aA rb w w4 :=
 ⟨hb.os.trans h.os,hb.tape.trans h.tape,hb.output.trans h.output,zaI h.size hb.size,fun k hk hr=>(hb.block k (by omega)).trans (h.block k hk hr)⟩
theorem oT {ops:Array Oper} {o:Oper} {act:Act} {K:Act->World->Prop} {Q:Exit->Act->World->Prop} {E:Prop} {wx:World} {base m c:Nat} {a:Option Addr} {xs:List Value} {p:Nat} (s x:Operand) (hgd:o.guard=none) (ho:o.op=.call { callee:=.builtin .append,args:=#[s,x],argTypes:=#[101,101] })
  (hb:base<=wx.heap.size) (hown:wx.ownsRow base 57 1 (.slice a m c) m xs) (hm1:m<=1000) {zb:Nat} (hz:wx.heap[zb]? = some (.cells #[ptr p] 57)) (hs:act.eval s=.slice a m c) (hx2:act.eval x=.slice (some ⟨zb,0,none⟩) 1 1)
  (h:∀ g cap w4,w4.ownsRow base 57 1 (.slice (some ⟨g,0,none⟩) (m+1) cap) (m+1) (xs++[ptr p])->wx.grownBy w4 (Value.slice a m c).ownBlock->((Value.slice a m c).ownBlock=some g\/g=wx.heap.size)->Below base wx w4->K (act.put o.dst (.slice (some ⟨g,0,none⟩) (m+1) cap)) w4) :
  if Region.wanted o (yielded ops act.tmps)=true then Oper.wp Tryz.prog o act wx K Q else E:=by
 obtain⟨i0,hi0,hz0,hz1,hz2⟩:=info_parts jD;refine step_append_lies wx hgd s x 101 ho base 57 i0 (.pointer none) 1 8 Tryz.underlying101 hi0 hz0 hz1 hz2 rfl (by decide) (.slice a m c) m _ hs hown ⟨zb,0,none⟩ 1 1 [ptr p] hx2 rfl (World.news_of_block hz) (fQ _) (by decide) (by unfold maxLen;omega) (by omega) hb _ rfl fun g cap w4 h1 h2 h3 h4=>?_;exact h g cap w4 h1 h2 h3 (aV h2 (fun g hg=>(aQ hown g hg).1) hb)
theorem pQ {rb k:Nat} {w w3 w4:World} {KT:ByteArray} {ob:Obj} (R0:rb<w.heap.size) (hb3:aA rb w w3) (hlt:w.heap.size<w3.heap.size) (d0:w3.cell? ⟨w.heap.size,0,none⟩=some (.string KT)) (d1:w3.cell? ⟨w.heap.size,1,none⟩=some (.string ⟨#[]⟩)) (d2:w3.cell? ⟨w.heap.size,2,none⟩=some (.slice none 0 0)) (hr3:Rd w3 rb k) (b4:Below (w.heap.size+1) (w3.alloc ob) w4) (S:Value) :
  (w4.setCell ⟨w.heap.size,3,none⟩ S).cell? ⟨w.heap.size,0,none⟩=some (.string KT)/\(w4.setCell ⟨w.heap.size,3,none⟩ S).cell? ⟨w.heap.size,1,none⟩=some (.string ⟨#[]⟩)/\(w4.setCell ⟨w.heap.size,3,none⟩ S).cell? ⟨w.heap.size,2,none⟩=some (.slice none 0 0)/\Rd (w4.setCell ⟨w.heap.size,3,none⟩ S) rb k/\aA rb w (w4.setCell ⟨w.heap.size,3,none⟩ S):=by
 have cc:∀ j u,j≠3->w3.cell? ⟨w.heap.size,j,none⟩=some u->(w4.setCell ⟨w.heap.size,3,none⟩ S).cell? ⟨w.heap.size,j,none⟩=some u:=fun j u hj h =>
  (zbA w4 _ _ _ (by simp <;> omega)).trans ((b4.cell (p:=⟨w.heap.size,j,none⟩) (zaH _)).trans ((zbB w3 _ ⟨w.heap.size,j,none⟩ hlt).trans h))
 have hB1:Below (w.heap.size+1) w3 w4:=((Below.refl _ w3).alloc (by omega) ob).trans b4;have hB:Below w.heap.size w3 (w4.setCell ⟨w.heap.size,3,none⟩ S):=(hB1.mono (Nat.le_succ _)).setCell (zaA) _;exact⟨cc 0 _ (by decide) d0,cc 1 _ (by decide) d1,cc 2 _ (by decide) d2,hr3.below hB R0,fX hb3 hB (zaA)⟩
section
variable (x:Wf.Sc) (v:Value) (rb lo bsc:Nat) (d:Int)
theorem a2A (k:Wf.K) (hd0:0<d) (hd1:d<=1000) (hkl:(Wf.K.opt k).text.length<=1000) (C B N:Nat) (IH:DrV x v rb lo bsc (d-1) k C B N):DrV x v rb lo bsc d (.opt k) (C+1) (B+1) (N+1):=fun w k0 H hk0 hsp hlo=>by
 have R0:=H.lt;obtain⟨KT,hKT⟩:∃ KT:ByteArray,(⟨(Wf.K.opt k).text.toArray⟩:ByteArray)=KT:=⟨_,rfl⟩;obtain⟨K1,hK1⟩:∃ K1:ByteArray,(⟨k.text.toArray⟩:ByteArray)=K1:=⟨_,rfl⟩;obtain⟨hk1,ek⟩:=bC (kd:=(Wf.K.opt k).text) (c:=63) rfl;rw[hKT] at hk1 ek;have ek2:∀ h,(KT[0]'h).toNat=63:=ek;have HKH:=hid (show KT.data.toList.head? = some 63 by rw[<-hKT];rfl);have hsl:∀ wz,(Instr.slice 9 (.string KT) (some (.int .i64 1)) none none).run Tryz.prog wz=.ok (.string K1) wz:=fun wz=>by
  have h:=bM KT 1 (by omega) wz;have e:KT.extract 1 KT.size=K1:=by
   rw[<-hKT,<-hK1];apply ByteArray.ext;apply Array.ext';rw[cL];rfl
  rw[e] at h;exact h
 have kd:IntKind.i64.wrap (d-1)=d-1:=zbI _ (by omega);have hdd:decide ((0:Int)<d)=true:=decide_eq_true hd0;have HSP:=hid hsp;have HIH:=hid fun(wz:World) (kz:Nat) (hr:Rd wz rb kz) (hc:kz+C<=900000) (hs:ScSp wz lo bsc v x)=>(by
  have h:=IH wz kz hr hc hs hlo;rw[tx,hK1] at h;exact h)
 rw[tx,hKT];clear hKT ek hK1 IH hsp;go_enter Tryz.func65,Tryz.ntmps65;go_wp2_with (go_at_call 62;refine(pick rb k0 3 _ (H.alloc _) (by omega) (by omega)).mono ?_;rintro e w2 ⟨n,rfl,hn,_,hR2,hBs2⟩;obtain⟨hn0,hn1⟩:=hn (by omega);have B2:=Lib.hid hBs2;have R2:=Lib.hid hR2;clear hBs2 hR2 hn;rcases(Bool.eq_false_or_eq_true (decide ((0:Int)<n))) with hq|hq)
 ·have BW2:=hid (((aA.refl rb w).alloc _).trans B2.out)
  obtain⟨hlt2,c0,c1,c2,c3,f1,f2,f3⟩:=eP R0 B2.out;have K2:=hid (KB.new.cS (B2.out.trans (aA.drew (aA.refl rb w2))) R0);have hR2:=R2.out.lt;go_region_law (first|(refine oT (base:=w.heap.size+1) (.tmp 91) (.tmp 99) rfl rfl (by simp;omega) (World.ownsRow_nil _ _ _ _) (Nat.zero_le _) (heap_alloc_last w3 _) (by simp[Act.eval,Act.put]) (by simp[Act.eval,Act.put]) ?_;intro g cap w4 hown4 hgrow4 hat4 b4;have B4:=hid b4;have y3:=(b4.cell (p:=⟨w.heap.size,3,none⟩) (zaH _)).trans ((zbB w3 _ ⟨w.heap.size,3,none⟩ hlt3).trans d3);have yf:=(b4.frozen (p:=⟨w.heap.size,3,none⟩) (zaH _)).trans ((((Below.refl w3.heap.size w3).alloc (zaA) _).frozen (p:=⟨w.heap.size,3,none⟩) hlt3).trans e3);have KX:=hid (KB.put2 K2.out ((K2.out.cS HB3.out R0).step ((Below.refl w3.heap.size w3).alloc (zaA) _)) hgrow4 hown4 hat4 (HLV.out.below ((Below.refl w3.heap.size w3).alloc (zaA) _)));have hl4:=b4.size;clear hown4 hgrow4 hat4 b4)|((try go_simp);go_at_call 65;refine(HIH.out w2.drew (k0+1) (R2.out.below (zbE (zaB)) hR2) (by omega) (HSP.out.beside (BW2.out.trans (aA.drew (aA.refl rb w2))) hlo)).mono ?_;rintro e w3 ⟨u,p,rfl,ht,hpl,hlv,hr3,hb3⟩;obtain⟨hlt3,d0,d1,d2,d3,e1,e2,e3⟩:=eP R0 ((B2.out.trans (aA.drew (aA.refl rb w2))).trans hb3);have HT:=hid ht;have HPL:=hid hpl;have HLV:=hid hlv;have R3:=hid hr3;have HB3:=hid hb3;clear ht hpl hlv hr3 hb3))
  all_goals (go_wp2_with fail)
  all_goals
   obtain⟨q0,q1,q2,r5,b5⟩:=pQ R0 (BW2.out.trans ((aA.drew (aA.refl rb w2)).trans HB3.out)) hlt3 d0 d1 d2 R3.out B4.out (.slice (some ⟨g,0,none⟩) 1 cap);go_ret
   exact⟨.mk 63 [] 0 [u],w.heap.size,rfl,.inr ⟨u,HT.out,rfl⟩,by rw[Wf.dA];have:=HPL.out;simp;omega,KX.out.val (by decide) q0 q1 q2 ⟨HKH.out,rfl⟩ rfl,r5.mono (by omega),b5⟩
 ·go_ret
  exact⟨.mk 63 [] 0 [],w.heap.size,rfl,.inl rfl,by rw[Wf.eO];simp,LV.empty R0 B2.out ⟨HKH.out,rfl⟩ (by decide) rfl,R2.out.mono (by omega),((aA.refl rb w).alloc _).trans B2.out⟩
end
