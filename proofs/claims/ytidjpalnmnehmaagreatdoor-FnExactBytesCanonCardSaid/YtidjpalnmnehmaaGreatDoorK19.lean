/- Packed. -/
import Derived.Test.YtidjpalnmnehmaaGreatDoorK18
set_option maxRecDepth 99999
set_option maxHeartbeats 40000000
set_option linter.all false
namespace Go.Proofs.YtidjpalnmnehmaaGreatDoor
open Go.ChangeShapes Go.WideShapes Go.ChangeAt Go.RowKit Go.Lib
theorem eD (sort:UInt8) (f:Wf.Fd):∃ s2 s3 s4 s5:ByteArray,fdC sort f=[.int .i64 f.tag,tx f.name,.string s2,.string s3,.string s4,.string s5]:=by
 unfold fdC;split
 ·exact⟨_,_,_,_,rfl⟩
 ·exact⟨_,_,_,_,rfl⟩
def a3C (sort:UInt8) (x:List UInt8) (ok:Bool) (t:Nat) (a s2 s3 s4 s5:ByteArray):Prop :=
 (ok=true/\∃ f,Wf.fdB sort x=some f/\fdC sort f=[.int .i64 t,.string a,.string s2,.string s3,.string s4,.string s5]/\f.tag=t/\a.data.toList=f.name)\/(ok=false/\Wf.fdB sort x=none)
theorem dI.shape {sort:UInt8} {x:List UInt8} {e:Ending} (h:dI sort x e):∃ (ok:Bool) (t:Nat) (a s2 s3 s4 s5:ByteArray),e=.returned (.tuple #[.agg #[.int .i64 t,.string a,.string s2,.string s3,.string s4,.string s5],.bool ok])/\Hid (a3C sort x ok t a s2 s3 s4 s5):=by
 unfold dI at h;rw[Wf.lF] at h;cases hf:Wf.fdB sort x with
 | none =>
  rw[hf] at h;exact⟨false,0,_,_,_,_,_,h,hid (.inr ⟨rfl,hf⟩)⟩
 | some f =>
  rw[hf] at h;obtain⟨s2,s3,s4,s5,hc⟩:=eD sort f;dsimp only at h;rw[hc] at h;exact⟨true,f.tag,_,_,_,_,_,h,hid (.inl ⟨rfl,f,hf,hc,rfl,rfl⟩)⟩
def ItF (sort:UInt8) (nm:ByteArray) (ps:List (List UInt8)) (lo:Nat) (e:Ending) (w':World):Prop :=
 (∃ l,Wf.addFds sort [] ps=some l/\l.length<=8/\∃ b,e=.returned (.tuple #[ptr b,.bool true])/\TyL w' lo b ⟨sort,nm.data.toList,l⟩)\/((∀ l,Wf.addFds sort [] ps=some l->8<l.length)/\∃ p,e=.returned (.tuple #[.pointer p,.bool false]))
theorem jA {sort:UInt8} {nm:ByteArray} {ps:List (List UInt8)} {lo:Nat} {w':World} (h:Wf.addFds sort [] ps=none) (p:Option Addr):ItF sort nm ps lo (.returned (.tuple #[.pointer p,.bool false])) w':=.inr ⟨fun l hl=>(by rw[h] at hl;cases hl),_,rfl⟩
theorem zG (w:World) (xs:List Value) (t:TypeId) (h:xs.length<=maxLen):aH (w.alloc (.cells xs.toArray t)) w.heap.size (.slice (some ⟨w.heap.size,0,none⟩) xs.length xs.length) xs:=by
 have hb:=(MapKept.heap_alloc w (.cells xs.toArray t)).1;refine⟨_,_,rfl,zaA,h,.inr ⟨0,rfl,by simp,fun i hi=>⟨?_,?_⟩⟩⟩
 ·simp only[World.cell?,hb,Nat.zero_add];simp[hi]
 ·simp only[World.frozen?,hb];simp
theorem tD (s:ByteArray) (w:World) (m:Int) (hm:ML m w) (h0:s.toList.isEmpty=false) (h1:1<=s.size) (hk:∀ wz,Calls Tryz.prog 107 #[.string ⟨#[82,85,69]⟩,.string (s.extract 0 1)] wz fun e w'=>e=.returned (.bool true)/\wz=w')
  (NM RS:ByteArray) (hc:∀ wz,ML m wz->Calls Tryz.prog 68 #[.string (s.extract 1 s.size),.string ⟨#[61]⟩] wz fun e w'=>e=.returned (.tuple #[.string NM,.string RS,.bool true])/\∃ k,w'=wz.drewN k)
  (hn:∀ wz,Calls Tryz.prog 93 #[.string NM] wz fun e w'=>e=.returned (.bool true)/\Below wz.heap.size wz w') (hr:RS.toList.isEmpty=false) (sort:UInt8) (e0:∀ h,(s[0]'h).toNat=sort.toNat)
  (ps:List (List UInt8)) (hps:Wf.cutAt 44 RS.data.toList=ps) (hpl:ps.length<=1000001) (hsp:∀ wz,ML m wz->Calls Tryz.prog 108 #[.string RS,.string ⟨#[44]⟩] wz fun e w'=>e=.returned (.slice (some ⟨wz.heap.size,0,none⟩) ps.length ps.length)/\w'=wz.alloc (.cells (ps.map tx).toArray 9))
  (hrf:∀ x,x∈ps->∀ wz,ML m wz->Calls Tryz.prog 109 #[tx x,.int .u8 sort.toNat] wz fun e w'=>dI sort x e/\Below wz.heap.size wz w') :
  Calls Tryz.prog 69 #[.string s] w fun e w'=>ItF sort NM ps w.heap.size e w'/\Below w.heap.size w w':=by
 have HK:=hid hk;have HC:=hid (hc _ hm);have HN:=hid hn;have HSP:=hid hsp;have HRF:=hid hrf;have HM:=hid hm;have HPS:=hid hps;obtain⟨q,hq⟩:∃ q,sort.toNat=q:=⟨_,rfl⟩;have HQ:=hid hq;obtain⟨n,hnn⟩:∃ n,ps.length=n:=⟨_,rfl⟩;have HPL:=hid hnn;rw[hnn] at hpl;rw[hq] at e0;clear hk hc hm hn hsp hrf hps hq hnn;go_enter Tryz.func69,Tryz.ntmps69;go_wp2_with (first|(go_at_call 108;refine(HSP.out _ ((HM.out.below ((bN (zaB) dk).trans HB2.out)).below ((zaB).alloc (zaA) _))).mono ?_;rintro e w3 ⟨rfl,rfl⟩)|(go_at_call 93;refine(HN.out _).mono ?_;rintro e w2 ⟨rfl,hb2⟩;have HB2:=hid hb2;clear hb2)|(go_at_call 68;refine HC.out.mono ?_;rintro e w1 ⟨rfl,dk,rfl⟩)|(go_at_call 107;refine(HK.out _).mono ?_;rintro e w1 ⟨rfl,rfl⟩))
 have hsz2:=HB2.out.size;have hT0:Hid (TSi w2 ((w2.alloc (.cells #[.int .u8 q,.string NM,.slice none 0 0,.string s] 70)).alloc (.cells (ps.map tx).toArray 9)) q NM s (.slice (some ⟨w2.heap.size+1,0,none⟩) n n) none 0 ps []):=by
  refine hid ⟨((zaB).alloc (zaA) _).alloc (by simp) _,by simp,by simp,by simp,by simp,⟨_,(Below.heap_alloc _ _ _ (by simp)).trans (MapKept.heap_alloc w2 _).1⟩,by simp,?_,World.ownsRow_nil _ _ _ _,by simp⟩;have:=zG (w2.alloc (.cells #[.int .u8 q,.string NM,.slice none 0 0,.string s] 70)) (ps.map tx) 9 (by rw[zaG,HPL.out];unfold maxLen;omega);rw[zaG,HPL.out] at this;simpa using this
 have BW2:=hid ((bN (Below.refl w.heap.size w) dk).trans HB2.out);rw[HPL.out];go_loopw [53] (fun v wr=>∃ (i:Nat) (acc:List Wf.Fd) (a:Option Addr) (c:Nat),v=.int .i64 i/\i<=n/\acc.length<=8/\Hid (dG sort ps i acc/\TSi w2 wr q NM s (.slice (some ⟨w2.heap.size+1,0,none⟩) n n) a c ps (acc.map (fdC sort)))) (fun v _=>n-(RowKit.intOf v).toNat)
 case atStart=>exact⟨0,[],none,0,rfl,Nat.zero_le _,Nat.zero_le _,hid ⟨dG.start _ _,hT0.out⟩⟩
 case round =>
  obtain⟨i,acc,a,c,rfl,hi,h8,hh⟩:=hrel;have hwr:=hh.out.2.size;have hwr2:w2.heap.size<wr.heap.size:=by omega
  by_cases hlt:i<n
  ·have hip:i<ps.length:=by rw[HPL.out];exact hlt
   obtain⟨x,hx⟩:∃ x,ps[i]=x:=⟨_,rfl⟩;obtain⟨lo,hla,hcx0,hbw,hnc,hcm⟩:=aH.some hh.out.2.row (i:=i) (by rw[zaG];exact hip);obtain rfl:(0:Nat)=lo:=by simpa using hla
   have hcx:wr.cell? ⟨w2.heap.size+1,0+i,none⟩=some (tx x):=(by rw[hcx0,zaR,hx]);clear hcx0 hla;rw[Nat.zero_add] at hcx;obtain⟨X,hX⟩:∃ X:ByteArray,(⟨x.toArray⟩:ByteArray)=X:=⟨_,rfl⟩;have HRX:=hid (HRF.out x (by rw[<-hx];exact zaQ _) wr ((HM.out.below ((bN (zaB) dk).trans HB2.out)).below hh.out.2.below));rw[tx,hX] at HRX hcx;rw[HQ.out] at HRX;have HX:=hid hx;obtain⟨k,hkk⟩:∃ k,acc.length=k:=⟨_,rfl⟩;have HKK:=hid hkk;have hml:(acc.map (fdC sort)).length=k:=(by rw[zaG,hkk]);have HML:=hid hml;have k0:=hh.out.2.c0;have k2:=hh.out.2.c2;rw[hml] at k2;rw[hkk] at h8;clear hx hX hkk hml;have BWR:=hid (BW2.out.trans (hh.out.2.below.mono BW2.out.size));by_cases hk8:k=8
   ·go_wp2_with (go_at_call 109;refine HRX.out.mono ?_;rintro e w3 ⟨ho,hb3⟩;obtain⟨ok,ft,fa,s2,s3,s4,s5,rfl,HSAY⟩:=ho.shape;clear ho;obtain⟨hc3,hc4⟩:=bcell hb3;have hz3:=zaC (show w2.heap.size<wr.heap.size by omega) hb3.size;have HB3:=hid hb3;have B3:=hid ((BWR.out.trans (hb3.mono BWR.out.size)).alloc (zaI BWR.out.size hb3.size) (.cells #[.int .i64 ft,.string fa,.string s2,.string s3,.string s4,.string s5] 78));clear hb3;cases ok)
    ·have HNO:=hid (show Wf.addFds sort [] ps=none by
      rw[hh.out.1.next hip,HX.out];rcases HSAY.out with⟨h,_⟩|⟨_,h⟩
      ·cases h
      ·rw[h])
     go_ret2
     exact⟨jA HNO.out _,B3.out⟩
    ·have HNO:=hid (show ∀ l,Wf.addFds sort [] ps=some l->8<l.length by
      intro l hl;rw[hh.out.1.rest] at hl;have:=(Wf.nN _ _ _ hl).1;rw[List.length_drop,HKK.out,HPL.out] at this;omega)
     go_ret2
     exact⟨.inr ⟨HNO.out,_,rfl⟩,B3.out⟩
   ·go_wp2_with (go_at_call 109;refine HRX.out.mono ?_;rintro e w3 ⟨ho,hb3⟩;obtain⟨ok,ft,fa,s2,s3,s4,s5,rfl,HSAY⟩:=ho.shape;clear ho;obtain⟨hc3,hc4⟩:=bcell hb3;have hz3:=zaC (show w2.heap.size<wr.heap.size by omega) hb3.size;have HB3:=hid hb3;have B3:=hid ((BWR.out.trans (hb3.mono BWR.out.size)).alloc (zaI BWR.out.size hb3.size) (.cells #[.int .i64 ft,.string fa,.string s2,.string s3,.string s4,.string s5] 78));clear hb3;cases ok)
    ·have HNO:=hid (show Wf.addFds sort [] ps=none by
      rw[hh.out.1.next hip,HX.out];rcases HSAY.out with⟨h,_⟩|⟨_,h⟩
      ·cases h
      ·rw[h])
     go_ret2
     exact⟨jA HNO.out _,B3.out⟩
    ·obtain⟨f,hfx,hfc,htg,hfn⟩:∃ f,Wf.fdB sort ps[i]=some f/\fdC sort f=[.int .i64 ft,.string fa,.string s2,.string s3,.string s4,.string s5]/\f.tag=ft/\fa.data.toList=f.name:=by
      rcases HSAY.out with⟨_,h⟩|⟨h,_⟩
      ·rw[HX.out];exact h
      ·cases h
     have HFX:=hid hfx;have HFC:=hid hfc;have HFN:=hid hfn;have HTG:=hid htg;have HTS:=hid (hh.out.2.step (HB3.out.alloc HB3.out.size (.cells #[.int .i64 ft,.string fa,.string s2,.string s3,.string s4,.string s5] 78)));clear hfx hfc hfn htg;have hz3':wr.heap.size<=w3.heap.size:=HB3.out.size;go_loopw [81] (fun v wy=>∃ j:Nat,v=.int .i64 j/\j<=k/\Hid (Below (w3.heap.size+1) (w3.alloc (.cells #[.int .i64 ft,.string fa,.string s2,.string s3,.string s4,.string s5] 78)) wy)/\Hid (∀ l (hl:l<acc.length),l<j->badF f acc[l]=false)) (fun v _=>k-(RowKit.intOf v).toNat)
     case atStart=>exact⟨0,rfl,Nat.zero_le _,hid (zaB),hid fun l _ h=>by omega⟩
     case round =>
      obtain⟨j,rfl,hj,hby,hgood⟩:=hrel;have hysz:w3.heap.size+1<=wr.heap.size:=(by have:=hby.out.size;simpa using this);have HT2:=hid (HTS.out.step (by simpa using hby.out));have f0:wr.cell? ⟨w3.heap.size,0,none⟩=some (.int .i64 ft):=(hby.out.cell (p:=⟨w3.heap.size,0,none⟩) (zaH _)).trans (by simp);have f1:wr.cell? ⟨w3.heap.size,1,none⟩=some (.string fa):=(hby.out.cell (p:=⟨w3.heap.size,1,none⟩) (zaH _)).trans (by simp);have f2:wr.cell? ⟨w3.heap.size,2,none⟩=some (.string s2):=(hby.out.cell (p:=⟨w3.heap.size,2,none⟩) (zaH _)).trans (by simp);have f3:wr.cell? ⟨w3.heap.size,3,none⟩=some (.string s3):=(hby.out.cell (p:=⟨w3.heap.size,3,none⟩) (zaH _)).trans (by simp);have f4:wr.cell? ⟨w3.heap.size,4,none⟩=some (.string s4):=(hby.out.cell (p:=⟨w3.heap.size,4,none⟩) (zaH _)).trans (by simp);have f5:wr.cell? ⟨w3.heap.size,5,none⟩=some (.string s5):=(hby.out.cell (p:=⟨w3.heap.size,5,none⟩) (zaH _)).trans (by simp);have y2:=HT2.out.c2;rw[HML.out] at y2;by_cases hjk:j<k
      ·have hja:j<acc.length:=by rw[HKK.out];exact hjk
       obtain⟨gb,hga,hgb,hgw,hmc,hcm2,hcell⟩:=nZ HT2.out.own HT2.out.he (k:=j) (by rw[HML.out];exact hjk);subst hga;obtain⟨G,hG⟩:∃ G,acc[j]=G:=⟨_,rfl⟩;obtain⟨t2,t3,t4,t5,hgf⟩:=eD sort G;have e0:(acc.map (fdC sort))[j]'(by rw[HML.out];exact hjk)=[.int .i64 G.tag,tx G.name,.string t2,.string t3,.string t4,.string t5]:=(by rw[zaR,hG,hgf]);obtain⟨gt,hgt⟩:∃ gt,G.tag=gt:=⟨_,rfl⟩;obtain⟨GN,hGN⟩:∃ GN:ByteArray,(⟨G.name.toArray⟩:ByteArray)=GN:=⟨_,rfl⟩;rw[tx,hGN,hgt] at e0;have g0:wr.cell? ⟨gb,j*6,none⟩=some (.int .i64 gt):=hcell 0 _ (by decide) (by rw[e0];rfl);have g1:wr.cell? ⟨gb,j*6+1,none⟩=some (.string GN):=hcell 1 _ (by decide) (by rw[e0];rfl);have g2:wr.cell? ⟨gb,j*6+2,none⟩=some (.string t2):=hcell 2 _ (by decide) (by rw[e0];rfl);have g3:wr.cell? ⟨gb,j*6+3,none⟩=some (.string t3):=hcell 3 _ (by decide) (by rw[e0];rfl);have g4:wr.cell? ⟨gb,j*6+4,none⟩=some (.string t4):=hcell 4 _ (by decide) (by rw[e0];rfl);have g5:wr.cell? ⟨gb,j*6+5,none⟩=some (.string t5):=hcell 5 _ (by decide) (by rw[e0];rfl);have HG:=hid hG;have HGT:=hid hgt;have HGN:=hid (show(GN.toList==fa.toList)=(G.name==f.name) by rw[<-hGN,zaZ,zaZ,HFN.out]);clear hcell e0 hG hgt hGN hgf;have hyw:w3.heap.size<wr.heap.size:=(by omega);cases hnm:(GN.toList==fa.toList) with
       | true =>
        have HNO:=hid (show Wf.addFds sort [] ps=none by
         rw[hh.out.1.next hip,HFX.out];dsimp only;rw[if_pos (iN hja (by rw[HG.out,badF,<-HGN.out,hnm,Bool.or_true]))])
        go_wp2_with fail
        go_ret2
        exact⟨jA HNO.out _,(BW2.out.trans (HT2.out.below.mono BW2.out.size)).alloc (zaI BW2.out.size HT2.out.below.size) _⟩
       | false =>
        by_cases htag:gt<ft
        ·go_wp2_with fail
         go_roundw
         case rel=>exact⟨j+1,by go_num,by omega,hid (hby.out.alloc hysz _),hid fun l hl hlj=>by
          by_cases hlj2:l=j
          ·subst hlj2;rw[HG.out,badF,<-HGN.out,hnm,Bool.or_false,decide_eq_false (by rw[HTG.out,HGT.out];omega)]
          ·exact hgood.out l hl (by omega)⟩
         case measure=>simp[RowKit.intOf];omega
        ·have HNO:=hid (show Wf.addFds sort [] ps=none by
          rw[hh.out.1.next hip,HFX.out];dsimp only;rw[if_pos (iN hja (by rw[HG.out,badF,decide_eq_true (by rw[HTG.out,HGT.out];omega),Bool.true_or]))])
         go_wp2_with fail
         go_ret2
         exact⟨jA HNO.out _,(BW2.out.trans (HT2.out.below.mono BW2.out.size)).alloc (zaI BW2.out.size HT2.out.below.size) _⟩
      ·have hjk2:j=k:=by omega
       subst hjk2;obtain⟨i0,hi0,hz0,hz1,hz2⟩:=info_parts uL;have HI0:=hid hi0;have HZ0:=hid hz0;have HZ1:=hid hz1;have HZ2:=hid hz2;have HOWN:=hid (show wr.ownsRow (w2.heap.size+2) 78 6 (.slice a j c) j (acc.map (fdC sort)).flatten by
        have:=HT2.out.own;rw[HML.out] at this;exact this)
       clear hi0 hz0 hz1 hz2;have hww:w2.heap.size<wr.heap.size:=(by omega);have Y2:=hid (fun o=>(zbB wr o ⟨w2.heap.size,2,none⟩ hww).trans y2);have YF:=hid (fun o=>(((Below.refl wr.heap.size wr).alloc (zaA) o).frozen (p:=⟨w2.heap.size,2,none⟩) hww).trans HT2.out.f2);go_wp2_with fail
       go_region_law (refine step_append_lies _ rfl (.tmp 102) (.tmp 104) 68 rfl (w2.heap.size+2) 78 i0 (.agg #[.int .i64 0,tx [],tx [],tx [],tx [],tx []]) 6 88 Tryz.underlying68 HI0.out HZ0.out HZ1.out HZ2.out rfl (by decide) (.slice a j c) j _ (by simp[Act.eval,Act.put]) ((HOWN.out.alloc _).drew) ⟨wr.heap.size,0,none⟩ 1 1 [.int .i64 ft,.string fa,.string s2,.string s3,.string s4,.string s5] (by simp[Act.eval,Act.put]) rfl (World.news_of_block (MapKept.heap_alloc wr (.cells #[.int .i64 ft,.string fa,.string s2,.string s3,.string s4,.string s5] 78)).1) (one6 _ _ _ _ _ _) (by decide) (by unfold maxLen;omega) (by omega) (by simp;omega) _ rfl ?_;intro g cap w4 hown4 hgrow4 hat4 hlt4;have B4:=hid (aW (base:=w2.heap.size+2) hgrow4 (fun g hg=>(aU HOWN.out g hg).1) (by simp;omega));have z2:=(B4.out.cell (p:=⟨w2.heap.size,2,none⟩) (by simp)).trans (Y2.out _);have zf:=(B4.out.frozen (p:=⟨w2.heap.size,2,none⟩) (by simp)).trans (YF.out _);have HOWN4:=hid hown4;have HG4:=hid hgrow4;clear hown4 hgrow4 hat4 hlt4)
       all_goals
        go_wp2_with fail
        go_roundw
        case rel=>exact⟨i+1,acc++[f],_,_,by go_num,by omega,by rw[zaD,HKK.out];simp;omega,hid ⟨hh.out.1.put hip HFX.out (oO fun l hl=>hgood.out l hl (by rw[<-HKK.out];exact hl)),by
         have hlen:(acc.map (fdC sort)).length=j:=HML.out;rw[List.map_append,List.map_singleton,HFC.out];have hp:=HT2.out.put (wx:=(wr.alloc (.cells #[.int .i64 ft,.string fa,.string s2,.string s3,.string s4,.string s5] 78)).drew) (e:=[.int .i64 ft,.string fa,.string s2,.string s3,.string s4,.string s5]) (((zaB).alloc (zaA) _).drew) (by rw[hlen];exact HG4.out) rfl (by rw[hlen];exact HOWN4.out);rw[hlen] at hp;exact hp⟩⟩
        case measure=>simp[RowKit.intOf];omega
  ·have hin:i=n:=by omega
   subst hin;have HYES:=hid (show Wf.addFds sort [] ps=some acc by rw[hh.out.1.rest,List.drop_of_length_le (by rw[HPL.out];exact zaA)];rfl);have H8:=hid h8;go_wp2_with fail
   go_ret2
   refine⟨.inl ⟨acc,HYES.out,H8.out,w2.heap.size,rfl,?_⟩,BW2.out.trans (hh.out.2.below.mono BW2.out.size)⟩;obtain⟨fb,hfb,hrk⟩:=RowK.cO hh.out.2.own hh.out.2.he;have c2:=hh.out.2.c2;rw[zaG] at c2 hrk;have:=BW2.out.size;obtain⟨ln,hln⟩:=hh.out.2.c3;exact⟨fb,a,c,ln,by omega,by omega,hwr2,by rw[hh.out.2.c0,HQ.out],hh.out.2.c1,c2,hln,hrk⟩
