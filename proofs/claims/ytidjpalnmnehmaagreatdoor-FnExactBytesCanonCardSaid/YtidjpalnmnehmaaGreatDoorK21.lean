/- Packed. -/
import Derived.Test.YtidjpalnmnehmaaGreatDoorK20
set_option maxRecDepth 99999
set_option maxHeartbeats 40000000
set_option linter.all false
namespace Go.Proofs.YtidjpalnmnehmaaGreatDoor
open Go.ChangeShapes Go.WideShapes Go.ChangeAt Go.RowKit Go.Lib
def strLen:Value->Nat
 | .string b=>b.size
 | _=>0
theorem uQ:(Tryz.prog.info? 65).map (fun i=>(i.zero,i.size,i.bytes))=some (some (.pointer none),1,8):=by kernel_rfl
theorem cF.shape {l:List UInt8} {lo:Nat} {e:Ending} {w':World} (h:cF l lo e w'):(Wf.lineTy l=none/\∃ p,e=.returned (.tuple #[.pointer p,.bool false]))\/∃ t b,Wf.lineTy l=some t/\e=.returned (.tuple #[ptr b,.bool true])/\TyL w' lo b t:=by
 unfold cF at h;cases hl:Wf.lineTy l with
 | none=>rw[hl] at h;exact .inl ⟨rfl,h⟩
 | some t=>rw[hl] at h;obtain⟨b,h1,h2⟩:=h;exact .inr ⟨t,b,rfl,h1,h2⟩
theorem cF.no {l:List UInt8} {lo:Nat} {e:Ending} {w':World} (h:cF l lo e w') (hl:Wf.lineTy l=none):∃ p,e=.returned (.tuple #[.pointer p,.bool false]):=by
 unfold cF at h;rw[hl] at h;exact h
theorem cF.yes {l:List UInt8} {lo:Nat} {e:Ending} {w':World} {t:Wf.Ty} (h:cF l lo e w') (hl:Wf.lineTy l=some t):∃ b,e=.returned (.tuple #[ptr b,.bool true])/\TyL w' lo b t:=by
 unfold cF at h;rw[hl] at h;exact h
theorem TyL.name {w:World} {lo b:Nat} {t:Wf.Ty} (h:TyL w lo b t):w.cell? ⟨b,1,none⟩=some (tx t.name):=by
 obtain⟨_,_,_,_,_,_,_,_,c1,_⟩:=h;exact c1
theorem wX {x:List Wf.Ty} {t:Wf.Ty} (h:x.any (fun u=>u.name==t.name)=false):List.find? (fun u=>u.name==t.name) x=none:=by
 rw[List.find?_eq_none];rw[List.any_eq_false] at h;exact h
theorem wG {x:List Wf.Ty} {t:Wf.Ty} (h:x.any (fun u=>u.name==t.name)=true):∃ u,List.find? (fun u=>u.name==t.name) x=some u:=by
 cases hf:List.find? (fun u=>u.name==t.name) x with
 | some u=>exact⟨u,rfl⟩
 | none =>
  rw[List.find?_eq_none] at hf;rw[List.any_eq_true] at h;obtain⟨u,hu,he⟩:=h;exact absurd he (hf u hu)
def cH (l:List UInt8) (lo:Nat) (e:Ending) (w':World):Prop:=match Wf.schemaOf l with
 | some x=>∃ sb,e=.returned (.tuple #[ptr sb,.bool true])/\ScL w' lo sb x
 | none=>∃ p,e=.returned (.tuple #[.pointer p,.bool false])
theorem eT {l:List UInt8} {lo:Nat} {w':World} {e:Ending} (h:Wf.schemaOf l=none) (he:∃ p,e=.returned (.tuple #[.pointer p,.bool false])):cH l lo e w':=by
 unfold cH;rw[h];exact he
theorem uD {l:List UInt8} {lo:Nat} {w':World} {e:Ending} {x:Wf.Sc} (h:Wf.schemaOf l=some x) (he:∃ sb,e=.returned (.tuple #[ptr sb,.bool true])/\ScL w' lo sb x):cH l lo e w':=by
 unfold cH;rw[h];exact he
theorem pA {l:List UInt8} (h:l.length<=400):Wf.schemaOf l=match cG [] l with|none=>none|some x=>if Wf.cC x=true/\x.all (Wf.endsIn x 9)=true then some x else none:=by
 unfold Wf.schemaOf cG;rw[if_neg (by omega)];split <;> rfl
theorem jC {l:List UInt8} (h:l.length<=400) (hq:cG [] l=none):Wf.schemaOf l=none:=by
 rw[pA h,hq]
theorem a2J (W:World) (x:Value) (et:TypeId):∀ (j:Nat) (u:Value),[x][j]? = some u->(W.alloc (.cells #[x] et)).cell? (Addr.add ⟨W.heap.size,0,none⟩ j)=some u:=by
 intro j u hj;match j,hj with
 | 0,hj=>simp at hj;subst hj;simp[Addr.add]
theorem fP (k:Wf.K):k.name.length<=k.text.length:=by
 induction k with
 | ref n=>simp only[Wf.K.name,Wf.K.text,zaF,zaD,zaM];omega
 | list k ih=>simp only[Wf.K.name,Wf.K.text,zaF];omega
 | opt k ih=>simp only[Wf.K.name,Wf.K.text,zaF];omega
 | _=>simp[Wf.K.name]
theorem vY {sort:UInt8} {f:Wf.Fd} (h:Wf.FdOk sort f):f.kind.name.length<=1000000:=by
 by_cases h69:sort=69
 ·rw[(h.enum h69).1];simp[Wf.K.name]
 ·obtain⟨s,hs⟩:=h.kind h69
  have h1:=jO hs;have h2:=fP f.kind;unfold Wf.aM at hs;split at hs
  ·rw[h1] at h2;omega
  ·cases hs
theorem a1I {s:List UInt8} {x:List Wf.Ty} (h:cG [] s=some x):∀ u∈x,(u.sort=85->u.fields≠[])/\∀ f∈u.fields,f.kind.name.length<=1000000:=by
 unfold cG at h;split at h
 ·cases h
 ·have:=(Wf.pY _ _ _ h (by simp) (by simp) (by simp)).1
  intro u hu;have hu:=this u hu;exact⟨fun h85=>hu.some (by rw[h85];decide),fun f hf=>vY (hu.fds f hf)⟩
def okT (x:Wf.Sc) (t:Wf.Ty):Bool:=decide (t.sort=69) || t.fields.all fun f=>Wf.aL x f.kind
theorem a0Q {x:Wf.Sc} {t:Wf.Ty} (ht:t∈x) (h69:t.sort≠69) {f:Wf.Fd} (hf:f∈t.fields) (h:Wf.aL x f.kind=false):Wf.cC x=false:=by
 rw[Bool.eq_false_iff];intro hr;unfold Wf.cC at hr;rw[List.all_eq_true] at hr;have:=hr t ht;rw[decide_eq_false h69,Bool.false_or,List.all_eq_true] at this;rw[this f hf] at h;cases h
theorem uX {x:Wf.Sc} (h:∀ l (hl:l<x.length),okT x x[l]=true):Wf.cC x=true:=by
 unfold Wf.cC;rw[List.all_eq_true];intro t ht;obtain⟨i,hi,rfl⟩:=List.mem_iff_getElem.1 ht;exact h i hi
theorem zR (s:ByteArray) (m:Int) (w:World) (hm:ML m w) (hs:s.size<=400) :
  Calls Tryz.prog 44 #[.string s] w fun e w'=>cH s.data.toList w.heap.size e w'/\Below w.heap.size w w':=by
 have HM:=hid hm;have hmm:=@run_makeMap Tryz.prog;have HL:=hid (show s.data.toList.length<=400 by rw[aE];exact hs);clear hm;go_enter Tryz.func44,Tryz.ntmps44;go_wp2_with fail
 clear hmm;go_loopw [0] (fun v wr=>∃ (cur:ByteArray) (acc:List Wf.Ty) (bs:List Nat) (a:Option Addr) (c:Nat),v=.string cur/\cur.size<=400/\Hid (cG [] s.data.toList=cG acc cur.data.toList/\SSt w wr acc bs a c)) (fun v _=>strLen v)
 case atStart=>exact⟨s,[],[],none,0,rfl,hs,hid ⟨rfl,SSt.start w⟩⟩
 case round =>
  obtain⟨cur,acc,bs,a,c,rfl,hcur,hh⟩:=hrel;have hwr:=hh.out.2.size;cases hce:cur.toList.isEmpty with
  | true =>
   have hcn:cur.data.toList=[]:=(by rw[zaZ] at hce;simpa using hce);have HLQ:=hid (show cG [] s.data.toList=some acc by rw[hh.out.1,hcn,zV]);have HSC:=hid hh.out.2.done;have HGD:=hid (a1I HLQ.out);have HSO:=hid (show Wf.schemaOf s.data.toList=if Wf.cC acc=true/\acc.all (Wf.endsIn acc 9)=true then some acc else none by rw[pA HL.out,HLQ.out]);have HBW:=hid hh.out.2.below;obtain⟨n,hn⟩:∃ n,acc.length=n:=⟨_,rfl⟩;have HN:=hid hn;have h8:=hh.out.2.l8;obtain⟨rb,xa,xc,hsb,x0,hnc,hcm,hty⟩:=HSC.out.types;rw[hn] at h8 x0 hnc;have HTY:=hid hty;clear hty hn hcn;go_wp2_with fail
   go_loopw [84] (fun v wy=>∃ i:Nat,v=.int .i64 i/\i<=n/\Hid (Below wr.heap.size wr wy)/\Hid (∀ l (hl:l<acc.length),l<i->okT acc acc[l]=true)) (fun v _=>n-(RowKit.intOf v).toNat)
   case atStart=>exact⟨0,rfl,Nat.zero_le _,hid (zaB),hid fun l _ h=>by omega⟩
   case round =>
    obtain⟨i,rfl,hi,hb,hok⟩:=hrel;by_cases hin:i<n
    ·have hix:i<acc.length:=by rw[HN.out];exact hin
     obtain⟨o,b,hxa,hrb,cb,hT⟩:=HTY.out i hix;subst hxa;obtain⟨fb,fa,fc,ln,_,_,hbw,t0,_,t2,_,hrow⟩:=hT;obtain⟨T,hTT⟩:∃ T,acc[i]=T:=⟨_,rfl⟩;rw[hTT] at t0 t2 hrow;obtain⟨q,hq⟩:∃ q,T.sort.toNat=q:=⟨_,rfl⟩;rw[hq] at t0;have HQ:=hid hq;obtain⟨nf,hnf⟩:∃ nf,T.fields.length=nf:=⟨_,rfl⟩;rw[hnf] at t2 hrow;have HNF:=hid hnf;have HTT:=hid hTT;have HROW:=hid hrow;have ycb:=(hb.out.cell (p:=⟨rb,o+i,none⟩) hrb).trans cb;have yt0:=(hb.out.cell (p:=⟨b,0,none⟩) hbw).trans t0;have yt2:=(hb.out.cell (p:=⟨b,2,none⟩) hbw).trans t2;have hfc:nf<=fc/\fc<=maxLen:=by
      obtain⟨a',cap',e1,e2,e3,_⟩:=hrow;simp only[Value.slice.injEq] at e1;rw[zaG,hnf] at e2;omega
     unfold maxLen at hfc;clear hq hnf hTT hrow;go_wp2_with fail
     go_loopw [93] (fun v wy=>∃ j:Nat,v=.int .i64 j/\j<=nf/\Hid (Below wr.heap.size wr wy)/\Hid (∀ l (hl:l<T.fields.length),l<j->q≠69->Wf.aL acc (T.fields[l]).kind=true)) (fun v _=>nf-(RowKit.intOf v).toNat)
     case atStart=>exact⟨0,rfl,Nat.zero_le _,hid (zaB),hid fun l _ h=>by omega⟩
     case round =>
      obtain⟨j,rfl,hj,hb2,hok2⟩:=hrel;have HBB:=hid (hb.out.trans (hb2.out.mono hb.out.size));by_cases hjn:j<nf
      ·have hjf:j<T.fields.length:=by rw[HNF.out];exact hjn
       obtain⟨o',hfa,hfbw,_,_,hcell⟩:=RowK.get HROW.out (i:=j) (by rw[zaG];exact hjf);subst hfa;obtain⟨f,hff⟩:∃ f,T.fields[j]=f:=⟨_,rfl⟩;have HFF:=hid hff;have hmem:f∈T.fields:=(by rw[<-hff];exact zaQ _);have hTm:T∈acc:=(by rw[<-HTT.out];exact zaQ _);have e0:(T.fields.map (fdC T.sort))[j]'(by rw[zaG];exact hjf)=fdC T.sort f:=(by rw[zaR,hff]);rw[e0] at hcell;have zt0:=(HBB.out.cell (p:=⟨b,0,none⟩) hbw).trans t0;have hHAS:=fun wz hz=>has acc _ _ f.kind _ wz hz HSC.out ((HGD.out T hTm).2 f hmem);clear hff e0;by_cases hq69:q=69
       ·obtain⟨s2,s3,s4,s5,hfc4⟩:=eD T.sort f
        rw[hfc4] at hcell;have g:=fun k u hk hu=>(HBB.out.cell (p:=⟨fb,o'+j*6+k,none⟩) hfbw).trans (hcell k u hk hu);have g0:wr.cell? ⟨fb,o'+j*6,none⟩=some (.int .i64 f.tag):=g 0 _ (by decide) rfl;have g1:=g 1 _ (by decide) rfl;have g2:=g 2 _ (by decide) rfl;have g3:=g 3 _ (by decide) rfl;have g4:=g 4 _ (by decide) rfl;have g5:=g 5 _ (by decide) rfl;subst hq69;have hbw2:b<wr.heap.size:=zaC hbw HBB.out.size;clear g hcell hHAS hfc4;go_wp2_with fail
        go_roundw
        case rel=>exact⟨j+1,by go_num,by omega,hid (hb2.out.alloc hb2.out.size _),hid fun l hl hlj h=>absurd rfl h⟩
        case measure=>simp[RowKit.intOf];omega
       ·have hs69:T.sort≠69:=fun e=>hq69 (by rw[<-HQ.out,e];rfl)
        have hfc5:fdC T.sort f=[.int .i64 f.tag,tx f.name,tx f.kind.signs,tx f.kind.base,tx f.kind.name,tx f.given]:=(by unfold fdC;rw[if_neg hs69]);rw[hfc5] at hcell;obtain⟨SG,hSG⟩:∃ SG:ByteArray,(⟨f.kind.signs.toArray⟩:ByteArray)=SG:=⟨_,rfl⟩;obtain⟨BS,hBS⟩:∃ BS:ByteArray,(⟨f.kind.base.toArray⟩:ByteArray)=BS:=⟨_,rfl⟩;obtain⟨NM,hNM⟩:∃ NM:ByteArray,(⟨f.kind.name.toArray⟩:ByteArray)=NM:=⟨_,rfl⟩;simp only[kV,tx,hSG,hBS,hNM] at hHAS;simp only[tx,hSG,hBS,hNM] at hcell;have g:=fun k u hk hu=>(HBB.out.cell (p:=⟨fb,o'+j*6+k,none⟩) hfbw).trans (hcell k u hk hu);have g0:wr.cell? ⟨fb,o'+j*6,none⟩=some (.int .i64 f.tag):=g 0 _ (by decide) rfl;have g1:=g 1 _ (by decide) rfl;have g2:=g 2 _ (by decide) rfl;have g3:=g 3 _ (by decide) rfl;have g4:=g 4 _ (by decide) rfl;have g5:=g 5 _ (by decide) rfl;have t69:((q:Int) != 69)=true:=(by rw[bne_iff_ne];omega);have hbw2:b<wr.heap.size:=zaC hbw HBB.out.size;have HHAS:=hid hHAS;clear g hcell hHAS hfc5;cases hhr:Wf.aL acc f.kind with
        | false =>
         rw[hhr] at HHAS;have HNO:=hid (show Wf.schemaOf s.data.toList=none by rw[HSO.out,a0Q hTm hs69 hmem hhr];simp);clear hhr;go_wp2_with (go_at_call 56;refine(HHAS.out _ (HBB.out.alloc HBB.out.size _)).mono ?_;rintro e w6 ⟨rfl,hb6⟩;have HB6:=hid hb6;clear hb6)
         go_ret2
         exact⟨eT HNO.out ⟨_,rfl⟩,((HBW.out.trans (HBB.out.mono HBW.out.size)).alloc (zaI HBW.out.size HBB.out.size) _).trans (HB6.out.mono (by have:=HBB.out.size;have:=HBW.out.size;simp;omega))⟩
        | true =>
         rw[hhr] at HHAS;have HHR:=hid hhr;clear hhr;go_wp2_with (go_at_call 56;refine(HHAS.out _ (HBB.out.alloc HBB.out.size _)).mono ?_;rintro e w6 ⟨rfl,hb6⟩;have HB6:=hid hb6;clear hb6)
         go_roundw
         case rel=>exact⟨j+1,by go_num,by omega,hid ((hb2.out.alloc hb2.out.size _).trans (HB6.out.mono (by have:=hb2.out.size;simp;omega))),hid fun l hl hlj h=>by
          by_cases hlj2:l=j
          ·subst hlj2;rw[HFF.out];exact HHR.out
          ·exact hok2.out l hl (by omega) h⟩
         case measure=>simp[RowKit.intOf];omega
      ·have hjn2:j=nf:=by omega
       subst hjn2;go_wp2_with fail
       go_roundw
       case rel=>exact⟨i+1,by go_num,by omega,HBB,hid fun l hl hli=>by
        by_cases hl2:l=i
        ·subst hl2
         rw[HTT.out];unfold okT;by_cases h69:T.sort=69
         ·rw[decide_eq_true h69,Bool.true_or]
         ·have hq69:q≠69:=fun e=>h69 (UInt8.toNat_inj.1 (by rw[HQ.out,e];rfl))
          rw[decide_eq_false h69,Bool.false_or,List.all_eq_true];intro f hf;obtain⟨k,hk,rfl⟩:=List.mem_iff_getElem.1 hf;exact hok2.out k hk (by rw[<-HNF.out];exact hk) hq69
        ·exact hok.out l hl (by omega)⟩
       case measure=>simp[RowKit.intOf];omega
    ·have hin2:i=n:=by omega
     subst hin2;have HREF:=hid (uX fun l hl=>hok.out l hl (by rw[<-HN.out];exact hl));have zsb:=(hb.out.cell (p:=⟨w.heap.size+1,0,none⟩) hsb).trans x0;go_wp2_with fail
     go_loopw [116] (fun v wy=>∃ j:Nat,v=.int .i64 j/\j<=i/\Hid (Below wr.heap.size wr wy)/\Hid (∀ l (hl:l<acc.length),l<j->Wf.endsIn acc 9 acc[l]=true)) (fun v _=>i-(RowKit.intOf v).toNat)
     case atStart=>exact⟨0,rfl,Nat.zero_le _,hid (zaB),hid fun l _ h=>by omega⟩
     case round =>
      obtain⟨j,rfl,hj,hb2,hok2⟩:=hrel;have HBB:=hid (hb.out.trans (hb2.out.mono hb.out.size));by_cases hjn:j<i
      ·have hjx:j<acc.length:=by rw[HN.out];exact hjn
       obtain⟨o,b,hxa,hrb,cb,hT⟩:=HTY.out j hjx;subst hxa;have ycb:=(HBB.out.cell (p:=⟨rb,o+j,none⟩) hrb).trans cb;have hENDS:=fun wz hz=>ends acc _ _ _ wz hz HSC.out HGD.out HREF.out acc[j] (zaQ _) b hT;have HENDS:=hid hENDS;clear hENDS hT;cases he:Wf.endsIn acc 9 acc[j] with
       | false =>
        rw[he] at HENDS;have HNO:=hid (show Wf.schemaOf s.data.toList=none by
         rw[HSO.out,if_neg];rintro⟨_,h⟩;rw[List.all_eq_true] at h;rw[h _ (zaQ hjx)] at he;cases he)
        clear he;go_wp2_with (go_at_call 70;refine(HENDS.out _ HBB.out).mono ?_;rintro e w6 ⟨rfl,hb6⟩;have HB6:=hid hb6;clear hb6)
        go_ret2
        exact⟨eT HNO.out ⟨_,rfl⟩,(HBW.out.trans (HBB.out.mono HBW.out.size)).trans (HB6.out.mono (by have:=HBB.out.size;have:=HBW.out.size;omega))⟩
       | true =>
        rw[he] at HENDS;have HE:=hid he;clear he;go_wp2_with (go_at_call 70;refine(HENDS.out _ HBB.out).mono ?_;rintro e w6 ⟨rfl,hb6⟩;have HB6:=hid hb6;clear hb6)
        go_roundw
        case rel=>exact⟨j+1,by go_num,by omega,hid (hb2.out.trans (HB6.out.mono hb2.out.size)),hid fun l hl hlj=>by
         by_cases hlj2:l=j
         ·subst hlj2;exact HE.out
         ·exact hok2.out l hl (by omega)⟩
        case measure=>simp[RowKit.intOf];omega
      ·have hjn2:j=i:=by omega
       subst hjn2;have HYES:=hid (show Wf.schemaOf s.data.toList=some acc by
        have hall:acc.all (Wf.endsIn acc 9)=true:=by
         rw[List.all_eq_true];intro u hu;obtain⟨l,hl,rfl⟩:=List.mem_iff_getElem.1 hu;exact hok2.out l hl (by rw[<-HN.out];exact hl)
        rw[HSO.out,if_pos ⟨HREF.out,hall⟩])
       go_wp2_with fail
       go_ret2
       exact⟨uD HYES.out ⟨w.heap.size+1,rfl,HSC.out.below HBB.out⟩,HBW.out.trans (HBB.out.mono HBW.out.size)⟩
  | false =>
   obtain⟨line,rest,ok,hcut⟩:∃ line rest ok,Wf.cut1 10 cur.data.toList=(line,rest,ok):=⟨_,_,_,rfl⟩;have hlen:=kC 10 cur.data.toList;rw[hcut,aE] at hlen;dsimp only at hlen;have HMW:=hid (HM.out.below hh.out.2.below);have HC:=hid (lX cur 10 m wr (by omega) HMW.out);rw[hcut] at HC;have HCE:=hid (show cur.data.toList≠[] by
    intro e;rw[zaZ,e] at hce;cases hce)
   obtain⟨k,hkk⟩:∃ k,acc.length=k:=⟨_,rfl⟩;have HKK:=hid hkk;have h8:=hh.out.2.l8;have c0:=hh.out.2.c0;have c1:=hh.out.2.c1;rw[hkk] at h8 c0;cases ok with
   | false =>
    have HNO:=hid (jC HL.out (by rw[hh.out.1];exact wM HCE.out (by rw[hcut])));clear hcut hkk;go_wp2_with (go_at_call 68;refine HC.out.mono ?_;rintro e w1 ⟨rfl,dk,rfl⟩)
    go_ret2
    exact⟨eT HNO.out ⟨_,rfl⟩,bN hh.out.2.below _⟩
   | true =>
    have HQ:=hid (linesQ_step (acc:=acc) (s:=cur.data.toList) (by rw[hcut]));rw[hcut,hkk] at HQ;dsimp only at HQ;have HLT:=hid (show rest.length<cur.size by
     have h1:=congrArg List.length (Wf.eB (c:=10) (s:=cur.data.toList) (by rw[hcut])).1;rw[hcut,zaD,zaF,aE] at h1;dsimp only at h1;omega)
    by_cases hk8:k=8
    ·have HNO:=hid (jC HL.out (by rw[hh.out.1,HQ.out,if_pos hk8]))
     clear hcut hkk;go_wp2_with (go_at_call 68;refine HC.out.mono ?_;rintro e w1 ⟨rfl,dk,rfl⟩)
     go_ret2
     exact⟨eT HNO.out ⟨_,rfl⟩,bN hh.out.2.below _⟩
    ·rw[if_neg hk8] at HQ
     have HT:=hid fun d=>a0X ⟨line.toArray⟩ m (wr.drewN d) (HMW.out.below (bN (zaB) d)) (by rw[aR];omega);clear hcut hkk;cases hlt:Wf.lineTy line with
     | none =>
      have HNO:=hid (jC HL.out (by rw[hh.out.1,HQ.out,hlt]));have HLN:=hid hlt;clear hlt;go_wp2_with (first|(go_at_call 69;refine(HT.out _).mono ?_;rintro e w3 ⟨ho,hb3⟩;obtain⟨p,rfl⟩:=ho.no HLN.out;have HB3:=hid hb3;clear ho hb3)|(go_at_call 68;refine HC.out.mono ?_;rintro e w1 ⟨rfl,dk,rfl⟩))
      go_quiet (fail)
      go_wp2_with fail
      go_ret2
      exact⟨eT HNO.out ⟨_,rfl⟩,by have B:=(bN hh.out.2.below dk).trans (HB3.out.mono hh.out.2.below.size);repeat (first|with_reducible exact B|with_reducible refine zbE ?_|with_reducible refine bN ?_ _)⟩
     | some t =>
      have HLN:=hid hlt;rw[hlt] at HQ;dsimp only at HQ;obtain⟨TN,hTN⟩:∃ TN:ByteArray,(⟨t.name.toArray⟩:ByteArray)=TN:=⟨_,rfl⟩;have HTN:=hid hTN;have HTS:=hid (show TN.size<=maxLen by
       have hn:=(Wf.lZ hlt).name;unfold Wf.isName at hn;simp only[Bool.and_eq_true,decide_eq_true_eq] at hn;rw[<-hTN,aR];unfold maxLen;omega)
      clear hlt hTN;have hsb:w.heap.size+1<wr.heap.size:=(by omega);cases hany:acc.any (fun u=>u.name==t.name) with
      | true =>
       have HNO:=hid (jC HL.out (by rw[hh.out.1,HQ.out,if_pos hany]));obtain⟨b',hbk⟩:∃ b',cL acc bs t.name=some b':=by
        obtain⟨u,hu⟩:=wG hany;obtain⟨i,_,_,_,h⟩:=sE hh.out.2.len hu;exact⟨_,h⟩
       have HLK:=hid fun wz (hb:Below wr.heap.size wr wz)=>(by
        have:=(hh.out.2.map.below hb).look TN HTS.out;rw[<-HTN.out,hbk] at this;rw[<-HTN.out];exact this:(Instr.lookup 114 (.map (some w.heap.size)) (.string TN) false).run Tryz.prog wz=.ok (ptr b') wz)
       clear hany hbk;go_wp2_with (first|(go_at_call 69;refine(HT.out _).mono ?_;rintro e w3 ⟨ho,hb3⟩;obtain⟨tb,rfl,hT⟩:=ho.yes HLN.out;have g1:=hT.name;rw[tx,HTN.out] at g1;have HT3:=hid hT;have B3:=(bN (Below.refl wr.heap.size wr) dk).trans hb3;have y0:=(B3.cell (p:=⟨w.heap.size+1,0,none⟩) hsb).trans c0;have y1:=(B3.cell (p:=⟨w.heap.size+1,1,none⟩) hsb).trans c1;have l0:=HLK.out w3 B3;have l1:=HLK.out w3.drew B3.drew;have HB3:=hid B3;clear ho hb3 B3 hT)|(go_at_call 68;refine HC.out.mono ?_;rintro e w1 ⟨rfl,dk,rfl⟩))
       go_region
       all_goals go_wp2_with fail
       all_goals go_ret2
       all_goals exact⟨eT HNO.out ⟨_,rfl⟩,by have B:=hh.out.2.below.trans (HB3.out.mono hh.out.2.below.size);repeat (first|with_reducible exact B|with_reducible refine zbE ?_|with_reducible refine bN ?_ _)⟩
      | false =>
       have HANY:=hid hany;rw[hany,if_neg (by decide)] at HQ;have HLK:=hid fun wz (hb:Below wr.heap.size wr wz)=>(by
        have:=(hh.out.2.map.below hb).look TN HTS.out;rw[<-HTN.out,sN (wX hany)] at this;rw[<-HTN.out];exact this:(Instr.lookup 114 (.map (some w.heap.size)) (.string TN) false).run Tryz.prog wz=.ok (.pointer none) wz)
       clear hany;obtain⟨i0,hi0,hz0,hz1,hz2⟩:=info_parts uQ;have HI0:=hid hi0;have HZ0:=hid hz0;have HZ1:=hid hz1;have HZ2:=hid hz2;have HOWN:=hid (show wr.ownsRow (w.heap.size+2) 65 1 (.slice a k c) k (bs.map ptr) by
        have:=hh.out.2.own;rw[HKK.out] at this;exact this)
       clear hi0 hz0 hz1 hz2;go_wp2_with (first|(go_at_call 69;refine(HT.out _).mono ?_;rintro e w3 ⟨ho,hb3⟩;obtain⟨tb,rfl,hT⟩:=ho.yes HLN.out;have g1:=hT.name;rw[tx,HTN.out] at g1;have HT3:=hid hT;have B3:=(bN (Below.refl wr.heap.size wr) dk).trans hb3;have y0:=(B3.cell (p:=⟨w.heap.size+1,0,none⟩) hsb).trans c0;have y1:=(B3.cell (p:=⟨w.heap.size+1,1,none⟩) hsb).trans c1;have l0:=HLK.out w3 B3;have l1:=HLK.out w3.drew B3.drew;have HB3:=hid B3;clear ho hb3 B3 hT)|(go_at_call 68;refine HC.out.mono ?_;rintro e w1 ⟨rfl,dk,rfl⟩))
       go_region
       clear l0 l1;have hb3s:wr.heap.size<=w3.heap.size:=HB3.out.size;go_wp2_with (at_builtin;refine wpList_append_own_at _ rfl (.tmp 63) (.tmp 65) 113 rfl (w.heap.size+2) 65 i0 (.pointer none) 1 8 Tryz.underlying113 HI0.out HZ0.out HZ1.out HZ2.out rfl (by decide) (.slice a k c) k _ rfl (((bY HOWN.out HB3.out).alloc _).drew) ⟨w3.heap.size,0,none⟩ 1 1 [ptr tb] rfl rfl ?hn ?h1 (by unfold maxLen;omega) (by omega) ?hb ?next)
       case hn=>exact a2J w3 _ _
       case h1=>intro u hu;rw[List.mem_singleton.1 hu];rfl
       case hb=>simp;omega
       case next =>
        intro v1 w4 ho4 hg4 _ hloc;obtain⟨a2,c2,rfl⟩:=kG ho4;have hlo:=aU HOWN.out;have B4:Below (w.heap.size+2) (w3.alloc (.cells #[ptr tb] 65)).drew w4:=aW hg4 (fun g hg=>(hlo g hg).1) (by simp;omega);have h4s:w3.heap.size+1<=w4.heap.size:=(by have:=hg4.size;simpa using this);have hw3:w.heap.size+1<w3.heap.size:=(by omega);have al:=fun o=>(zbB w3 (.cells #[ptr tb] 65) ⟨w.heap.size+1,o,none⟩ hw3);have z0:w4.cell? ⟨w.heap.size+1,0,none⟩=some (.slice a k c):=(B4.cell (p:=⟨w.heap.size+1,0,none⟩) (zaH _)).trans ((al 0).trans y0);have z1:w4.cell? ⟨w.heap.size+1,1,none⟩=some (.map (some w.heap.size)):=(B4.cell (p:=⟨w.heap.size+1,1,none⟩) (zaH _)).trans ((al 1).trans y1);have zf:w4.frozen? ⟨w.heap.size+1,0,none⟩=false:=(B4.frozen (p:=⟨w.heap.size+1,0,none⟩) (zaH _)).trans ((((Below.refl w3.heap.size w3).alloc (zaA) _).frozen (p:=⟨w.heap.size+1,0,none⟩) hw3).trans ((HB3.out.frozen (p:=⟨w.heap.size+1,0,none⟩) hsb).trans hh.out.2.f0));have htl:=HT3.out.lt;have htb2:=HT3.out.le;have htb:wr.heap.size<=tb:=htb2;have z2:w4.cell? ⟨tb,1,none⟩=some (.string TN):=by
         refine(hg4.cell_far ⟨tb,1,none⟩ (by simp;omega) (fun e=>?_)).trans ((zbB w3 (.cells #[ptr tb] 65) ⟨tb,1,none⟩ htl).trans g1);have:=(hlo tb e.symm).2;omega
        have htne:¬ w.heap.size+1=tb:=(by omega);have htne2:¬ tb=w.heap.size+1:=(by omega);have hsb4:w.heap.size+1<w4.heap.size:=(by omega);have htb4:tb<w4.heap.size:=(by omega);obtain⟨W,hW⟩:∃ W,(w4.setCell ⟨w.heap.size+1,0,none⟩ (.slice a2 (k+1) c2)).drew=W:=⟨_,rfl⟩;have hWs:W.heap.size=w4.heap.size:=(by rw[<-hW];simp);have hmW:bB W w.heap.size k (cL acc bs):=by
         have h1:=hh.out.2.map.below HB3.out;rw[HKK.out] at h1;refine h1.same ?_;have e1:W.heap[w.heap.size]? = w4.heap[w.heap.size]?:=by
          rw[<-hW];exact Below.heap_setCell w4 ⟨w.heap.size+1,0,none⟩ _ _ (Nat.ne_of_lt (zaH _))
         rw[e1,B4.block _ (by omega)];exact Below.heap_alloc w3 _ _ (by omega)
        obtain⟨w5,hrun,hm5,hg5⟩:=hmW.put (by unfold maxLen;omega) TN HTS.out tb;rw[<-HTN.out] at hm5;have HM5:=hid (show bB w5 w.heap.size (k+1) (fQ (cL acc bs) t.name tb) from hm5);rw[<-hW] at hrun hg5;have HG5:=hid (show(w4.setCell ⟨w.heap.size+1,0,none⟩ (.slice a2 (k+1) c2)).grownBy w5 (some w.heap.size) from⟨hg5.os,hg5.tape,hg5.output,hg5.size,hg5.block⟩);have HPUT:=hid (hh.out.2.put (wx:=w3) (wy:=(w3.alloc (.cells #[ptr tb] 65)).drew) HB3.out HT3.out (((zaB).alloc (zaA) _).drew) (by rw[HKK.out];exact hg4) (a':=a2) (c':=c2) (by rw[HKK.out];exact ho4) (by rw[HKK.out];simpa using hloc) (by rw[HKK.out];exact HM5.out) (by rw[HKK.out];exact HG5.out) HANY.out (by rw[HKK.out];omega));clear ho4 hg4 hloc B4 hm5 hg5 hmW hWs hW al hlo;go_wp2_with fail
        go_region
        go_wp2_with fail
        go_roundw
        case rel=>exact⟨⟨rest.toArray⟩,acc++[t],bs++[tb],a2,c2,rfl,by rw[aR];omega,hid ⟨by rw[hh.out.1,HQ.out],HPUT.out⟩⟩
        case measure=>simp only[strLen,aR];exact HLT.out
theorem hJ (s:ByteArray) (m:Int) (w:World) (hm:ML m w) (hs:s.size<=1048576):Calls Tryz.prog 44 #[.string s] w fun e w'=>cH s.data.toList w.heap.size e w'/\Below w.heap.size w w':=by
 by_cases h4:s.size<=400
 ·exact zR s m w hm h4
 ·have HNO:=hid (show Wf.schemaOf s.data.toList=none by
   unfold Wf.schemaOf;rw[if_pos (by rw[aE];omega)])
  clear hm;go_enter Tryz.func44,Tryz.ntmps44;go_wp2_with fail
  go_ret2
  exact⟨eT HNO.out ⟨_,rfl⟩,zaB⟩
