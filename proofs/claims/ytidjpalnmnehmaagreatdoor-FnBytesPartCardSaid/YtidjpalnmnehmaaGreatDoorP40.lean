/- Packed. -/
import Derived.Test.YtidjpalnmnehmaaGreatDoorP39
set_option maxRecDepth 99999
set_option maxHeartbeats 40000000
set_option linter.all false
namespace Go.Proofs.YtidjpalnmnehmaaGreatDoor
open Go.ChangeShapes Go.WideShapes Go.ChangeAt Go.RowKit Go.Lib
def gM (e:Ending):Prop:=e=.returned (.tuple #[.pointer none,.agg #[.int .u8 0,.string ⟨#[]⟩,.int .i64 0,.slice none 0 0],.bool false])
def cQ (l kt s:List UInt8) (g:Int) (lo:Nat) (e:Ending) (w':World):Prop:=match valOf l kt s with
 | some y=>(match Wf.cR y.1.1 y.1.2 g with
  | some f=>∃ fb o cs,e=.returned (.tuple #[.pointer (some ⟨fb,o,none⟩),.agg cs.toArray,.bool true])/\FdAt w' fb o 82 f/\VC w' (fun b=>lo<=b) y.2 cs
  | none=>gM e)
 | none=>gM e
theorem TyL.xR {w:World} {lo b:Nat} {t:Wf.Ty} (h:TyL w lo b t):∃ fb a c,lo<=fb/\b<w.heap.size/\w.cell? ⟨b,2,none⟩=some (.slice a t.fields.length c)/\t.fields.length<=c/\c<=maxLen/\∀ i (hi:i<t.fields.length),∃ o,a=some ⟨fb,o,none⟩/\FdAt w fb (o+i*6) t.sort t.fields[i]:=by
 obtain⟨fb,a,c,line,_,hlo,hb,_,_,c2,_,hr⟩:=h;have hl:t.fields.length<=c/\c<=maxLen:=by
  obtain⟨a',cap',e1,e2,e3,_⟩:=hr;simp only[Value.slice.injEq] at e1;rw[List.length_map] at e2;omega
 refine⟨fb,a,c,hlo,hb,c2,hl.1,hl.2,fun i hi=>?_⟩;obtain⟨o,ha,hfb,_,_,hcell⟩:=hr.get (i:=i) (by rw[List.length_map];exact hi);have e0:(t.fields.map (fdC t.sort))[i]'(by rw[List.length_map];exact hi)=fdC t.sort t.fields[i]:=by rw[List.getElem_map]
 rw[e0] at hcell;refine⟨o,ha,hfb,fun j u hu=>hcell j u ?_ hu⟩;have:=(List.getElem?_eq_some_iff.1 hu).1;rw[oE] at this;exact this
def jC (W:World) (t:Wf.Ty) (g:Int) (lo:Nat) (e:Ending):Prop:=match bB t g with
 | some f=>∃ fb o,e=.returned (.pointer (some ⟨fb,o,none⟩))/\FdAt W fb o t.sort f/\lo<=fb
 | none=>e=.returned (.pointer none)
theorem yY (t:Wf.Ty) (ht:t.fields.length<=1000) (g:Int) (lo tb:Nat) (W w:World) (hW:Below W.heap.size W w) (hT:TyL W lo tb t):Calls Tryz.prog 40 #[ptr tb,.int .i64 g] w fun e w'=>jC W t g lo e/\w=w':=by
 obtain⟨fb,a,c,hlo,hb,c2,hnc,hcm,hrow⟩:=hT.xR;have HROW:=hid hrow;obtain⟨n,hn⟩:∃ n,t.fields.length=n:=⟨_,rfl⟩;have HN:=hid hn;rw[hn] at ht c2 hnc;have y2:=(hW.cell (p:=⟨tb,2,none⟩) hb).trans c2;have HW:=hid hW;clear hrow hn c2 hT;go_enter Tryz.func40,Tryz.ntmps40;go_wp2_with fail
 go_loop [11] (fun v=>∃ k:Nat,k<=n/\v=.int .i64 k/\Hid (∀ j (hj:j<t.fields.length),j<k->((t.fields[j]).tag:Int)≠g)) (fun v=>n-(RowKit.intOf v).toNat)
 case atStart=>exact⟨0,Nat.zero_le _,rfl,hid fun j hj h=>by omega⟩
 case round =>
  obtain⟨k,hk,rfl,hno⟩:=hrel;by_cases hlt:k<n
  ·have hkx:k<t.fields.length:=by rw[HN.out];exact hlt
   obtain⟨o,rfl,hfd⟩:=HROW.out k hkx;have HFD:=hid hfd;have e0:(fdC t.sort t.fields[k])[0]? = some (.int .i64 (t.fields[k]).tag):=by
    obtain⟨_,_,_,_,h⟩:=dW t.sort t.fields[k];rw[h];rfl
   have z0:w.cell? ⟨fb,o+k*6,none⟩=some (.int .i64 (t.fields[k]).tag):=(HW.out.cell (p:=⟨fb,o+k*6,none⟩) hfd.1).trans (hfd.2 0 _ e0);obtain⟨G,hG⟩:∃ G,(t.fields[k]).tag=G:=⟨_,rfl⟩;rw[hG] at z0;have HG:=hid hG;clear hfd e0 hG;cases hq:((G:Int)==g) with
   | true =>
    have HF:=hid (show bB t g=some t.fields[k] from mE hkx hno.out (by rw[HG.out];simpa using hq));have hge:(G:Int)=g:=(by simpa using hq);subst hge;clear hq;go_wp2_with fail
    go_ret
    exact⟨by unfold jC;rw[HF.out];exact⟨fb,o+k*6,rfl,HFD.out,hlo⟩,rfl⟩
   | false =>
    have hne:Hid ((G:Int)≠g):=hid (by simpa using hq);go_wp2_with fail
    go_round
    case rel=>exact⟨k+1,by omega,by go_num,hid fun j hj hjk=>by
     by_cases hj2:j=k
     ·subst hj2;rw[HG.out];exact hne.out
     ·exact hno.out j hj (by omega)⟩
    case measure=>simp[RowKit.intOf];omega
  ·have hkn:k=n:=by omega
   subst hkn;have HF:=hid (show bB t g=none from kK fun j hj=>hno.out j hj (by rw[<-HN.out];exact hj));go_wp2_with fail
   go_ret
   exact⟨by unfold jC;rw[HF.out];rfl,rfl⟩
theorem FdAt.over {w w':World} {fb o lo:Nat} {q:UInt8} {f:Wf.Fd} (h:FdAt w fb o q f) (hlo:lo<=fb) (hb:Over lo w w'):FdAt w' fb o q f :=
 ⟨Nat.lt_of_lt_of_le h.1 hb.size,fun j u hu=>(World.cell?_of_block (w:=w) (w':=w') (a:=⟨fb,o+j,none⟩) (hb.block fb hlo h.1)).trans (h.2 j u hu)⟩
theorem zY (s kt v:ByteArray) (g:Int) (m:Int) (w:World) (hm:ML m w) (hs:s.size<=1048576) (hkt:kt.size<=1048576) (hv:v.size<=1048576):Calls Tryz.prog 43 #[.string s,.string kt,.string v,.int .i64 g] w fun e w'=>cQ s.data.toList kt.data.toList v.data.toList g w.heap.size e w'/\Below w.heap.size w w':=by
 have W0:=(Below.refl w.heap.size w).alloc (Nat.le_refl _) (.cells #[.int .u8 0,.string ⟨#[]⟩,.int .i64 0,.slice none 0 0] 51);have HG:=hid (given s kt v m _ (hm.below W0) hs hkt hv);clear hm W0;cases hvo:valOf s.data.toList kt.data.toList v.data.toList with
 | none =>
  have HO:=hid fun lo e w' (h:bN s.data.toList kt.data.toList v.data.toList lo e w')=>(by unfold bN at h;rw[hvo] at h;exact h:∃ p a b c,e=.returned (.tuple #[.pointer p,.agg #[.string a,.string b,.string c],.agg #[.int .u8 0,.string ⟨#[]⟩,.int .i64 0,.slice none 0 0],.bool false]));have HD:=hid fun(e:Ending) (w':World) (h:gM e)=>(show cQ s.data.toList kt.data.toList v.data.toList g w.heap.size e w' by unfold cQ;rw[hvo];exact h);clear hvo;go_enter Tryz.func43,Tryz.ntmps43;go_wp2_with (go_at_call 27;refine HG.out.mono ?_;rintro e w2 ⟨ho,hb2⟩;obtain⟨p,a,b,c,rfl⟩:=HO.out _ _ _ ho;have Z2:=hid ((eQ w).below hb2 (by simp));have HB2:=hid (aC ((Below.refl w.heap.size w).alloc (Nat.le_refl _) _) hb2);obtain⟨zl,zr0,zr1,zr2,zr3,zf0,zf1,zf2,zf3⟩:=Z2.out;clear ho hb2)
  all_goals exact bodyPost_ret (v:=.tuple #[.pointer none,.agg #[.int .u8 0,.string ⟨#[]⟩,.int .i64 0,.slice none 0 0],.bool false]) (by simp[results,Tryz.results43,go_sem, *]) rfl ⟨HD.out _ _ rfl,by have B:=HB2.out;have hB:=B.size;repeat (first|with_reducible exact B|with_reducible refine Below.drew ?_|with_reducible refine Below.setCell ?_ (by first|(simp;done)|(simp;omega)) _|with_reducible refine Below.alloc ?_ (by first|exact B.size|(simp;omega)) _)⟩
 | some y =>
  obtain⟨⟨x,k⟩,u⟩:=y;obtain⟨hko,hvi⟩:=eN hvo;obtain⟨hx,hk⟩:=jB hko;obtain⟨SG,hSG⟩:∃ SG:ByteArray,(⟨k.signs.toArray⟩:ByteArray)=SG:=⟨_,rfl⟩;obtain⟨BS,hBS⟩:∃ BS:ByteArray,(⟨k.base.toArray⟩:ByteArray)=BS:=⟨_,rfl⟩;obtain⟨NM,hNM⟩:∃ NM:ByteArray,(⟨k.name.toArray⟩:ByteArray)=NM:=⟨_,rfl⟩;have hkv:kV k=.agg #[.string SG,.string BS,.string NM]:=by simp only[kV,tx,hSG,hBS,hNM]
  have HO:=hid fun lo e w' (h:bN s.data.toList kt.data.toList v.data.toList lo e w')=>(by unfold bN at h;rw[hvo] at h;dsimp only at h;rw[hkv] at h;exact h:∃ sb cs,e=.returned (.tuple #[ptr sb,.agg #[.string SG,.string BS,.string NM],.agg cs.toArray,.bool true])/\ScL w' lo sb x/\VC w' (fun b=>lo<=b) u cs);cases hrt:Wf.recTy x k with
  | none =>
   have HD:=hid fun(e:Ending) (w':World) (h:gM e)=>(show cQ s.data.toList kt.data.toList v.data.toList g w.heap.size e w' by unfold cQ;rw[hvo];dsimp only;rw[show Wf.cR x k g=none by unfold Wf.cR;rw[hrt];rfl];exact h);have HR:=hid fun(lo sb:Nat) (W wz:World) (hsc:ScL W lo sb x) (hz:Below W.heap.size W wz)=>(by
    have h:=record x hx lo sb k hk W wz hsc hz;rw[hrt,hkv] at h;exact h:Calls Tryz.prog 36 #[ptr sb,.agg #[.string SG,.string BS,.string NM]] wz fun e w'=>(∃ p,e=.returned (.tuple #[.pointer p,.bool false]))/\Below wz.heap.size wz w')
   clear hvo hko hvi hSG hBS hNM hkv hrt;go_enter Tryz.func43,Tryz.ntmps43;go_wp2_with (first|(go_at_call 36;refine(HR.out _ _ _ _ HSC.out (by first|exact((Below.refl _ _).alloc (Nat.le_refl _) _).alloc (by simp) _)).mono ?_;rintro e w3 ⟨⟨p,rfl⟩,hb3⟩;have HB3:=hid (aC ((HB2.out.alloc HB2.out.size _).alloc (by have:=HB2.out.size;simp;omega) _) hb3);obtain⟨zl,zr0,zr1,zr2,zr3,zf0,zf1,zf2,zf3⟩:=(Z2.out.below (((Below.refl w2.heap.size w2).alloc (Nat.le_refl _) _).alloc (by simp) _) Z2.out.lt).below hb3 (by have:=Z2.out.lt;simp;omega);clear hb3)|(go_at_call 27;refine HG.out.mono ?_;rintro e w2 ⟨ho,hb2⟩;obtain⟨sb,cs,rfl,hsc,hvc⟩:=HO.out _ _ _ ho;obtain⟨q,gg,n,d,T,sa,rfl⟩:=hvc.cK;have HSC:=hid hsc;have Z2:=hid ((eQ w).below hb2 (by simp));have HB2:=hid (aC ((Below.refl w.heap.size w).alloc (Nat.le_refl _) _) hb2);clear ho hb2 hsc hvc))
   all_goals exact bodyPost_ret (v:=.tuple #[.pointer none,.agg #[.int .u8 0,.string ⟨#[]⟩,.int .i64 0,.slice none 0 0],.bool false]) (by simp[results,Tryz.results43,go_sem, *]) rfl ⟨HD.out _ _ rfl,by have B:=HB3.out;have hB:=B.size;repeat (first|with_reducible exact B|with_reducible refine Below.drew ?_|with_reducible refine Below.setCell ?_ (by first|(simp;done)|(simp;omega)) _|with_reducible refine Below.alloc ?_ (by first|exact B.size|(simp;omega)) _)⟩
  | some t =>
   obtain⟨nm,rfl,hft,h82⟩:=Wf.oX hrt;have htl:t.fields.length<=1000:=(by have:=(hx.tys t (Wf.bI hft).1).len;omega);have hrd:Wf.cR x (.ref nm) g=bB t g:=(by unfold Wf.cR;rw[hrt];rfl);have HR:=hid fun(lo sb:Nat) (W wz:World) (hsc:ScL W lo sb x) (hz:Below W.heap.size W wz)=>(by
    have h:=record x hx lo sb (.ref nm) hk W wz hsc hz;rw[hrt,hkv] at h;exact h:Calls Tryz.prog 36 #[ptr sb,.agg #[.string SG,.string BS,.string NM]] wz fun e w'=>(∃ tb,e=.returned (.tuple #[ptr tb,.bool true])/\TyL W lo tb t)/\Below wz.heap.size wz w')
   have HF:=hid fun(lo tb:Nat) (W wz:World) (hT:TyL W lo tb t) (hz:Below W.heap.size W wz)=>field t htl g lo tb W wz hz hT;cases hfi:bB t g with
   | none =>
    have HFI:=hid hfi;have HD:=hid fun(e:Ending) (w':World) (h:gM e)=>(show cQ s.data.toList kt.data.toList v.data.toList g w.heap.size e w' by unfold cQ;rw[hvo];dsimp only;rw[hrd,hfi];exact h);clear hvo hko hvi hSG hBS hNM hkv hrt hfi hrd;go_enter Tryz.func43,Tryz.ntmps43;go_wp2_with (first|(go_at_call 40;refine(HF.out _ _ _ _ HT.out HB23.out).mono ?_;rintro e w4 ⟨ho,rfl⟩;obtain rfl:=ho.no HFI.out;clear ho)|(go_at_call 36;refine(HR.out _ _ _ _ HSC.out (by first|exact((Below.refl _ _).alloc (Nat.le_refl _) _).alloc (by simp) _)).mono ?_;rintro e w3 ⟨⟨tb,rfl,hT⟩,hb3⟩;have HT:=hid hT;have HB23:=hid (aC (((Below.refl w2.heap.size w2).alloc (Nat.le_refl _) _).alloc (by simp) _) hb3);have HB3:=hid (aC ((HB2.out.alloc HB2.out.size _).alloc (by have:=HB2.out.size;simp;omega) _) hb3);obtain⟨zl,zr0,zr1,zr2,zr3,zf0,zf1,zf2,zf3⟩:=(Z2.out.below (((Below.refl w2.heap.size w2).alloc (Nat.le_refl _) _).alloc (by simp) _) Z2.out.lt).below hb3 (by have:=Z2.out.lt;simp;omega);clear hb3 hT)|(go_at_call 27;refine HG.out.mono ?_;rintro e w2 ⟨ho,hb2⟩;obtain⟨sb,cs,rfl,hsc,hvc⟩:=HO.out _ _ _ ho;obtain⟨q,gg,n,d,T,sa,rfl⟩:=hvc.cK;have HSC:=hid hsc;have Z2:=hid ((eQ w).below hb2 (by simp));have HB2:=hid (aC ((Below.refl w.heap.size w).alloc (Nat.le_refl _) _) hb2);clear ho hb2 hsc hvc))
    all_goals exact bodyPost_ret (v:=.tuple #[.pointer none,.agg #[.int .u8 0,.string ⟨#[]⟩,.int .i64 0,.slice none 0 0],.bool false]) (by simp[results,Tryz.results43,go_sem, *]) rfl ⟨HD.out _ _ rfl,by have B:=HB3.out;have hB:=B.size;repeat (first|with_reducible exact B|with_reducible refine Below.drew ?_|with_reducible refine Below.setCell ?_ (by first|(simp;done)|(simp;omega)) _|with_reducible refine Below.alloc ?_ (by first|exact B.size|(simp;omega)) _)⟩
   | some f =>
    have HFI:=hid hfi;have H82:=hid h82;have HF2:=hid fun(lo tb:Nat) (wz:World) (hT:TyL wz lo tb t)=>(by
     refine(yY t htl g lo tb wz wz (Below.refl _ _) hT).mono (R':=fun e w'=>(∃ fb o,e=.returned (.pointer (some ⟨fb,o,none⟩))/\FdAt wz fb o 82 f/\lo<=fb)/\wz=w') fun e w' ⟨h1,h2⟩=>⟨?_,h2⟩;unfold jC at h1;rw[hfi,h82] at h1;exact h1:Calls Tryz.prog 40 #[ptr tb,.int .i64 g] wz fun e w'=>(∃ fb o,e=.returned (.pointer (some ⟨fb,o,none⟩))/\FdAt wz fb o 82 f/\lo<=fb)/\wz=w')
    have HD:=hid fun(e:Ending) (w':World) (h:∃ fb o cs,e=.returned (.tuple #[.pointer (some ⟨fb,o,none⟩),.agg cs.toArray,.bool true])/\FdAt w' fb o 82 f/\VC w' (fun b=>w.heap.size<=b) u cs)=>(show cQ s.data.toList kt.data.toList v.data.toList g w.heap.size e w' by unfold cQ;rw[hvo];dsimp only;rw[hrd,hfi];exact h);clear hvo hko hvi hSG hBS hNM hkv hrt hfi hrd h82;go_enter Tryz.func43,Tryz.ntmps43;go_wp2_with (first|(go_at_call 40;refine(HF.out _ _ _ _ HT.out HB23.out).mono ?_;rintro e w4 ⟨ho,rfl⟩;obtain⟨fb,o,rfl,hfd⟩:=ho.yes HFI.out;have HFD:=hid hfd;clear ho hfd)|(go_at_call 36;refine(HR.out _ _ _ _ HSC.out (by first|exact((Below.refl _ _).alloc (Nat.le_refl _) _).alloc (by simp) _)).mono ?_;rintro e w3 ⟨⟨tb,rfl,hT⟩,hb3⟩;have HT:=hid hT;have x0:w3.cell? ⟨w2.heap.size+1,0,none⟩=some (.int .u8 q):=(hb3.cell (p:=⟨w2.heap.size+1,0,none⟩) (by simp)).trans (by simp);have x1:w3.cell? ⟨w2.heap.size+1,1,none⟩=some (.string T):=(hb3.cell (p:=⟨w2.heap.size+1,1,none⟩) (by simp)).trans (by simp);have x2:w3.cell? ⟨w2.heap.size+1,2,none⟩=some (.int .i64 gg):=(hb3.cell (p:=⟨w2.heap.size+1,2,none⟩) (by simp)).trans (by simp);have x3:w3.cell? ⟨w2.heap.size+1,3,none⟩=some (.slice sa n d):=(hb3.cell (p:=⟨w2.heap.size+1,3,none⟩) (by simp)).trans (by simp);have hl3:w2.heap.size+1<w3.heap.size:=Nat.lt_of_lt_of_le (by simp) hb3.size;have HB23:=hid (aC (((Below.refl w2.heap.size w2).alloc (Nat.le_refl _) _).alloc (by simp) _) hb3);have HB3:=hid (aC ((HB2.out.alloc HB2.out.size _).alloc (by have:=HB2.out.size;simp;omega) _) hb3);obtain⟨zl,zr0,zr1,zr2,zr3,zf0,zf1,zf2,zf3⟩:=(Z2.out.below (((Below.refl w2.heap.size w2).alloc (Nat.le_refl _) _).alloc (by simp) _) Z2.out.lt).below hb3 (by have:=Z2.out.lt;simp;omega);clear hb3 hT)|(go_at_call 27;refine HG.out.mono ?_;rintro e w2 ⟨ho,hb2⟩;obtain⟨sb,cs,rfl,hsc,hvc⟩:=HO.out _ _ _ ho;obtain⟨q,gg,n,d,T,sa,rfl⟩:=hvc.cK;have HSC:=hid hsc;have HVC:=hid hvc;have Z2:=hid ((eQ w).below hb2 (by simp));have HB2:=hid (aC ((Below.refl w.heap.size w).alloc (Nat.le_refl _) _) hb2);clear ho hb2 hsc hvc))
    have HT3:=hid (HT.out.below HB23.out);have HTO:=hid fun(wz:World) (h:Over (w.heap.size+1) w3 wz)=>HF2.out _ tb wz (TyL.keep HT3.out h.size (fun z h1 h2=>h.block z (by simpa using h1) h2));have hnz:¬ (w2.heap.size+1=w.heap.size):=(by have:=Z2.out.lt;omega);have hnz2:¬ (w.heap.size=w2.heap.size+1):=(by have:=Z2.out.lt;omega);go_region_law (((try go_simp);go_at_call 40;refine(HTO.out _ (by repeat (first|with_reducible exact Over.refl _ _|with_reducible refine Over.drew ?_|with_reducible refine Over.setCell ?_ (by simp) _))).mono ?_;rintro e w5 ⟨⟨fb5,o5,rfl,hfd5,hlo5⟩,rfl⟩;have HFD5:=hid hfd5;have HLO5:=hid hlo5;clear hfd5 hlo5))
    all_goals (go_wp2_with fail)
    all_goals exact bodyPost_ret (v:=.tuple #[.pointer (some ⟨fb5,o5,none⟩),.agg #[.int .u8 q,.string T,.int .i64 gg,.slice sa n d],.bool true]) (by simp[results,Tryz.results43,go_sem, *]) rfl (by
     have hR:∀ WF,Over (w.heap.size+1) w3 WF->FdAt WF fb5 o5 82 f->cQ s.data.toList kt.data.toList v.data.toList g w.heap.size (.returned (.tuple #[.pointer (some ⟨fb5,o5,none⟩),.agg #[.int .u8 q,.string T,.int .i64 gg,.slice sa n d],.bool true])) WF:=fun WF hO hF=>HD.out _ _ ⟨fb5,o5,[.int .u8 q,.string T,.int .i64 gg,.slice sa n d],rfl,hF,VC.keep (fun b hp hlt=>⟨Nat.le_trans (by simp) hp,(hO.block b (by simpa using hp) (Nat.lt_of_lt_of_le hlt HB23.out.size)).trans (HB23.out.block b hlt)⟩) (Nat.le_trans HB23.out.size hO.size) _ _ HVC.out⟩;refine⟨hR _ ?_ (FdAt.over HFD5.out HLO5.out ?_),?_⟩
     ·repeat (first|with_reducible exact Over.refl _ _|with_reducible refine Over.drew ?_|with_reducible refine Over.setCell ?_ (by simp) _)
     ·(repeat (first|with_reducible exact Over.refl _ _|with_reducible refine Over.drew ?_|with_reducible refine Over.setCell ?_ (by simp) _))
      all_goals exact⟨Nat.le_refl _,fun _ _ _=>rfl⟩
     ·have B:=HB3.out
      repeat (first|with_reducible exact B|with_reducible refine Below.drew ?_|with_reducible refine Below.setCell ?_ (by first|(simp;done)|(simp;omega)) _))

theorem a5K {es:List (Wf.Fd × Wf.V)} (h:(Wf.recV es).print.length<=400):es.length<=1000:=by
 have h1:=Wf.lP (l:=(es.map Wf.tagged).map Wf.V.print) (by
  intro a ha;obtain⟨e,he,rfl⟩:=List.mem_map.1 ha;obtain⟨d,hd,rfl⟩:=List.mem_map.1 he;rw[Wf.dR];simp)
 rw[Wf.recV,Wf.cV] at h;simp at h1 h;omega
theorem wX (s kt v:ByteArray) (g:Int) (m:Int) (w:World) (hm:ML m w) (hs:s.size<=1048576) (hkt:kt.size<=1048576) (hv:v.size<=1048576):Calls Tryz.prog 22 #[.string s,.string kt,.string v,.int .i64 g] w fun e w'=>e=.returned (vfV (dD s.data.toList kt.data.toList v.data.toList g))/\Below w.heap.size w w':=by
 have HG:=hid (zY s kt v g m w hm hs hkt hv);have HM:=hid hm;have HRS:=hid fun(wz:World) (h:ML m wz)=>gV s m wz h hs;clear hm;have NO:(valOf s.data.toList kt.data.toList v.data.toList=none\/∃ y,valOf s.data.toList kt.data.toList v.data.toList=some y/\Wf.cR y.1.1 y.1.2 g=none)->Calls Tryz.prog 22 #[.string s,.string kt,.string v,.int .i64 g] w fun e w'=>e=.returned (vfV (dD s.data.toList kt.data.toList v.data.toList g))/\Below w.heap.size w w':=fun hno=>by
  have HF:=hid (show vfV (dD s.data.toList kt.data.toList v.data.toList g)=.tuple #[tx [],.bool false] by
   unfold dD;rcases hno with h|⟨y,h,h2⟩
   ·rw[h];rfl
   ·rw[h]
    simp only[Option.bind_some,Wf.gJ,h2];rfl)
  have HO:=hid fun(e:Ending) (w':World) (h:cQ s.data.toList kt.data.toList v.data.toList g w.heap.size e w')=>(show gM e by
   unfold cQ at h;rcases hno with h1|⟨y,h1,h2⟩
   ·rw[h1] at h;exact h
   ·rw[h1] at h;dsimp only at h;rw[h2] at h;exact h)
  clear hno;go_enter Tryz.func22,Tryz.ntmps22;go_wp2_with (go_at_call 43;refine HG.out.mono ?_;rintro e w2 ⟨ho,hb2⟩;obtain rfl:=HO.out _ _ ho;have HB2:=hid hb2;clear ho hb2)
  exact bodyPost_ret (v:=.tuple #[tx [],.bool false]) (by simp[results,Tryz.results22,go_sem, *]) rfl ⟨by rw[HF.out],HB2.out.alloc HB2.out.size _⟩
 cases hvo:valOf s.data.toList kt.data.toList v.data.toList with
 | none=>exact NO (.inl hvo)
 | some y =>
  obtain⟨⟨x,k⟩,u⟩:=y;cases hrf:Wf.cR x k g with
  | none=>exact NO (.inr ⟨_,hvo,hrf⟩)
  | some f =>
   clear NO;obtain⟨hko,hvi⟩:=eN hvo;obtain⟨hx,hk⟩:=jB hko;obtain⟨hsc,_,_,_,_⟩:=iA hko;obtain⟨hty,hsv,hs400⟩:=Wf.gD hvi;obtain⟨nm,t,rfl,hft,h82,hfz⟩:=Wf.rQ hrf;obtain⟨es,hes,rfl⟩:=Wf.rI hty hft h82;obtain⟨hfm,hfg,hff⟩:=Wf.rO hfz;have htx:=(Wf.bI hft).1;have h69:t.sort≠69:=(by rw[h82];decide);have hfk:=eI ((hx.tys t htx).fds f hfm);have hrl:(Wf.recV es).print.length<=400:=(by rw[<-hsv];exact hs400);have hesl:=a5K hrl;have HFI:=hid (show dD s.data.toList kt.data.toList v.data.toList g=some (Wf.getEs x es f) by unfold dD;rw[hvo];simp only[Option.bind_some];rw[Wf.a3D hft h82,hfz];rfl);have HO:=hid fun(e:Ending) (w':World) (h:cQ s.data.toList kt.data.toList v.data.toList g w.heap.size e w')=>(by unfold cQ at h;rw[hvo] at h;dsimp only at h;rw[hrf] at h;exact h:∃ fb o cs,e=.returned (.tuple #[.pointer (some ⟨fb,o,none⟩),.agg cs.toArray,.bool true])/\FdAt w' fb o 82 f/\VC w' (fun b=>w.heap.size<=b) (Wf.recV es) cs);have HRO:=hid fun(lo:Nat) (e:Ending) (w':World) (h:cP s.data.toList lo e w')=>(by unfold cP at h;rw[hsc] at h;exact h:∃ sb,e=.returned (.tuple #[ptr sb,.bool true])/\ScL w' lo sb x);have hfe:∀ d:Wf.Fd × Wf.V,((d.1.tag:Int)==g)=(d.1.tag==f.tag):=fun d=>by
    rw[Bool.eq_iff_iff,beq_iff_eq,beq_iff_eq];omega
   have HGET:=hid (show es.find? (fun d=>(d.1.tag:Int)==g)=es.find? (fun d=>d.1.tag==f.tag) by congr 1;funext d;exact hfe d);have HOF:=hid fun(lo sb fb o:Nat) (W wz:World) (hz:Below W.heap.size W wz) (H:ScL W lo sb x) (hf:FdAt W fb o 82 f)=>of x hx lo sb fb o 82 f W wz hz H (by decide) hf hfk (hx.refs t htx h69 f hfm);have HES:=hid hes;have HRL:=hid hrl;obtain⟨n,hn⟩:∃ n,es.length=n:=⟨_,rfl⟩;have HN:=hid hn;have hn1:n<=1000:=(by omega);clear hvo hrf hko hvi hsc hty hsv hs400 hft h82 hfz hes hfm hfg hff htx h69 hfk hrl hesl hfe hx hk hn;go_enter Tryz.func22,Tryz.ntmps22;go_wp2_with (first|(go_at_call 44;refine(HRS.out _ (HM.out.below (HB2.out.alloc HB2.out.size _))).mono ?_;rintro e w3 ⟨ho,hb3⟩;obtain⟨sb,rfl,hsl⟩:=HRO.out _ _ _ ho;have HSL:=hid hsl;have HB23:=hid (aC ((Below.refl w2.heap.size w2).alloc (Nat.le_refl _) _) hb3);have y3:w3.cell? ⟨w2.heap.size,3,none⟩=some (.slice a n c):=(hb3.cell (p:=⟨w2.heap.size,3,none⟩) (by simp)).trans (by simp[go_sem]);have hl3:w2.heap.size<w3.heap.size:=Nat.lt_of_lt_of_le (by simp) hb3.size;clear ho hb3 hsl)|(go_at_call 43;refine HG.out.mono ?_;rintro e w2 ⟨ho,hb2⟩;obtain⟨fb,o,cs,rfl,hfd,hvc⟩:=HO.out _ _ ho;have HFD:=hid hfd;obtain⟨a,c,hcs,hc1,hc2,_,hkd⟩:=hvc.form;have hcs2:cs=[.int .u8 82,.string ⟨#[]⟩,.int .i64 0,.slice a n c]:=(by rw[hcs];show [_,_,_,Value.slice a (es.map Wf.tagged).length c]=_;rw[List.length_map,HN.out];rfl);subst hcs2;have HKD:=hid hkd;have HB2:=hid hb2;clear ho hb2 hfd hvc hcs hkd hc1))
   have HFD3:=hid (HFD.out.below HB23.out);have HB3:=hid (HB2.out.trans (HB23.out.mono HB2.out.size));go_loopw [36] (fun s36 wr=>∃ i:Nat,s36=.int .i64 i/\i<=n/\Hid ((∀ j (hj:j<es.length),j<i->((es[j]).1.tag:Int)≠g)/\Below w3.heap.size w3 wr)) (fun s36 _=>n-(RowKit.intOf s36).toNat)
   case atStart=>exact⟨0,rfl,Nat.zero_le _,hid ⟨fun j hj h=>by omega,Below.refl _ _⟩⟩
   case round =>
    obtain⟨i,rfl,hi,hh⟩:=hrel;have BR:=hid (HB23.out.trans (hh.out.2.mono HB23.out.size));have hlr:w2.heap.size<wr.heap.size:=Nat.lt_of_lt_of_le hl3 hh.out.2.size;by_cases hlt:i<n
    ·have hix:i<es.length:=by rw[HN.out];exact hlt
     obtain⟨b,o',rfl,hpb,hbw,hvs⟩:∃ b o',a=some ⟨b,o',none⟩/\w.heap.size<=b/\b<w2.heap.size/\VCs w2 (fun b=>w.heap.size<=b) b o' (es.map Wf.tagged):=by
      rcases HKD.out with h|⟨b,o',h1,h2,h3,h4⟩
      ·exfalso
       have h5:(es.map Wf.tagged).length=0:=by
        have:es.map Wf.tagged=[]:=h;rw[this];rfl
       rw[List.length_map] at h5;omega
      ·exact⟨b,o',h1,h2,h3,h4⟩
     obtain⟨cs,hvk,hcc⟩:=hvs.get i (by rw[List.length_map];exact hix);rw[List.getElem_map] at hvk;obtain⟨b2,o2,c2,q3,g3,n3,c3,T3,a3,rfl,h1c,hcm,hp2,hb2w,hvv,k0,k1,k2,k3⟩:=VC.fld hvk;obtain⟨T,hT⟩:∃ T,(es[i]).1.tag=T:=⟨_,rfl⟩;rw[hT] at hcc;have hbr:b<wr.heap.size:=(by omega);have hb2r:b2<wr.heap.size:=(by omega);have z0:wr.cell? ⟨b,o'+i*4,none⟩=some (.int .u8 61):=(BR.out.cell (p:=⟨b,o'+i*4,none⟩) hbw).trans (hcc 0 _ rfl);have z1:wr.cell? ⟨b,o'+i*4+1,none⟩=some (.string ⟨#[]⟩):=(BR.out.cell (p:=⟨b,o'+i*4+1,none⟩) hbw).trans (hcc 1 _ rfl);have z2:wr.cell? ⟨b,o'+i*4+2,none⟩=some (.int .i64 T):=(BR.out.cell (p:=⟨b,o'+i*4+2,none⟩) hbw).trans (hcc 2 _ rfl);have z3:wr.cell? ⟨b,o'+i*4+3,none⟩=some (.slice (some ⟨b2,o2,none⟩) 1 c2):=(BR.out.cell (p:=⟨b,o'+i*4+3,none⟩) hbw).trans (hcc 3 _ rfl);have u0:=(BR.out.cell (p:=⟨b2,o2,none⟩) hb2w).trans k0;have u1:=(BR.out.cell (p:=⟨b2,o2+1,none⟩) hb2w).trans k1;have u2:=(BR.out.cell (p:=⟨b2,o2+2,none⟩) hb2w).trans k2;have u3:=(BR.out.cell (p:=⟨b2,o2+3,none⟩) hb2w).trans k3;have HTT:=hid hT;clear hvs hvk hcc k0 k1 k2 k3 hT;by_cases hg:(T:Int)=g
     ·have tg:((T:Int)==g)=true:=beq_iff_eq.2 hg
      have HF:=hid (show vfV (dD s.data.toList kt.data.toList v.data.toList g)=.tuple #[tx (es[i]).2.print,.bool true] by
       rw[HFI.out];unfold Wf.getEs;rw[<-HGET.out,a0W hix hh.out.1 (by rw[HTT.out];exact hg)];rfl)
      have hpl:=Wf.pY (List.getElem_mem hix);have hpl2:(es[i]).2.print.length<=1000000:=(by have:=HRL.out;omega);obtain⟨O,hO⟩:∃ O:ByteArray,(⟨(es[i]).2.print.toArray⟩:ByteArray)=O:=⟨_,rfl⟩;have HPR:=hid fun(wz:World) (hz:Below w2.heap.size w2 wz)=>(by
       have h:=print (es[i]).2 _ _ w2 wz hvv hz hpl2;rw[tx,hO] at h;exact h:Calls Tryz.prog 33 #[.agg #[.int .u8 q3,.string T3,.int .i64 g3,.slice a3 n3 c3]] wz fun e w'=>e=.returned (.string O)/\Below wz.heap.size wz w')
      have HOO:=hid hO;clear hg hpl hpl2 hO hvv;go_wp2_with (go_at_call 33;refine(HPR.out _ (BR.out.alloc (Nat.le_of_lt hlr) _)).mono ?_;rintro e w5 ⟨rfl,hb5⟩;have HB5:=hid (aC ((Below.refl wr.heap.size wr).alloc (Nat.le_refl _) _) hb5);clear hb5)
      exact bodyPost_ret (v:=.tuple #[.string O,.bool true]) (by simp[results,Tryz.results22,go_sem, *]) rfl ⟨by rw[HF.out,tx,HOO.out],HB2.out.trans ((BR.out.trans (HB5.out.mono BR.out.size)).mono HB2.out.size)⟩
     ·have tg:((T:Int)==g)=false:=beq_eq_false_iff_ne.2 hg
      have HG2:=hid hg;clear hg hvv;go_wp2_with fail
      go_roundw
      case rel=>exact⟨i+1,by go_num,by omega,hid ⟨fun j hj hjk=>by
       by_cases hj2:j=i
       ·subst hj2;rw[HTT.out];exact HG2.out
       ·exact hh.out.1 j hj (by omega),hh.out.2.alloc hh.out.2.size _⟩⟩
      case measure=>simp[RowKit.intOf];omega
    ·have hin:i=n:=by omega
     subst hin;have HF:=hid (show vfV (dD s.data.toList kt.data.toList v.data.toList g)=.tuple #[tx (Wf.aL x f),.bool true] by
      rw[HFI.out];unfold Wf.getEs;rw[<-HGET.out,vR fun j hj=>hh.out.1 j hj (by rw[<-HN.out];exact hj)];rfl)
     obtain⟨O,hO⟩:∃ O:ByteArray,(⟨(Wf.aL x f).toArray⟩:ByteArray)=O:=⟨_,rfl⟩;have HOO:=hid hO;simp only[tx,hO] at HOF;clear hO;go_wp2_with (go_at_call 42;refine(HOF.out _ _ _ _ w3 _ hh.out.2 HSL.out HFD3.out).mono ?_;rintro e w5 ⟨rfl,hb5⟩;have HB5:=hid hb5;clear hb5)
     exact bodyPost_ret (v:=.tuple #[.string O,.bool true]) (by simp[results,Tryz.results22,go_sem, *]) rfl ⟨by rw[HF.out,tx,HOO.out],HB2.out.trans ((BR.out.trans (HB5.out.mono BR.out.size)).mono HB2.out.size)⟩

def PartAt (s K T A NM:ByteArray) (g:Nat):Prop:=∃ (FN KT ST V:ByteArray),KT.size<=12/\V.size<=400/\dE s.data.toList NM.data.toList g=.tuple #[.string FN,.string KT,.string ST,.bool true] /\
 vfV (dD s.data.toList K.data.toList T.data.toList g)=.tuple #[.string V,.bool true] /\
 ((∃ B:ByteArray,fbV (Wf.fieldF A.data.toList g)=.tuple #[.string B,.bool true]/\(V.toList==ST.toList)=false/\vfV (bytesVal s.data.toList KT.data.toList V.data.toList)=.tuple #[.string B,.bool true]) \/
  (fbV (Wf.fieldF A.data.toList g)=.tuple #[.string ⟨#[]⟩,.bool false]/\(V.toList==ST.toList)=true/\∃ (Z:ByteArray) (b:Bool),vfV (bytesVal s.data.toList KT.data.toList V.data.toList)=.tuple #[.string Z,.bool b]))
theorem part_at {s K T A NM:ByteArray} {x:Wf.Sc} {t:Wf.Ty} {f:Wf.Fd} (ha:bytesVal s.data.toList K.data.toList T.data.toList=some A.data.toList) (hk:aX s.data.toList K.data.toList=some (x,.ref NM.data.toList)) (hty:bC s.data.toList NM.data.toList=some (x,t)) (h82:t.sort=82) (hfm:f∈t.fields):PartAt s K T A NM f.tag:=by
 obtain⟨hsc,hx,ht,htx⟩:=fL hty;have htk:=hx.tys _ htx;have hf:=gS htk hfm;have h69:t.sort≠69:=by rw[h82];decide
 obtain⟨v,hv,hor⟩:=part_words ha hk hty h82 hf hfm;have hA:A.data.toList.length<=400:=bytesVal_len ha;have hff:Wf.fieldF A.data.toList (f.tag:Int)=Wf.fieldAt f.tag A.data.toList:=Wf.fieldF_nat (by omega) _;have hfV:dE s.data.toList NM.data.toList (f.tag:Int)=.tuple #[tx f.name,tx f.kind.text,tx (Wf.aL x f),.bool true]:=by
  unfold dE;rw[hty];dsimp only;rw[eW,hf];dsimp only;rw[if_neg h69]
 have hv4:v.length<=400:=by
  rcases hor with⟨b,_,_,h3⟩|⟨_,h2⟩
  ·unfold bytesVal at h3
   cases hvo:valOf s.data.toList f.kind.text v with
   | none=>rw[hvo] at h3;cases h3
   | some y=>exact(Wf.gD (eN hvo).2).2.2
  ·rw[h2]
   have:=Wf.yA hx htx hfm;omega
 refine⟨_,⟨f.kind.text.toArray⟩,⟨(Wf.aL x f).toArray⟩,⟨v.toArray⟩,by rw[aU];exact eI (htk.fds f hfm),by rw[aU];exact hv4,hfV,by rw[hv];rfl,?_⟩;have heq:((⟨v.toArray⟩:ByteArray).toList==(⟨(Wf.aL x f).toArray⟩:ByteArray).toList)=(v==Wf.aL x f):=by rw[ByteArray.toList_eq,ByteArray.toList_eq]
 rw[heq,hff];rcases hor with⟨b,h1,h2,h3⟩|⟨h1,h2⟩
 ·left
  refine⟨⟨b.toArray⟩,by rw[h1];rfl,by simpa using h2,?_⟩;show vfV (bytesVal _ f.kind.text v)=_;rw[h3];rfl
 ·right
  refine⟨by rw[h1];rfl,by simpa using h2,?_⟩;show ∃ (Z:ByteArray) (b:Bool),vfV (bytesVal _ f.kind.text v)=_;cases bytesVal s.data.toList f.kind.text v with
  | none=>exact⟨_,_,rfl⟩
  | some z=>exact⟨⟨z.toArray⟩,true,rfl⟩
theorem part_law_words (s K T:ByteArray):vfV (bytesVal s.data.toList K.data.toList T.data.toList)=.tuple #[.string ⟨#[]⟩,.bool false]\/∃ A:ByteArray,vfV (bytesVal s.data.toList K.data.toList T.data.toList)=.tuple #[.string A,.bool true]/\A.size<=400 /\
  (eA s.data.toList (nmL K.data.toList)=.tuple #[.string ⟨#[]⟩,.bool false]\/(∃ Z:ByteArray,eA s.data.toList (nmL K.data.toList)=.tuple #[.string Z,.bool true]/\(Z.toList==[82])=false) \/
  (eA s.data.toList (nmL K.data.toList)=.tuple #[.string ⟨#[82]⟩,.bool true]/\(bC s.data.toList (nmL K.data.toList)).isSome=true/\(cX s.data.toList (nmL K.data.toList)).length<=8/\∀ g,g∈cX s.data.toList (nmL K.data.toList)->PartAt s K T A ⟨(nmL K.data.toList).toArray⟩ g)):=by
 cases ha:bytesVal s.data.toList K.data.toList T.data.toList with
 | none=>exact .inl rfl
 | some a =>
  refine .inr ⟨⟨a.toArray⟩,rfl,bytesVal_len ha,?_⟩;unfold eA;cases hty:bC s.data.toList (nmL K.data.toList) with
  | none=>exact .inl rfl
  | some z =>
   right
   dsimp only;by_cases h82:z.2.sort=82
   ·right
    have hv:=ha;unfold bytesVal at hv;cases hvo:valOf s.data.toList K.data.toList T.data.toList with
    | none=>rw[hvo] at hv;cases hv
    | some y =>
     have hk:=(eN hvo).1;obtain⟨e1,e2,e3⟩:=nm_type hk hty;obtain⟨⟨x,k⟩,u⟩:=y;obtain⟨x',t⟩:=z;dsimp only at e1 e2 e3 hk h82;subst e1;rw[e2] at hk;have htl:cX s.data.toList (nmL K.data.toList)=t.fields.map (·.tag):=(by unfold cX;rw[hty]);refine⟨by rw[h82],rfl,?_,fun g hg=>?_⟩
     ·rw[htl,List.length_map]
      obtain⟨_,hx,_,htx⟩:=fL hty;exact(hx.tys _ htx).len
     ·rw[htl] at hg
      obtain⟨f,hf,rfl⟩:=List.mem_map.1 hg;exact part_at (A:=⟨a.toArray⟩) (NM:=⟨(nmL K.data.toList).toArray⟩) ha hk hty h82 hf
   ·left
    refine⟨_,rfl,?_⟩;rw[ByteArray.toList_eq];show([z.2.sort]==[82])=false;simpa using h82
end Go.Proofs.YtidjpalnmnehmaaGreatDoor

namespace Go.Proofs.YtidjpalnmnehmaaGreatDoor
open Go.ChangeShapes Go.WideShapes Go.ChangeAt Go.RowKit
theorem l1Put_any (k:Nat):∀ (n:Int) (w:World),n<=k->0<=n->n<=999999 ->
  Calls Tryz.prog 53 #[.int .i64 n] w fun e w'=>e=.returned (.string ⟨(Wf.putN n.toNat).toArray⟩)/\Below w.heap.size w w':=by
 induction k with
 | zero =>
  intro n w hk h0 _;obtain rfl:n=0:=by omega
  have hcv:=run_convert_lit (P:=Tryz.prog) 22 9 5 Tryz.underlying22 Tryz.underlying5 Tryz.underlying9;go_enter Tryz.func53,Tryz.ntmps53;go_wp2_with fail
  go_ret
  exact⟨by rw[Wf.bM (by omega)];rfl,(Below.refl _ _).alloc (Nat.le_refl _) _⟩
 | succ k ih0 =>
  have ih:=Lib.hid ih0;clear ih0;intro n w hk h0 hn;by_cases h:n<128
  ·have hcv:=run_convert_lit (P:=Tryz.prog) 22 9 5 Tryz.underlying22 Tryz.underlying5 Tryz.underlying9
   have E:=Lib.hid (show(Wf.putN n.toNat).toArray = #[UInt8.ofNat n.toNat] by rw[Wf.bM (by omega)]);go_enter Tryz.func53,Tryz.ntmps53;go_wp2_with fail
   go_ret
   exact⟨by rw[E.out];rfl,(Below.refl _ _).alloc (Nat.le_refl _) _⟩
  ·have E:=Lib.hid (show Wf.putN n.toNat=[UInt8.ofNat (128+n % 128).toNat]++Wf.putN (n / 128).toNat by
    rw[Wf.cH (by omega),show(128+n % 128).toNat=128+n.toNat % 128 by omega,show(n / 128).toNat=n.toNat / 128 by omega];simp)
   have hc1:=fun W a c=>run_convert_one (P:=Tryz.prog) 22 9 5 Tryz.underlying22 Tryz.underlying5 Tryz.underlying9 W a c (128+n % 128);have hl:=(Wf.cB (n / 128).toNat (by omega)).2;have w0:n.tdiv 128=n / 128:=Int.tdiv_eq_ediv_of_nonneg (by omega);have w1:IntKind.i64.wrap (n / 128)=n / 128:=IntWalk.i64_in _ (by omega);have w2:n.tmod 128=n % 128:=Int.tmod_eq_emod_of_nonneg (by omega);have w3:IntKind.i64.wrap (128+n % 128)=128+n % 128:=IntWalk.i64_in _ (by omega);have w4:IntKind.u8.wrap (128+n % 128)=128+n % 128:=IntWalk.u8_in _ (by omega);have w5:∀ W:World,(Op.stringOp .add ⟨#[UInt8.ofNat (128+n % 128).toNat]⟩ ⟨(Wf.putN (n / 128).toNat).toArray⟩).run Tryz.prog W=.ok (.string ⟨(Wf.putN n.toNat).toArray⟩) W :=
    run_add_bytes [UInt8.ofNat (128+n % 128).toNat] (Wf.putN (n / 128).toNat) _ (by simp;omega) E.out
   clear E;go_enter Tryz.func53,Tryz.ntmps53;go_wp2_with fail
   go_region_with (go_at_call 53;refine(ih.out (n / 128) _ (by omega) (by omega) (by omega)).mono ?_;rintro e w' ⟨rfl,hb⟩;have hc:=(bcell hb).1)
   all_goals go_wp2
   all_goals go_ret
   ·exact⟨rfl,(((Below.refl _ _).alloc (Nat.le_refl _) _).drew).trans (hb.mono (by simp))⟩
   ·exact⟨rfl,(((Below.refl _ _).alloc (Nat.le_refl _) _).drew).trans (hb.mono (by simp))⟩
   ·exact⟨rfl,((Below.refl _ _).drew.trans hb).alloc (by have:=hb.size;simpa using this) _⟩
def putL (n:Int):List UInt8:=if 0<=n/\n<=999999 then Wf.putN n.toNat else []
def putB (n:Int):Bool:=decide (0<=n/\n<=999999)
def putV (n:Int):Value:=.tuple #[.string ⟨(putL n).toArray⟩,.bool (putB n)]
theorem ret_sb {a b:ByteArray} {x y:Bool} (h1:a=b) (h2:x=y):Ending.returned (.tuple #[.string a,.bool x])=.returned (.tuple #[.string b,.bool y]):=by rw[h1,h2]
theorem put_no {n:Int} (h:¬ (0<=n/\n<=999999)):Ending.returned (.tuple #[.string ⟨#[]⟩,.bool false])=.returned (putV n):=ret_sb (by rw[putL,if_neg h]) (by rw[putB,decide_eq_false h])
theorem put_yes {n:Int} {s:ByteArray} (h:0<=n/\n<=999999) (hs:s=⟨(Wf.putN n.toNat).toArray⟩):Ending.returned (.tuple #[.string s,.bool true])=.returned (putV n):=ret_sb (by rw[putL,if_pos h,hs]) (by rw[putB,decide_eq_true h])
theorem info_u8:(Tryz.prog.info? 5).map (fun i=>(i.zero,i.size,i.bytes))=some (some (.int .u8 0),1,1):=by kernel_rfl
def Room (k:Nat) (m:Int):Prop:=(k=0/\m<=999999)\/(k=1/\m<=7812)\/(k=2/\m<=61)
theorem Room.more {l:List UInt8} {m:Int} {c:UInt8} (h:128<=m) (hr:Room l.length m):Room (l++[c]).length (m / 128):=by
 have e:(l++[c]).length=l.length+1:=by simp
 rw[e];unfold Room at hr ⊢;omega
theorem Room.le {k:Nat} {m:Int} (hr:Room k m):k<=2/\m<=999999:=by unfold Room at hr;omega
theorem numPut_impl (n:Int) (w:World):Calls Tryz.prog 17 #[.int .i64 n] w fun e w'=>e=.returned (putV n)/\Below w.heap.size w w':=by
 by_cases h:0<=n/\n<=999999
 ·have h1:=h.1
  have h2:=h.2;have H:=Lib.hid h;clear h;have hcv:=fun wx v (l:List UInt8) hl=>run_convert_owned (P:=Tryz.prog) wx 22 9 5 (base:=w.heap.size) (et:=5) (v:=v) (l:=l) Tryz.underlying22 Tryz.underlying5 Tryz.underlying9 hl;have HCV:=Lib.hid hcv;clear hcv;go_enter Tryz.func17,Tryz.ntmps17;go_wp2;go_loopw [4,0] (fun v i wr=>∃ (l:List UInt8) (m:Int),0<=m/\Room l.length m/\i=.int .i64 m/\Hid (l++Wf.putN m.toNat=Wf.putN n.toNat)/\wr.ownsRow w.heap.size 5 1 v l.length (Lib.byteCells l)/\Below w.heap.size w wr)
   (fun _ i _=>(intOf i).toNat)
  case atStart=>exact⟨[],n,h1,.inl ⟨rfl,h2⟩,rfl,rfl,World.ownsRow_nil _ _ _ _,Below.refl _ _⟩
  case round =>
   obtain⟨l,m,hm1,hroom,rfl,hput,hown,hbel⟩:=hrel;have hl:=hroom.le.1;have hm2:=hroom.le.2;by_cases hlt:m<128
   ·have hm:IntKind.u8.wrap m=m:=IntWalk.u8_in _ (by omega)
    have hsz:=hbel.size;have HMC:=Lib.hid (show m=((UInt8.ofNat m.toNat).toNat:Int) by rw[Wf.toNat_ofNat (by omega)];omega);clear hroom;go_wp2_with (at_builtin;refine wpList_append_byte _ rfl (.tmp 22) (.tmp 25) 22 rfl w.heap.size 5 Tryz.underlying22 info_u8 _ l rfl (hown.alloc _) ⟨wr.heap.size,0,none⟩ m rfl (by simp) (UInt8.ofNat m.toNat) HMC.out (by omega) (by simp;omega) ?_;intro v1 w1 hown1 hb1;have hc1:=HCV.out w1 v1 _ hown1)
    go_ret2
    exact⟨put_yes H.out (by rw[<-hput.out,Wf.bM (by omega)]),(hbel.alloc hsz _).trans hb1⟩
   ·have hm0:m % 128+128<256:=by omega
    have hmu:IntKind.u8.wrap (m % 128+128)=m % 128+128:=IntWalk.u8_in _ (by omega);have hsz:=hbel.size;have HMC:=Lib.hid (show m % 128+128=((UInt8.ofNat (m % 128+128).toNat).toNat:Int) by rw[Wf.toNat_ofNat (by omega)];omega);have HL:=Lib.hid (hroom.more (c:=UInt8.ofNat (m % 128+128).toNat) (by omega));clear hroom;have HP:=Lib.hid (show(l++[UInt8.ofNat (m % 128+128).toNat])++Wf.putN (m / 128).toNat=Wf.putN n.toNat by
     rw[<-hput.out,Wf.cH (show 128<=m.toNat by omega),show(m % 128+128).toNat=128+m.toNat % 128 by omega,show(m / 128).toNat=m.toNat / 128 by omega];simp)
    go_wp2_with (at_builtin;refine wpList_append_byte _ rfl (.tmp 13) (.tmp 18) 22 rfl w.heap.size 5 Tryz.underlying22 info_u8 _ l rfl (hown.alloc _) ⟨wr.heap.size,0,none⟩ (m % 128+128) rfl (by simp) (UInt8.ofNat (m % 128+128).toNat) HMC.out (by omega) (by simp;omega) ?_;intro v1 w1 hown1 hb1)
    go_roundw
    case rel=>exact⟨_,_,by omega,HL.out,rfl,HP.out,hown1,(hbel.alloc hsz _).trans hb1⟩
    case measure=>simp[intOf];omega
 ·have H:=Lib.hid h
  have h1:n<0\/999999<n:=by omega
  clear h;go_enter Tryz.func17,Tryz.ntmps17;go_wp2;all_goals go_ret2
  all_goals exact⟨put_no H.out,Below.refl _ _⟩
end Go.Proofs.YtidjpalnmnehmaaGreatDoor

namespace Go.Proofs.YtidjpalnmnehmaaGreatDoor
open Go.ChangeShapes Go.WideShapes Go.ChangeAt Go.RowKit Go.Lib
theorem putV_nat (n:Nat) (hn:n<=999999):putV n=.tuple #[tx (Wf.putN n),.bool true]:=by
 unfold putV putL putB;rw[if_pos ⟨by omega,by omega⟩,decide_eq_true ⟨by omega,by omega⟩,Int.toNat_natCast]
theorem numText (n:Nat) (hn:n<=999999) (w:World):Calls Tryz.prog 77 #[.int .i64 n] w fun e w'=>e=.returned (tx (Wf.putN n))/\Below w.heap.size w w':=by
 have HP:=hid fun wz=>numPut_impl (n:Int) wz;rw[putV_nat n hn] at HP;obtain⟨B,hB⟩:∃ B:ByteArray,(⟨(Wf.putN n).toArray⟩:ByteArray)=B:=⟨_,rfl⟩;simp only[tx,hB] at HP ⊢;clear hB;go_enter Tryz.func77,Tryz.ntmps77;go_wp2_with (go_at_call 17;refine(HP.out _).mono ?_;rintro e w2 ⟨rfl,hb2⟩;have HB2:=hid hb2;clear hb2)
 go_ret
 exact⟨rfl,HB2.out⟩
theorem sized (s:ByteArray) (hs:s.size<=999999) (w:World):Calls Tryz.prog 78 #[.string s] w fun e w'=>e=.returned (tx (Wf.putN s.data.toList.length++s.data.toList))/\Below w.heap.size w w':=by
 have HP:=hid fun wz=>numText s.size hs wz;obtain⟨B,hB⟩:∃ B:ByteArray,(⟨(Wf.putN s.size).toArray⟩:ByteArray)=B:=⟨_,rfl⟩;have hBs:B.size<=3:=by rw[<-hB];exact(Wf.cB s.size hs).2
 have HF:=hid (show(⟨(Wf.putN s.data.toList.length++s.data.toList).toArray⟩:ByteArray)=B++s from
  ((aR (B++s) _).2 (by rw[ByteArray.data_append,Array.toList_append,<-hB,aD])).symm)
 have a1:=fun wz=>run_string_add_sum (P:=Tryz.prog) (w:=wz) B s (by omega);simp only[tx,hB] at HP;clear hB;go_enter Tryz.func78,Tryz.ntmps78;go_wp2_with (go_at_call 77;refine(HP.out _).mono ?_;rintro e w2 ⟨rfl,hb2⟩;have HB2:=hid hb2;clear hb2)
 go_ret
 exact⟨by rw[tx,HF.out];rfl,HB2.out⟩
