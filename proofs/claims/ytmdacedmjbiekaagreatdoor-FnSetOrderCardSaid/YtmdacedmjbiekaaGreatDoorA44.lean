/- Packed. -/
import Derived.Test.YtmdacedmjbiekaaGreatDoorA43
import Derived.Test.YtmdacedmjbiekaaGreatDoorA31
set_option maxRecDepth 99999
set_option maxHeartbeats 40000000
set_option linter.all false
namespace Go.Proofs.YtmdacedmjbiekaaGreatDoor
open Go.ChangeShapes Go.WideShapes Go.ChangeAt Go.RowKit Go.Lib
theorem a6C {x:Wf.Sc} {k:Wf.K} {s:List UInt8} (h:s.length<=400):(Wf.valIn x k s).isSome=(match Wf.parse x 12 k s with|some (_,[])=>true|_=>false):=by
 rw[Wf.valIn,if_pos h];cases Wf.parse x 12 k s with
 | none=>rfl
 | some y =>
  obtain⟨u,r⟩:=y;cases r <;> rfl
def fP (o:Bool) (S:ByteArray):Value:=match o with
 | true=>.tuple #[.string S,.bool true]
 | false=>.tuple #[.string ⟨#[]⟩,.bool false]
theorem xX (x:Wf.Sc) (hx:Wf.ScOk x) (lo b:Nat) (v:Value) (k:Wf.K) (hk:KOk x k) (S:ByteArray) (hS:S.size<=9000000) (W w:World) (hW:Below W.heap.size W w) (hsp:ScSp W lo b v x):Calls Tryz.prog 64 #[v,tx k.text,.string S] w fun e w'=>e=.returned (fP (Wf.valIn x k S.data.toList).isSome S)/\Below w.heap.size w w':=by
 obtain⟨KT,hKT⟩:∃ KT:ByteArray,(⟨k.text.toArray⟩:ByteArray)=KT:=⟨_,rfl⟩;obtain⟨va,vc,rfl,_,_⟩:=hsp.slice;obtain⟨vn,hvn⟩:∃ vn,x.length=vn:=⟨_,rfl⟩;rw[hvn] at hsp;rw[hvn];rw[tx,hKT];by_cases h400:S.size<=400
 ·have HRD:=hid (by
   have h:=mT x hx (.slice va vn vc) lo b W hsp 12 (by omega) k hk S w (by omega) hW;rw[tx,hKT] at h;exact h:Calls Tryz.prog 63 #[.agg #[.slice va vn vc],.string S,.string KT,.int .i64 12] w fun e w'=>aD (Wf.parse x 12 k S.data.toList) w e w'/\Below w.heap.size w w')
  have hd:decide ((400:Int)<(S.size:Int))=false:=decide_eq_false (by omega);have hvp:=a6C (x:=x) (k:=k) (s:=S.data.toList) (by rw[aE];exact h400);cases hp:Wf.parse x 12 k S.data.toList with
  | none =>
   have HB:=hid (show fP (Wf.valIn x k S.data.toList).isSome S=.tuple #[.string ⟨#[]⟩,.bool false] by rw[hvp,hp];rfl);clear hvp;have HO2:=hid fun(e:Ending) (w w':World) (h:aD (Wf.parse x 12 k S.data.toList) w e w')=>(by rw[hp] at h;exact h:∃ (p:Option Addr) (r:ByteArray),e=.returned (.tuple #[.pointer p,.string r,.bool false]));clear hp;go_enter Tryz.func64,Tryz.ntmps64;go_wp2_with (go_at_call 63;refine HRD.out.mono ?_;rintro e w3 ⟨ho,hb3⟩;obtain⟨p,r,rfl⟩:=HO2.out _ _ _ ho;have HB3:=hid hb3;clear ho hb3)
   exact bodyPost_ret (v:=.tuple #[.string ⟨#[]⟩,.bool false]) (by simp[results,Tryz.results64,go_sem, *]) rfl ⟨by rw[HB.out],HB3.out⟩
  | some y =>
   obtain⟨u,rr⟩:=y;obtain⟨RR,hRR⟩:∃ RR:ByteArray,(⟨rr.toArray⟩:ByteArray)=RR:=⟨_,rfl⟩;have HO2:=hid fun(e:Ending) (w w':World) (h:aD (Wf.parse x 12 k S.data.toList) w e w')=>(by unfold aD at h;rw[hp] at h;dsimp only at h;rw[tx,hRR] at h;exact h:∃ b,e=.returned (.tuple #[ptr b,.string RR,.bool true])/\LV w' (fun z=>w.heap.size<=z) u b);cases rr with
   | nil =>
    have HB:=hid (show fP (Wf.valIn x k S.data.toList).isSome S=.tuple #[.string S,.bool true] by rw[hvp,hp];rfl);clear hvp;have hre:RR.toList.isEmpty=true:=(by rw[<-hRR,ByteArray.toList_eq];rfl);have hre2:RR.toList=[]:=List.isEmpty_iff.1 hre;clear hp hRR;go_enter Tryz.func64,Tryz.ntmps64;go_wp2_with (go_at_call 63;refine HRD.out.mono ?_;rintro e w3 ⟨ho,hb3⟩;obtain⟨pb,rfl,hlv⟩:=HO2.out _ _ _ ho;have HB3:=hid hb3;clear ho hb3 hlv)
    exact bodyPost_ret (v:=.tuple #[.string S,.bool true]) (by simp[results,Tryz.results64,go_sem, *]) rfl ⟨by rw[HB.out],HB3.out⟩
   | cons c0 q0 =>
    have HB:=hid (show fP (Wf.valIn x k S.data.toList).isSome S=.tuple #[.string ⟨#[]⟩,.bool false] by rw[hvp,hp];rfl);clear hvp;have hre:RR.toList.isEmpty=false:=(by rw[<-hRR,ByteArray.toList_eq];rfl);have hre2:RR.toList≠[]:=(by rw[<-hRR,ByteArray.toList_eq];exact List.cons_ne_nil _ _);clear hp hRR;go_enter Tryz.func64,Tryz.ntmps64;go_wp2_with (go_at_call 63;refine HRD.out.mono ?_;rintro e w3 ⟨ho,hb3⟩;obtain⟨pb,rfl,hlv⟩:=HO2.out _ _ _ ho;have HB3:=hid hb3;clear ho hb3 hlv)
    exact bodyPost_ret (v:=.tuple #[.string ⟨#[]⟩,.bool false]) (by simp[results,Tryz.results64,go_sem, *]) rfl ⟨by rw[HB.out],HB3.out⟩
 ·have hd:decide ((400:Int)<(S.size:Int))=true:=decide_eq_true (by omega)
  have HB:=hid (show fP (Wf.valIn x k S.data.toList).isSome S=.tuple #[.string ⟨#[]⟩,.bool false] by rw[Wf.kP (by rw[aE];exact h400)];rfl);go_enter Tryz.func64,Tryz.ntmps64;go_wp2_with fail
  exact bodyPost_ret (v:=.tuple #[.string ⟨#[]⟩,.bool false]) (by simp[results,Tryz.results64,go_sem, *]) rfl ⟨by rw[HB.out],Below.refl _ _⟩
theorem fits (u:Wf.V) (q n c:Nat) (g:Int) (T:ByteArray) (a:Option Addr) (P:Nat->Prop) (W w:World) (hv:VC W P u [.int .u8 q,.string T,.int .i64 g,.slice a n c]) (hW:Below W.heap.size W w) (hl:u.print.length<=1000000) (hd:u.deep<=1000000):Calls Tryz.prog 68 #[.agg #[.int .u8 q,.string T,.int .i64 g,.slice a n c]] w fun e w'=>e=.returned (.bool (decide (u.print.length<=400)&&decide (u.deep<=12)))/\Below w.heap.size w w':=by
 obtain⟨O,hO⟩:∃ O:ByteArray,(⟨u.print.toArray⟩:ByteArray)=O:=⟨_,rfl⟩;obtain⟨D,hD⟩:∃ D,u.deep=D:=⟨_,rfl⟩;have hos:u.print.length=O.size:=by rw[<-hO];rfl
 have HPR:=hid fun(wz:World) (hz:Below W.heap.size W wz)=>(by
  have h:=print u P _ W wz hv hz hl;rw[tx,hO] at h;exact h:Calls Tryz.prog 62 #[.agg #[.int .u8 q,.string T,.int .i64 g,.slice a n c]] wz fun e w'=>e=.returned (.string O)/\Below wz.heap.size wz w')
 have HDP:=hid fun(wz:World) (hz:Below W.heap.size W wz)=>(by
  have h:=deep u P _ W wz hv hz (by omega);rw[hD] at h;exact h:Calls Tryz.prog 56 #[.agg #[.int .u8 q,.string T,.int .i64 g,.slice a n c]] wz fun e w'=>e=.returned (.int .i64 D)/\Below wz.heap.size wz w')
 have HW:=hid hW;rw[hos];obtain⟨B1,hB1⟩:∃ B1,decide (O.size<=400)=B1:=⟨_,rfl⟩;obtain⟨B2,hB2⟩:∃ B2,decide (D<=12)=B2:=⟨_,rfl⟩;have d1:decide ((O.size:Int)<=400)=B1:=by rw[<-hB1];congr 1;exact propext ⟨fun h=>by omega,fun h=>by omega⟩
 have d2:decide ((D:Int)<=12)=B2:=by rw[<-hB2];congr 1;exact propext ⟨fun h=>by omega,fun h=>by omega⟩
 rw[hD,hB1,hB2];have B3:=hid ((Below.refl w.heap.size w).alloc (Nat.le_refl _) (.cells #[.int .u8 q,.string T,.int .i64 g,.slice a n c] 92));obtain⟨k0,k1,k2,k3⟩:=wK w q n c g T a;have hlt:w.heap.size<(w.alloc (.cells #[.int .u8 q,.string T,.int .i64 g,.slice a n c] 92)).heap.size:=by simp
 clear hO hD hos hv hl hd hW hB1 hB2;cases B1 <;> cases B2;all_goals
  go_enter Tryz.func68,Tryz.ntmps68;go_wp2_with (first|(go_at_call 56;have _u:=HB5;refine(HDP.out _ (HW.out.trans ((B3.out.trans (HB5.out.mono B3.out.size)).mono HW.out.size))).mono ?_;rintro e w6 ⟨rfl,hb6⟩;have HB6:=hid hb6;clear hb6)|(go_at_call 62;refine(HPR.out _ (HW.out.alloc HW.out.size _)).mono ?_;rintro e w5 ⟨rfl,hb5⟩;have HB5:=hid hb5;have q0:=(hb5.cell (p:=⟨w.heap.size,0,none⟩) hlt).trans k0;have q1:=(hb5.cell (p:=⟨w.heap.size,1,none⟩) hlt).trans k1;have q2:=(hb5.cell (p:=⟨w.heap.size,2,none⟩) hlt).trans k2;have q3:=(hb5.cell (p:=⟨w.heap.size,3,none⟩) hlt).trans k3;clear hb5))
  go_ret
  first|exact⟨rfl,aC (B3.out.trans (HB5.out.mono B3.out.size)) HB6.out⟩|exact⟨rfl,B3.out.trans (HB5.out.mono B3.out.size)⟩

theorem gM (s kt v:ByteArray) (g:Int) (d:ByteArray) (m:Int) (w:World) (hm:ML m w) (hs:s.size<=1048576) (hkt:kt.size<=1048576) (hv:v.size<=1048576) (hd:d.size<=1048576):Calls Tryz.prog 31 #[.string s,.string kt,.string v,.int .i64 g,.string d] w fun e w'=>e=.returned (vfV (aX s.data.toList kt.data.toList v.data.toList g d.data.toList))/\Below w.heap.size w w':=by
 have HG:=hid (vV s kt v g m w hm hs hkt hv);have HM:=hid hm;have HRS:=hid fun(wz:World) (h:ML m wz)=>iC s m wz h hs;clear hm;have NO:(valOf s.data.toList kt.data.toList v.data.toList=none\/∃ y,valOf s.data.toList kt.data.toList v.data.toList=some y/\Wf.bH y.1.1 y.1.2 g=none)->Calls Tryz.prog 31 #[.string s,.string kt,.string v,.int .i64 g,.string d] w fun e w'=>e=.returned (vfV (aX s.data.toList kt.data.toList v.data.toList g d.data.toList))/\Below w.heap.size w w':=fun hno=>by
  have HF:=hid (show vfV (aX s.data.toList kt.data.toList v.data.toList g d.data.toList)=.tuple #[tx [],.bool false] by
   unfold aX;rcases hno with h|⟨y,h,h2⟩
   ·rw[h];rfl
   ·rw[h]
    simp only[Option.bind_some,Wf.bU,h2];rfl)
  have HO:=hid fun(e:Ending) (w':World) (h:bY s.data.toList kt.data.toList v.data.toList g w.heap.size e w')=>(show fW e by
   unfold bY at h;rcases hno with h1|⟨y,h1,h2⟩
   ·rw[h1] at h;exact h
   ·rw[h1] at h;dsimp only at h;rw[h2] at h;exact h)
  clear hno;go_enter Tryz.func31,Tryz.ntmps31;go_wp2_with (go_at_call 60;refine HG.out.mono ?_;rintro e w2 ⟨ho,hb2⟩;obtain rfl:=HO.out _ _ ho;have HB2:=hid hb2;clear ho hb2)
  exact bodyPost_ret (v:=.tuple #[tx [],.bool false]) (by simp[results,Tryz.results31,go_sem, *]) rfl ⟨by rw[HF.out],HB2.out.alloc HB2.out.size _⟩
 cases hvo:valOf s.data.toList kt.data.toList v.data.toList with
 | none=>exact NO (.inl hvo)
 | some y =>
  obtain⟨⟨x,k⟩,u0⟩:=y;cases hrf:Wf.bH x k g with
  | none=>exact NO (.inr ⟨_,hvo,hrf⟩)
  | some f =>
   clear NO;obtain⟨hko,hvi⟩:=hM hvo;obtain⟨hx,hk⟩:=fL hko;obtain⟨hsc,_,_,_,_⟩:=gQ hko;obtain⟨hty,hsv,hs400⟩:=Wf.cY hvi;obtain⟨nm,t,rfl,hft,h82,hfz⟩:=Wf.iS hrf;obtain⟨es,hes,rfl⟩:=Wf.iI hty hft h82;obtain⟨hfm,hfg,hff⟩:=Wf.dX hfz;have htx:=(Wf.aY hft).1;have h69:t.sort≠69:=(by rw[h82];decide);have hfo:=(hx.tys t htx).fds f hfm;have hfk:=dQ hfo;have hrl:(Wf.recV es).print.length<=400:=(by rw[<-hsv];exact hs400);have hesl:=tT hrl;obtain⟨SG,hSG⟩:∃ SG:ByteArray,(⟨f.kind.signs.toArray⟩:ByteArray)=SG:=⟨_,rfl⟩;obtain⟨BS,hBS⟩:∃ BS:ByteArray,(⟨f.kind.base.toArray⟩:ByteArray)=BS:=⟨_,rfl⟩;obtain⟨NM,hNM⟩:∃ NM:ByteArray,(⟨f.kind.name.toArray⟩:ByteArray)=NM:=⟨_,rfl⟩;have hkv:kV f.kind=.agg #[.string SG,.string BS,.string NM]:=(by simp only[kV,tx,hSG,hBS,hNM]);have hfc:fdC 82 f=[.int .i64 f.tag,tx f.name,.string SG,.string BS,.string NM,tx f.given]:=by
    unfold fdC;rw[if_neg (by decide)];simp only[tx,hSG,hBS,hNM]
   have HFC:=hid fun(wz:World) (fb o:Nat) (h:FdAt wz fb o 82 f)=>(show wz.cell? ⟨fb,o+2,none⟩=some (.string SG)/\wz.cell? ⟨fb,o+3,none⟩=some (.string BS)/\wz.cell? ⟨fb,o+4,none⟩=some (.string NM) from⟨h.2 2 _ (by rw[hfc];rfl),h.2 3 _ (by rw[hfc];rfl),h.2 4 _ (by rw[hfc];rfl)⟩);have HFI:=hid (show aX s.data.toList kt.data.toList v.data.toList g d.data.toList=(Wf.valIn x f.kind d.data.toList).bind fun y=>if (Wf.recV (Wf.aP x es f y)).print.length<=400/\(Wf.recV (Wf.aP x es f y)).deep<=12 then some (Wf.recV (Wf.aP x es f y)).print else none by unfold aX;rw[hvo];simp only[Option.bind_some];rw[Wf.gW hft h82,hfz];rfl);obtain⟨n,hn⟩:∃ n,es.length=n:=⟨_,rfl⟩;have HO:=hid fun(e:Ending) (w':World) (h:bY s.data.toList kt.data.toList v.data.toList g w.heap.size e w')=>(by
    unfold bY at h;rw[hvo] at h;dsimp only at h;rw[hrf] at h;obtain⟨fb,o,cs,h1,h2,h3⟩:=h;obtain⟨a,c,hcs,_,_,_,_⟩:=h3.form;have hcs2:cs=[.int .u8 82,.string ⟨#[]⟩,.int .i64 0,.slice a n c]:=by
     rw[hcs];show [_,_,_,Value.slice a (es.map Wf.tagged).length c]=_;rw[List.length_map,hn];rfl
    subst hcs2;exact⟨fb,o,a,c,h1,h2,h3⟩:∃ fb o a c,e=.returned (.tuple #[.pointer (some ⟨fb,o,none⟩),.agg #[.int .u8 82,.string ⟨#[]⟩,.int .i64 0,.slice a n c],.bool true])/\FdAt w' fb o 82 f/\VC w' (fun b=>w.heap.size<=b) (Wf.recV es) [.int .u8 82,.string ⟨#[]⟩,.int .i64 0,.slice a n c])
   have HRO:=hid fun(lo:Nat) (e:Ending) (w':World) (h:cI s.data.toList lo e w')=>(by unfold cI at h;rw[hsc] at h;exact h:∃ sb,e=.returned (.tuple #[ptr sb,.bool true])/\ScL w' lo sb x);have HRD:=hid fun(lo sb:Nat) (wz:World) (h:ScL wz lo sb x)=>(by
    have h2:=read x hx f.kind (KOk.fld hx htx h69 hfm) lo sb d.data.toList (by rw[aE];omega) wz wz h (Below.refl _ _);rw[hkv] at h2;exact h2:Calls Tryz.prog 66 #[ptr sb,.agg #[.string SG,.string BS,.string NM],.string d] wz fun e w'=>bF x f.kind d.data.toList wz e w'/\Below wz.heap.size wz w')
   cases hvi2:Wf.valIn x f.kind d.data.toList with
   | none =>
    have HF:=hid (show vfV (aX s.data.toList kt.data.toList v.data.toList g d.data.toList)=.tuple #[tx [],.bool false] by rw[HFI.out,hvi2];rfl);have HO3:=hid fun(w w':World) (e:Ending) (h:bF x f.kind d.data.toList w e w')=>(by unfold bF at h;rw[hvi2] at h;exact h:e=.returned (.tuple #[.agg #[.int .u8 0,.string ⟨#[]⟩,.int .i64 0,.slice none 0 0],.bool false]));clear hvo hrf hko hvi hsc hty hsv hs400 hft h82 hfz hes hfm hfg hff htx h69 hfo hfk hrl hesl hx hk hn hvi2 hSG hBS hNM hkv hfc;go_enter Tryz.func31,Tryz.ntmps31;go_wp2_with (first|(go_at_call 66;refine(HRD.out _ _ _ HSL.out).mono ?_;rintro e w4 ⟨ho,hb4⟩;obtain rfl:=HO3.out _ _ _ ho;have HB4:=hid (HB3.out.trans (hb4.mono HB3.out.size));clear ho hb4)|(go_at_call 61;refine(HRS.out _ (HM.out.below (HB2.out.alloc HB2.out.size _))).mono ?_;rintro e w3 ⟨ho,hb3⟩;obtain⟨sb,rfl,hsl⟩:=HRO.out _ _ _ ho;have HSL:=hid hsl;have HB23:=hid (aC ((Below.refl w2.heap.size w2).alloc (Nat.le_refl _) _) hb3);have HB3:=hid (HB2.out.trans (HB23.out.mono HB2.out.size));obtain⟨f2,f3,f4⟩:=HFC.out _ _ _ (HFD.out.below HB23.out);clear ho hb3 hsl)|(go_at_call 60;refine HG.out.mono ?_;rintro e w2 ⟨ho,hb2⟩;obtain⟨fb,o,a,c,rfl,hfd,hvc⟩:=HO.out _ _ ho;have HFD:=hid hfd;have HB2:=hid hb2;clear ho hb2 hfd hvc))
    exact bodyPost_ret (v:=.tuple #[tx [],.bool false]) (by simp[results,Tryz.results31,go_sem, *]) rfl ⟨by rw[HF.out],HB4.out.alloc HB4.out.size _⟩
   | some u =>
    obtain⟨htu,hsu,hsu4⟩:=Wf.cY hvi2;have hul:u.print.length<=400:=(by rw[<-hsu];exact hsu4);have hsl:=Wf.qP (x:=x) (es:=es) (u:=u) hfo.tag2;have hes12:Wf.dG x t 12 es:=⟨hes.1,fun e he=>by obtain⟨h1,h2,h3,h4,h5⟩:=hes.2 e he;exact⟨h1,h2,h3,Wf.fH _ _ _ h4 12 (by omega),h5⟩⟩;have htyp:=Wf.iB (Wf.lJ hes12 hfo.tag1 hfo.tag2 hff htu) hft h82;have hdp:(Wf.recV (Wf.aP x es f u)).deep<=1000000:=(by have:=(Wf.eV _ _ _ htyp).2;omega);have hpl:(Wf.recV (Wf.aP x es f u)).print.length<=1000000:=(by omega);have hrf2:=hx.refs t htx h69 f hfm;have HPUT:=hid fun(lo sb fb o q2 g2 n2 c2 c:Nat) (T2:ByteArray) (a2 a:Option Addr) (wz:World) (h1:ScL wz lo sb x) (h2:FdAt wz fb o 82 f) (h3:VC wz (fun _=>True) (Wf.recV es) [.int .u8 82,.string ⟨#[]⟩,.int .i64 0,.slice a n c]) (h4:VC wz (fun _=>True) u [.int .u8 q2,.string T2,.int .i64 g2,.slice a2 n2 c2])=>(by
     have h:=put x hx lo sb fb o f es hesl u wz h1 h2 (by have:=hfo.tag2;omega) hfk hrf2 _ _ h3 h4 (by omega);rw[Wf.a5Q hes.1] at h;refine h.mono ?_;rintro e w' ⟨⟨cs,rfl,hvc⟩,hb⟩;obtain⟨q,gg,nn,cc,TT,aa,rfl⟩:=hvc.cF;exact⟨⟨q,gg,nn,cc,TT,aa,rfl,hvc⟩,hb⟩:Calls Tryz.prog 67 #[ptr sb,.agg #[.int .u8 82,.string ⟨#[]⟩,.int .i64 0,.slice a n c],.pointer (some ⟨fb,o,none⟩),.agg #[.int .u8 q2,.string T2,.int .i64 g2,.slice a2 n2 c2]] wz fun e w'=>(∃ (q gg nn cc:Nat) (TT:ByteArray) (aa:Option Addr),e=.returned (.agg #[.int .u8 q,.string TT,.int .i64 gg,.slice aa nn cc])/\VC w' (fun _=>True) (Wf.recV (Wf.aP x es f u)) [.int .u8 q,.string TT,.int .i64 gg,.slice aa nn cc])/\Below wz.heap.size wz w')
    obtain⟨R,hR⟩:∃ R,Wf.recV (Wf.aP x es f u)=R:=⟨_,rfl⟩;rw[hR] at HPUT hdp hpl;obtain⟨O,hO⟩:∃ O:ByteArray,(⟨R.print.toArray⟩:ByteArray)=O:=⟨_,rfl⟩;obtain⟨B,hB⟩:∃ B,(decide (R.print.length<=400)&&decide (R.deep<=12))=B:=⟨_,rfl⟩;have HFIT:=hid fun(q gg nn cc:Nat) (TT:ByteArray) (aa:Option Addr) (W wz:World) (h:VC W (fun _=>True) R [.int .u8 q,.string TT,.int .i64 gg,.slice aa nn cc]) (hz:Below W.heap.size W wz)=>(by
     have h2:=fits R q nn cc gg TT aa _ W wz h hz hpl hdp;rw[hB] at h2;exact h2:Calls Tryz.prog 68 #[.agg #[.int .u8 q,.string TT,.int .i64 gg,.slice aa nn cc]] wz fun e w'=>e=.returned (.bool B)/\Below wz.heap.size wz w')
    have HPRN:=hid fun(q gg nn cc:Nat) (TT:ByteArray) (aa:Option Addr) (W wz:World) (h:VC W (fun _=>True) R [.int .u8 q,.string TT,.int .i64 gg,.slice aa nn cc]) (hz:Below W.heap.size W wz)=>(by
     have h2:=print R _ _ W wz h hz hpl;rw[tx,hO] at h2;exact h2:Calls Tryz.prog 62 #[.agg #[.int .u8 q,.string TT,.int .i64 gg,.slice aa nn cc]] wz fun e w'=>e=.returned (.string O)/\Below wz.heap.size wz w')
    have HF:=hid (show vfV (aX s.data.toList kt.data.toList v.data.toList g d.data.toList)=if B=true then .tuple #[.string O,.bool true] else .tuple #[tx [],.bool false] by
     rw[HFI.out,hvi2];simp only[Option.bind_some];rw[hR,<-hB,<-hO];by_cases h1:R.print.length<=400 <;> by_cases h2:R.deep<=12 <;> simp[h1,h2,vfV,tx])
    have HO3:=hid fun(w w':World) (e:Ending) (h:bF x f.kind d.data.toList w e w')=>(by
     unfold bF at h;rw[hvi2] at h;obtain⟨cs,h1,h2⟩:=h;obtain⟨q,gg,nn,cc,TT,aa,rfl⟩:=h2.cF;exact⟨q,gg,nn,cc,TT,aa,h1,h2⟩:∃ (q gg nn cc:Nat) (TT:ByteArray) (aa:Option Addr),e=.returned (.tuple #[.agg #[.int .u8 q,.string TT,.int .i64 gg,.slice aa nn cc],.bool true])/\VC w' (fun b=>w.heap.size<=b) u [.int .u8 q,.string TT,.int .i64 gg,.slice aa nn cc])
    clear hvo hrf hko hvi hsc hty hsv hs400 hft h82 hfz hes hes12 hfm hfg hff htx h69 hfo hfk hrl hesl hx hk hn hvi2 hSG hBS hNM hkv hfc htu hsu hsu4 hul hsl htyp hdp hpl hrf2 hR hO hB;cases B;all_goals
     go_enter Tryz.func31,Tryz.ntmps31;go_wp2_with (first|(go_at_call 62;have _u:=HB6;refine(HPRN.out _ _ _ _ _ _ w5 w6 HVL.out HB56.out).mono ?_;rintro e w7 ⟨rfl,hb7⟩;have HB7:=hid (HB6.out.trans (hb7.mono HB6.out.size));clear hb7)|(go_at_call 68;have _u:=HVL;refine(HFIT.out _ _ _ _ _ _ w5 _ HVL.out ((Below.refl w5.heap.size w5).alloc (Nat.le_refl _) _)).mono ?_;rintro e w6 ⟨rfl,hb6⟩;have HB56:=hid (aC ((Below.refl w5.heap.size w5).alloc (Nat.le_refl _) (fF q5 T5 g5 a5 n5 c5)) hb6);have HB6:=hid (HB5.out.trans (HB56.out.mono HB5.out.size));have l0:w6.cell? ⟨w5.heap.size,0,none⟩=some (.int .u8 q5):=(hb6.cell (p:=⟨w5.heap.size,0,none⟩) (by simp)).trans (by simp[go_sem]);have l1:w6.cell? ⟨w5.heap.size,1,none⟩=some (.string T5):=(hb6.cell (p:=⟨w5.heap.size,1,none⟩) (by simp)).trans (by simp[go_sem]);have l2:w6.cell? ⟨w5.heap.size,2,none⟩=some (.int .i64 g5):=(hb6.cell (p:=⟨w5.heap.size,2,none⟩) (by simp)).trans (by simp[go_sem]);have l3:w6.cell? ⟨w5.heap.size,3,none⟩=some (.slice a5 n5 c5):=(hb6.cell (p:=⟨w5.heap.size,3,none⟩) (by simp)).trans (by simp[go_sem]);clear hb6)|(go_at_call 67;have BA:=(Below.refl w4.heap.size w4).alloc (Nat.le_refl _) (fF q4 T4 g4 a4 n4 c4);have B3A:=HB34.out.trans (BA.mono HB34.out.size);have B2A:=HB23.out.trans (B3A.mono HB23.out.size);have B0A:=HB4.out.trans (BA.mono HB4.out.size);refine(HPUT.out _ _ _ _ _ _ _ _ _ _ _ _ _ (HSL.out.below B3A) (HFD.out.below B2A) ((HVC.out.below B2A).mono fun _ _ _=>trivial) ((HVU.out.below BA).mono fun _ _ _=>trivial)).mono ?_;rintro e w5 ⟨⟨q5,g5,n5,c5,T5,a5,rfl,hvl⟩,hb5⟩;have HVL:=hid hvl;have HB5:=hid (B0A.trans (hb5.mono B0A.size));clear hvl hb5 BA B3A B2A B0A)|(go_at_call 66;refine(HRD.out _ _ _ HSL.out).mono ?_;rintro e w4 ⟨ho,hb4⟩;obtain⟨q4,g4,n4,c4,T4,a4,rfl,hvu⟩:=HO3.out _ _ _ ho;have HVU:=hid hvu;have HB34:=hid hb4;have HB4:=hid (HB3.out.trans (hb4.mono HB3.out.size));have z0:=(hb4.cell (p:=⟨w2.heap.size,0,none⟩) hl3).trans y0;have z1:=(hb4.cell (p:=⟨w2.heap.size,1,none⟩) hl3).trans y1;have z2:=(hb4.cell (p:=⟨w2.heap.size,2,none⟩) hl3).trans y2;have z3:=(hb4.cell (p:=⟨w2.heap.size,3,none⟩) hl3).trans y3;have hl4:=Nat.lt_of_lt_of_le hl3 hb4.size;clear ho hb4 hvu)|(go_at_call 61;refine(HRS.out _ (HM.out.below (HB2.out.alloc HB2.out.size _))).mono ?_;rintro e w3 ⟨ho,hb3⟩;obtain⟨sb,rfl,hsl⟩:=HRO.out _ _ _ ho;have HSL:=hid hsl;have HB23:=hid (aC ((Below.refl w2.heap.size w2).alloc (Nat.le_refl _) (fF 82 ⟨#[]⟩ 0 a n c)) hb3);have HB3:=hid (HB2.out.trans (HB23.out.mono HB2.out.size));obtain⟨f2,f3,f4⟩:=HFC.out _ _ _ (HFD.out.below HB23.out);have hl3:w2.heap.size<w3.heap.size:=Nat.lt_of_lt_of_le (by simp) hb3.size;have y0:w3.cell? ⟨w2.heap.size,0,none⟩=some (.int .u8 82):=(hb3.cell (p:=⟨w2.heap.size,0,none⟩) (by simp)).trans (by simp[go_sem]);have y1:w3.cell? ⟨w2.heap.size,1,none⟩=some (.string ⟨#[]⟩):=(hb3.cell (p:=⟨w2.heap.size,1,none⟩) (by simp)).trans (by simp[go_sem]);have y2:w3.cell? ⟨w2.heap.size,2,none⟩=some (.int .i64 0):=(hb3.cell (p:=⟨w2.heap.size,2,none⟩) (by simp)).trans (by simp[go_sem]);have y3:w3.cell? ⟨w2.heap.size,3,none⟩=some (.slice a n c):=(hb3.cell (p:=⟨w2.heap.size,3,none⟩) (by simp)).trans (by simp[go_sem]);clear ho hb3 hsl)|(go_at_call 60;refine HG.out.mono ?_;rintro e w2 ⟨ho,hb2⟩;obtain⟨fb,o,a,c,rfl,hfd,hvc⟩:=HO.out _ _ ho;have HFD:=hid hfd;have HVC:=hid hvc;have HB2:=hid hb2;clear ho hb2 hfd hvc))
    ·exact bodyPost_ret (v:=.tuple #[tx [],.bool false]) (by simp[results,Tryz.results31,go_sem, *]) rfl ⟨by rw[HF.out];rfl,HB6.out⟩
    ·exact bodyPost_ret (v:=.tuple #[.string O,.bool true]) (by simp[results,Tryz.results31,go_sem, *]) rfl ⟨by rw[HF.out];rfl,HB7.out⟩

theorem rI (v:ByteArray):vfV (some v.data.toList)=.tuple #[.string v,.bool true]:=by
 show Value.tuple #[.string ⟨v.data.toList.toArray⟩,.bool true]=_;rw[Array.toArray_toList]

theorem kF {o:Option (List UInt8)} {X:ByteArray} (h:vfV o=.tuple #[.string X,.bool true]):o=some X.data.toList:=by
 cases o with
 | none=>exact absurd h (by intro h;injection h with h;injection h with h;injection h with _ h;injection h with h;injection h with h;cases h)
 | some l =>
  have h':Value.tuple #[.string ⟨l.toArray⟩,.bool true]=.tuple #[.string X,.bool true]:=h;injection h' with h';injection h' with h';injection h' with h' _;injection h' with h';rw[<-h']
theorem gV {l kt s b r:List UInt8} {g:Int} (h:aX l kt s g b=some r):∃ x k v,bA l kt=some (x,k)/\Wf.ScOk x/\Wf.valIn x k s=some v/\Wf.bU x k v g b=some r:=by
 unfold aX at h;cases hvo:valOf l kt s with
 | none=>rw[hvo] at h;cases h
 | some y =>
  obtain⟨⟨x,k⟩,v⟩:=y;rw[hvo] at h;obtain⟨hko,hvi⟩:=hM hvo;exact⟨x,k,v,hko,(fL hko).1,hvi,h⟩
theorem qJ {l kt s:List UInt8} {x:Wf.Sc} {k:Wf.K} {v:Wf.V} (h:bA l kt=some (x,k)) (hv:Wf.valIn x k s=some v):valOf l kt s=some ((x,k),v):=by
 unfold valOf;rw[h];dsimp only;rw[hv]
theorem xW (s K T X O R Y Z V:ByteArray) (g d:Int) (hd:d≠g) (h1:vfV (aX s.data.toList K.data.toList T.data.toList g X.data.toList)=.tuple #[.string R,.bool true]) (h2:vfV (aX s.data.toList K.data.toList R.data.toList d O.data.toList)=.tuple #[.string Y,.bool true])
  (h3:vfV (aX s.data.toList K.data.toList T.data.toList d O.data.toList)=.tuple #[.string Z,.bool true]) (h4:vfV (aX s.data.toList K.data.toList Z.data.toList g X.data.toList)=.tuple #[.string V,.bool true]):Y=V:=by
 obtain⟨x,k,v,hk,hx,hv,e1⟩:=gV (kF h1);obtain⟨x2,k2,u,hk2,_,hu,e2⟩:=gV (kF h2);obtain⟨x3,k3,v3,hk3,_,hv3,e3⟩:=gV (kF h3);obtain⟨x4,k4,z,hk4,_,hz,e4⟩:=gV (kF h4);rw[hk] at hk2 hk3 hk4;cases hk2;cases hk3;cases hk4;rw[hv] at hv3;cases hv3;have h:=Wf.a6F hx hv hd e1 hu e2 e3 hz e4;cases Y;cases V;simp only[ByteArray.mk.injEq];exact Array.toList_inj.1 h
theorem sF {l kt s b r:List UInt8} {g:Int} (h:aX l kt s g b=some r):r.length<=400:=by
 obtain⟨x,k,v,hk,hx,hv,e1⟩:=gV h;obtain⟨u,hu,_⟩:=Wf.qR hx hv e1;exact(Wf.cY hu).2.2
theorem lX (l kt s:List UInt8) (g:Int) (b:List UInt8):∃ (t:ByteArray) (b2:Bool),vfV (aX l kt s g b)=.tuple #[.string t,.bool b2]/\t.size<=400:=by
 cases h:aX l kt s g b with
 | none=>exact⟨_,_,rfl,by decide⟩
 | some r=>exact⟨_,_,rfl,by rw[aV];exact sF h⟩
theorem a7N (q:Nat) (h:q<5):∃ O:ByteArray,O.size<=4/\∀ wz:World,(wz.alloc (.cells #[.string ⟨#[53]⟩,.string ⟨#[121,101,115]⟩,.string ⟨#[39,104,105,39]⟩,.string ⟨#[91,93]⟩,.string ⟨#[45]⟩] 9)).cell? ⟨wz.heap.size,q,none⟩=some (.string O):=by
 rcases(show q=0\/q=1\/q=2\/q=3\/q=4 by omega) with rfl|rfl|rfl|rfl|rfl
 ·exact⟨⟨#[53]⟩,by decide,fun wz=>by simp[go_sem]⟩
 ·exact⟨⟨#[121,101,115]⟩,by decide,fun wz=>by simp[go_sem]⟩
 ·exact⟨⟨#[39,104,105,39]⟩,by decide,fun wz=>by simp[go_sem]⟩
 ·exact⟨⟨#[91,93]⟩,by decide,fun wz=>by simp[go_sem]⟩
 ·exact⟨⟨#[45]⟩,by decide,fun wz=>by simp[go_sem]⟩
theorem oZ (s K T X:ByteArray) (g:Int):vfV (aX s.data.toList K.data.toList T.data.toList g X.data.toList)=.tuple #[.string ⟨#[]⟩,.bool false]\/∃ R O:ByteArray,vfV (aX s.data.toList K.data.toList T.data.toList g X.data.toList)=.tuple #[.string R,.bool true]/\R.size<=400/\O.size<=1000000 /\
  vfV (bP s.data.toList K.data.toList R.data.toList g)=.tuple #[.string X,.bool true]/\vfV (bP s.data.toList K.data.toList T.data.toList g)=.tuple #[.string O,.bool true]/\vfV (aX s.data.toList K.data.toList R.data.toList g O.data.toList)=.tuple #[.string T,.bool true] /\
  ∀ d:Int,d≠g->bP s.data.toList K.data.toList T.data.toList d=bP s.data.toList K.data.toList R.data.toList d:=by
 cases hf:aX s.data.toList K.data.toList T.data.toList g X.data.toList with
 | none=>exact .inl rfl
 | some r =>
  right
  have hrl:=sF hf;obtain⟨x,k,v,hk,hx,hv,e1⟩:=gV hf;obtain⟨u,hu,hfu,⟨o,ho,hso⟩,hall⟩:=Wf.qR hx hv e1;have hvT:=qJ hk hv;have hvR:=qJ hk hu;have hfT:∀ d:Int,bP s.data.toList K.data.toList T.data.toList d=Wf.dE x k v d:=fun d=>by unfold bP;rw[hvT];rfl
  have hfR:∀ d:Int,bP s.data.toList K.data.toList r d=Wf.dE x k u d:=fun d=>by unfold bP;rw[hvR];rfl
  have hol:o.length<=400:=by
   obtain⟨_,_,_,_,_,_,_,hok,_⟩:=Wf.a8G hx hv ho;obtain⟨z,hz⟩:=Option.isSome_iff_exists.1 hok;exact(Wf.cY hz).2.2
  refine⟨⟨r.toArray⟩,⟨o.toArray⟩,rfl,hrl,by rw[aV];omega,?_,?_,?_,fun d hd=>?_⟩
  ·show vfV (bP _ _ r g)=_
   rw[hfR,hfu];exact rI X
  ·rw[hfT,ho];rfl
  ·show vfV (aX _ _ r g o)=_
   have:aX s.data.toList K.data.toList r g o=some T.data.toList:=(by unfold aX;rw[hvR];exact hso);rw[this];exact rI T
  ·show _=bP _ _ r d
   rw[hfT,hfR];exact hall d hd

structure WB (w wr:World) (vb base:Nat) (ta:Option Addr) (mt tc:Nat) (a:Option Addr) (m c:Nat) (gs:List Nat) (bs:List Nat):Prop where
 lt:vb<base
 le:w.heap.size<=vb
 sz:base<=wr.heap.size
 v2:wr.cell? ⟨vb,2,none⟩=some (.slice ta mt tc)
 f2:wr.frozen? ⟨vb,2,none⟩=false
 v3:wr.cell? ⟨vb,3,none⟩=some (.slice a m c)
 f3:wr.frozen? ⟨vb,3,none⟩=false
 ownT:wr.ownsRow base 3 1 (.slice ta mt tc) mt (gs.map ix)
 ownK:wr.ownsRow base 96 1 (.slice a m c) m (bs.map ptr)
 apart:∀ y,(Value.slice ta mt tc).ownBlock=some y->(Value.slice a m c).ownBlock=some y->False
 hg:gs.length=mt
 hl:bs.length=m
section
variable {w wr:World} {vb base mt tc m c:Nat} {ta a:Option Addr} {gs:List Nat} {bs:List Nat}
theorem WB.step (h:WB w wr vb base ta mt tc a m c gs bs) {w2:World} (hb:Below wr.heap.size wr w2):WB w w2 vb base ta mt tc a m c gs bs:=by
 have hv:vb<wr.heap.size:=Nat.lt_of_lt_of_le h.lt h.sz;exact⟨h.lt,h.le,Nat.le_trans h.sz hb.size,(hb.cell (p:=⟨vb,2,none⟩) hv).trans h.v2,(hb.frozen (p:=⟨vb,2,none⟩) hv).trans h.f2,(hb.cell (p:=⟨vb,3,none⟩) hv).trans h.v3,(hb.frozen (p:=⟨vb,3,none⟩) hv).trans h.f3,cE h.ownT hb,cE h.ownK hb,h.apart,h.hg,h.hl⟩
theorem WB.putT (h:WB w wr vb base ta mt tc a m c gs bs) {wx w4:World} (hx:Below wr.heap.size wr wx) (hg:wx.grownBy w4 (Value.slice ta mt tc).ownBlock) {g cap g0:Nat}
  (ho:w4.ownsRow base 3 1 (.slice (some ⟨g,0,none⟩) (mt+1) cap) (mt+1) (gs.map ix++[ix g0])) (hat:(Value.slice ta mt tc).ownBlock=some g\/g=wx.heap.size) :
  WB w (w4.setCell ⟨vb,2,none⟩ (.slice (some ⟨g,0,none⟩) (mt+1) cap)) vb base (some ⟨g,0,none⟩) (mt+1) cap a m c (gs++[g0]) bs:=by
 have hs:=h.step hx;have hlo:=aL hs.ownT;have hB:Below base wx w4:=aU hg (fun g hgk=>(hlo g hgk).1) hs.sz;have hss:(w4.setCell ⟨vb,2,none⟩ (.slice (some ⟨g,0,none⟩) (mt+1) cap)).heap.size=w4.heap.size:=by simp
 have hloc:(Value.slice (some ⟨g,0,none⟩) (mt+1) cap).ownBlock=(Value.slice ta mt tc).ownBlock\/(Value.slice (some ⟨g,0,none⟩) (mt+1) cap).ownBlock=some wx.heap.size:=by
  rcases hat with hat|hat
  ·exact .inl hat.symm
  ·exact .inr (by rw[<-hat];rfl)
 have hl:=h.lt;have hkeep:∀ y,base<=y->y<wx.heap.size->some y≠(Value.slice ta mt tc).ownBlock->some y≠(Value.slice (some ⟨g,0,none⟩) (mt+1) cap).ownBlock/\(w4.setCell ⟨vb,2,none⟩ (.slice (some ⟨g,0,none⟩) (mt+1) cap)).heap[y]? = wx.heap[y]?:=fun y hy1 hy2 hy3=>by
  obtain⟨e1,e2⟩:=eY hg hloc hy2 hy3;refine⟨e2,?_⟩;rw[Below.heap_setCell w4 ⟨vb,2,none⟩ _ _ (by show y≠vb;omega)];exact e1
 have hap:∀ y,(Value.slice a m c).ownBlock=some y->some y≠(Value.slice ta mt tc).ownBlock:=fun y h1 h2=>h.apart y h2.symm h1;refine⟨h.lt,h.le,by rw[hss];exact Nat.le_trans hs.sz hB.size,World.cell?_setCell_same w4 _ _ ((hB.cell (p:=⟨vb,2,none⟩) h.lt).trans hs.v2),?_,(World.cell?_setCell_other w4 _ _ _ (by simp)).trans ((hB.cell (p:=⟨vb,3,none⟩) h.lt).trans hs.v3),?_,?_,ownsRow_setCell_below (iZ hs.ownK hg hap) h.lt _,?_,by rw[List.length_append,h.hg];rfl,h.hl⟩
 ·have:=(hB.frozen (p:=⟨vb,2,none⟩) h.lt).trans hs.f2
  simpa using this
 ·have:=(hB.frozen (p:=⟨vb,3,none⟩) h.lt).trans hs.f3
  simpa using this
 ·rw[List.map_append]
  exact ownsRow_setCell_below ho h.lt _
 ·intro y h1 h2
  have hk:=aL hs.ownK y h2;rcases hloc with h3|h3
  ·rw[h3] at h1;exact h.apart y h1 h2
  ·rw[h3] at h1;have:=Option.some.inj h1;omega
theorem WB.putK (h:WB w wr vb base ta mt tc a m c gs bs) {wx w4:World} (hx:Below wr.heap.size wr wx) (hg:wx.grownBy w4 (Value.slice a m c).ownBlock) {g cap b:Nat}
  (ho:w4.ownsRow base 96 1 (.slice (some ⟨g,0,none⟩) (m+1) cap) (m+1) (bs.map ptr++[ptr b])) (hat:(Value.slice a m c).ownBlock=some g\/g=wx.heap.size) :
  WB w (w4.setCell ⟨vb,3,none⟩ (.slice (some ⟨g,0,none⟩) (m+1) cap)) vb base ta mt tc (some ⟨g,0,none⟩) (m+1) cap gs (bs++[b]):=by
 have hs:=h.step hx;have hlo:=aL hs.ownK;have hB:Below base wx w4:=aU hg (fun g hgk=>(hlo g hgk).1) hs.sz;have hss:(w4.setCell ⟨vb,3,none⟩ (.slice (some ⟨g,0,none⟩) (m+1) cap)).heap.size=w4.heap.size:=by simp
 have hloc:(Value.slice (some ⟨g,0,none⟩) (m+1) cap).ownBlock=(Value.slice a m c).ownBlock\/(Value.slice (some ⟨g,0,none⟩) (m+1) cap).ownBlock=some wx.heap.size:=by
  rcases hat with hat|hat
  ·exact .inl hat.symm
  ·exact .inr (by rw[<-hat];rfl)
 have hl:=h.lt;have hkeep:∀ y,base<=y->y<wx.heap.size->some y≠(Value.slice a m c).ownBlock->some y≠(Value.slice (some ⟨g,0,none⟩) (m+1) cap).ownBlock/\(w4.setCell ⟨vb,3,none⟩ (.slice (some ⟨g,0,none⟩) (m+1) cap)).heap[y]? = wx.heap[y]?:=fun y hy1 hy2 hy3=>by
  obtain⟨e1,e2⟩:=eY hg hloc hy2 hy3;refine⟨e2,?_⟩;rw[Below.heap_setCell w4 ⟨vb,3,none⟩ _ _ (by show y≠vb;omega)];exact e1
 have hap:∀ y,(Value.slice ta mt tc).ownBlock=some y->some y≠(Value.slice a m c).ownBlock:=fun y h1 h2=>h.apart y h1 h2.symm;refine⟨h.lt,h.le,by rw[hss];exact Nat.le_trans hs.sz hB.size,(World.cell?_setCell_other w4 _ _ _ (by simp)).trans ((hB.cell (p:=⟨vb,2,none⟩) h.lt).trans hs.v2),?_,World.cell?_setCell_same w4 _ _ ((hB.cell (p:=⟨vb,3,none⟩) h.lt).trans hs.v3),?_,ownsRow_setCell_below (iZ hs.ownT hg hap) h.lt _,?_,?_,h.hg,by rw[List.length_append,h.hl];rfl⟩
 ·have:=(hB.frozen (p:=⟨vb,2,none⟩) h.lt).trans hs.f2
  simpa using this
 ·have:=(hB.frozen (p:=⟨vb,3,none⟩) h.lt).trans hs.f3
  simpa using this
 ·rw[List.map_append]
  exact ownsRow_setCell_below ho h.lt _
 ·intro y h1 h2
  have hk:=aL hs.ownT y h1;rcases hloc with h3|h3
  ·rw[h3] at h2;exact h.apart y h1 h2
  ·rw[h3] at h2;have:=Option.some.inj h2;omega
end

theorem cK.form {l kt:List UInt8} {lo:Nat} {e:Ending} {w':World} (h:cK l kt lo e w'):∃ a n c b,e=.returned (.tuple #[.slice a n c,.bool b]):=by
 unfold cK at h;cases hk:bA l kt with
 | none=>rw[hk] at h;obtain⟨a,n,c,rfl⟩:=h;exact⟨_,_,_,_,rfl⟩
 | some y=>rw[hk] at h;obtain⟨b,a,c,rfl,_⟩:=h;exact⟨_,_,_,_,rfl⟩
theorem a0X (rb k:Nat) (w:World) (H:Rd w rb k) (hk:k<=900000) :
  Calls Tryz.prog 144 #[.pointer (some ⟨rb,0,none⟩)] w fun e w'=>∃ b:List UInt8,e=.returned (tx (39::(b++[39])))/\b.all Wf.aG=true/\b.length<=12/\Rd w' rb (k+1)/\aA rb w w':=by
 have R0:=H.lt;go_enter Tryz.func144,Tryz.ntmps144;go_wp2_with (go_at_call 44;refine(pick rb k 6 _ (H.alloc _) (by omega) (by omega)).mono ?_;rintro e w3 ⟨n,rfl,hn,_,hR3,hBs3⟩;obtain⟨hn0,hn1⟩:=hn (by omega);obtain⟨x,hx0,hx1,hxc⟩:=cO 12 [[],[97],[104,105],[97,32,98],[122,122,57],[97,98,99,100,101,102,103,104,105,106,107,108]] hBs3 R0 n hn0 hn1 (by decide);have B3:=Lib.hid (((aA.refl rb w).alloc _).trans hBs3);clear hBs3)
 have hall:=List.all_eq_true.1 (show([[],[97],[104,105],[97,32,98],[122,122,57],[97,98,99,100,101,102,103,104,105,106,107,108]]:List (List UInt8)).all (fun b=>b.all Wf.aG&&decide (b.length<=12))=true by decide) _ hx1;rw[Bool.and_eq_true,decide_eq_true_eq] at hall;go_ret
 refine⟨x.data.toList,?_,hall.1,hall.2,hR3,B3.out⟩;refine congrArg (fun s=>Ending.returned (Value.string s)) ?_;rw[aW];simp[ByteArray.data_append]
theorem a5S (rb k:Nat) (s:ByteArray) (hs:s.size<=1048576) (w:World) (H:Rd w rb k) (hk:k<=800000) :
  Calls Tryz.prog 53 #[.pointer (some ⟨rb,0,none⟩),.string s] w fun e w'=>∃ K:ByteArray,e=.returned (.string K)/\K.size<=100/\Rd w' rb (k+10)/\aA rb w w':=by
 have R0:=H.lt;have HK:=hid fun(kt:ByteArray) (wz:World)=>mK s kt wz hs;go_enter Tryz.func53,Tryz.ntmps53;go_wp2_with (first|(go_at_call 35;refine(HK.out x _).mono ?_;rintro e w4 ⟨ho,hb4⟩;obtain⟨a,n,c,b,rfl⟩:=ho.form;have R4:=hid (hR3.below hb4 hR3.lt);have B4:=hid (B3.out.trans (aA.aI hb4 (Nat.le_refl _)));clear ho hb4;cases b)|(go_at_call 86;refine(uR rb (k+1) _ hR2 (by omega)).mono ?_;rintro e w3 ⟨K,rfl,hK,hR4,hBs4⟩;have B5:=hid (B2.out.trans hBs4);clear hBs4)|(go_at_call 44;have _u:=hR2;refine(pick rb (k+1) 11 _ (hR2.alloc _) (by omega) (by omega)).mono ?_;rintro e w3 ⟨n,rfl,hn,_,hR3,hBs3⟩;obtain⟨hn0,hn1⟩:=hn (by omega);obtain⟨x,hx0,hx1,hxc⟩:=cO 4 [[64,97,59],[64,97,59],[64,97,59],[64,98,59],[64,99,59],[91,110],[63,64,97,59],[110],[116],[91,64,98,59],[63,91,102]] hBs3 hR2.lt n hn0 hn1 (by decide);have B3:=Lib.hid ((B2.out.alloc _).trans hBs3);clear hBs3)|(go_at_call 44;refine(pick rb k 30 _ H (by omega) (by omega)).mono ?_;rintro e w2 ⟨v,rfl,hv,_,hR2,hBs⟩;obtain⟨hv0,hv1⟩:=hv (by omega);have B2:=Lib.hid hBs;clear hBs hv;rcases(Bool.eq_false_or_eq_true (v==(0:Int))) with hq|hq))
 all_goals go_ret
 all_goals first|exact⟨K,rfl,by omega,hR4.mono (by omega),B5.out⟩|exact⟨_,rfl,by decide,R4.out.mono (by omega),B4.out⟩|exact⟨x,rfl,by omega,R4.out.mono (by omega),B4.out⟩

def DrV (x:Wf.Sc) (v:Value) (rb lo bsc:Nat) (d:Int) (k:Wf.K) (C B N:Nat):Prop:=∀ (w:World) (k0:Nat),Rd w rb k0->k0+C<=900000->ScSp w lo bsc v x->rb<lo->Calls Tryz.prog 100 #[.pointer (some ⟨rb,0,none⟩),v,tx k.text,.int .i64 d] w fun e w'=>∃ (u:Wf.V) (p:Nat),e=.returned (ptr p)/\Wf.Typed x N k u/\u.print.length<=B/\LV w' (fun z=>w.heap.size<=z) u p/\Rd w' rb (k0+C)/\aA rb w w'
theorem DrV.mono {x:Wf.Sc} {v:Value} {rb lo bsc:Nat} {d:Int} {k:Wf.K} {C B N C' B' N':Nat} (h:DrV x v rb lo bsc d k C B N) (hC:C<=C') (hB:B<=B') (hN:N<=N'):DrV x v rb lo bsc d k C' B' N':=fun w k0 hr hk hs hl =>
 (h w k0 hr (by omega) hs hl).mono fun e w' ⟨u,p,h1,h2,h3,h4,h5,h6⟩=>⟨u,p,h1,Wf.fH _ _ _ h2 _ hN,by omega,h4,h5.mono (by omega),h6⟩
abbrev vNew (KT:ByteArray):Obj:=.cells #[.string KT,.string ⟨#[]⟩,.slice none 0 0,.slice none 0 0] 142
theorem eO {w w3:World} {rb:Nat} {KT:ByteArray} (hr:rb<w.heap.size) (hb:aA rb (w.alloc (vNew KT)) w3):w.heap.size<w3.heap.size/\w3.cell? ⟨w.heap.size,0,none⟩=some (.string KT)/\w3.cell? ⟨w.heap.size,1,none⟩=some (.string ⟨#[]⟩)/\w3.cell? ⟨w.heap.size,2,none⟩=some (.slice none 0 0)/\w3.cell? ⟨w.heap.size,3,none⟩=some (.slice none 0 0)/\w3.frozen? ⟨w.heap.size,1,none⟩=false/\w3.frozen? ⟨w.heap.size,2,none⟩=false/\w3.frozen? ⟨w.heap.size,3,none⟩=false:=by
 have hlt:w.heap.size<(w.alloc (vNew KT)).heap.size:=by simp
 have hne:w.heap.size≠rb:=by omega
 have hblk:=hb.block w.heap.size hlt hne;have cd:=fun o=>World.cell?_of_block (w:=w.alloc (vNew KT)) (w':=w3) (a:=⟨w.heap.size,o,none⟩) hblk;have cf:=fun o=>World.frozen?_of_block (w:=w.alloc (vNew KT)) (w':=w3) (a:=⟨w.heap.size,o,none⟩) hblk;refine⟨Nat.lt_of_lt_of_le hlt hb.size,(cd 0).trans ?_,(cd 1).trans ?_,(cd 2).trans ?_,(cd 3).trans ?_,(cf 1).trans ?_,(cf 2).trans ?_,(cf 3).trans ?_⟩ <;> simp[vNew,go_sem]
theorem LV.leaf {w w3:World} {rb:Nat} {KT X:ByteArray} {what:UInt8} {text:List UInt8} (hr:rb<w.heap.size) (hb:aA rb (w.alloc (vNew KT)) w3) (hs:cG what text KT.data.toList X.data.toList) (h61:what≠61) (ht:bE what 0 []=[]):LV (w3.setCell ⟨w.heap.size,1,none⟩ (.string X)) (fun z=>w.heap.size<=z) (.mk what text 0 []) w.heap.size:=by
 obtain⟨hlt,c0,c1,c2,c3,_,_,_⟩:=eO hr hb;refine LV.mk (kd:=KT.data.toList) (t:=X.data.toList) (bs:=[]) (tb:=0) (kb:=0) (tv:=.slice none 0 0) (kv:=.slice none 0 0) h61 (Nat.le_refl _) (by simpa using hlt) ((World.cell?_setCell_other w3 _ _ _ (by simp)).trans c0) (World.cell?_setCell_same w3 _ _ c1) ((World.cell?_setCell_other w3 _ _ _ (by simp)).trans c2) ((World.cell?_setCell_other w3 _ _ _ (by simp)).trans c3) (by rw[ht];exact dT _ _) (.inl ht) (dT _ _) (.inl rfl) hs (by simp only[LVs])
theorem lB {rb:Nat} {w w3:World} (h:aA rb w w3) {p:Addr} (hp:w.heap.size<=p.block) (u:Value):aA rb w (w3.setCell p u):=by
 have hb:=(Below.refl w.heap.size w3).setCell hp u;exact⟨hb.os.trans h.os,hb.tape.trans h.tape,hb.output.trans h.output,Nat.le_trans h.size hb.size,fun k hk hr=>(Below.heap_setCell w3 p u k (by omega)).trans (h.block k hk hr)⟩
theorem a6X {w4:World} {a:Addr} {c:Value} {p:Nat} (hp:p<=999999) (hc:c∈[Value.int .i64 0,.int .i64 5,.int .i64 (p:Int),.int .i64 127,.int .i64 128,.int .i64 16383,.int .i64 16384,.int .i64 999999]) (hcc:w4.cell? a=some c):∃ y:Nat,y<=999999/\w4.cell? a=some (.int .i64 y):=by
 simp only[List.mem_cons,List.not_mem_nil,or_false] at hc;rcases hc with rfl|rfl|rfl|rfl|rfl|rfl|rfl|rfl
 ·exact⟨0,by omega,hcc⟩
 ·exact⟨5,by omega,hcc⟩
 ·exact⟨p,hp,hcc⟩
 ·exact⟨127,by omega,hcc⟩
 ·exact⟨128,by omega,hcc⟩
 ·exact⟨16383,by omega,hcc⟩
 ·exact⟨16384,by omega,hcc⟩
 ·exact⟨999999,by omega,hcc⟩
section
variable (x:Wf.Sc) (v:Value) (rb lo bsc:Nat) (d:Int)
theorem lV:DrV x v rb lo bsc d .txt 1 14 1:=fun w k0 H hk0 hsp hlo=>by
 have R0:=H.lt;obtain⟨KT,hKT⟩:∃ KT:ByteArray,(⟨(Wf.K.text .txt).toArray⟩:ByteArray)=KT:=⟨_,rfl⟩;have hk1:0<KT.size:=by rw[<-hKT];decide
 have ek:∀ h,(KT[0]'h).toNat=116:=by rw[<-hKT];intro h;rfl
 have HKH:=hid (show KT.data.toList.head? = some 116 by rw[<-hKT];rfl);rw[tx,hKT];clear hKT;go_enter Tryz.func100,Tryz.ntmps100;go_wp2_with (go_at_call 144;refine(a0X rb k0 _ (H.alloc _) (by omega)).mono ?_;rintro e w3 ⟨b,rfl,hb1,hb2,hR3,hBs3⟩;obtain⟨hlt,c0,c1,c2,c3,f1,f2,f3⟩:=eO R0 hBs3;have B3:=Lib.hid hBs3;have R3:=Lib.hid hR3;clear hBs3 hR3)
 go_ret
 refine⟨.mk 116 b 0 [],w.heap.size,rfl,⟨b,hb1,hb2,rfl⟩,by rw[Wf.eI];simp;omega,LV.leaf (X:=⟨(39::(b++[39])).toArray⟩) R0 B3.out ⟨HKH.out,rfl⟩ (by decide) rfl,R3.out.below ((Below.refl w.heap.size w3).setCell (Nat.le_refl _) _) R0,lB (((aA.refl rb w).alloc _).trans B3.out) (Nat.le_refl _) _⟩
theorem lS:DrV x v rb lo bsc d .flag 1 3 1:=fun w k0 H hk0 hsp hlo=>by
 have R0:=H.lt;obtain⟨KT,hKT⟩:∃ KT:ByteArray,(⟨(Wf.K.text .flag).toArray⟩:ByteArray)=KT:=⟨_,rfl⟩;have hk1:0<KT.size:=by rw[<-hKT];decide
 have ek:∀ h,(KT[0]'h).toNat=102:=by rw[<-hKT];intro h;rfl
 have HKH:=hid (show KT.data.toList.head? = some 102 by rw[<-hKT];rfl);have hr1:rb<(w.alloc (vNew KT)).heap.size:=Nat.lt_of_lt_of_le R0 (by simp);rw[tx,hKT];clear hKT;go_enter Tryz.func100,Tryz.ntmps100;go_wp2_with (go_at_call 44;refine(pick rb k0 2 _ ((H.alloc _).alloc _) (by omega) (by omega)).mono ?_;rintro e w3 ⟨n,rfl,hn,_,hR3,hBs3⟩;obtain⟨hn0,hn1⟩:=hn (by omega);obtain⟨X,hx0,hx1,hxc⟩:=cO 3 [[121,101,115],[110,111]] hBs3 hr1 n hn0 hn1 (by decide);have hxd:w3.cell? ⟨w.heap.size+1,n.toNat,none⟩=some (.string X):=(by have h:=hxc;rw[show(w.alloc (vNew KT)).heap.size=w.heap.size+1 by simp] at h;exact h);clear hxc;have B2:=Lib.hid (((aA.refl rb (w.alloc (vNew KT))).alloc _).trans hBs3);obtain⟨hlt,c0,c1,c2,c3,f1,f2,f3⟩:=eO R0 B2.out;have R3:=Lib.hid hR3;clear hBs3 hR3)
 go_ret
 have hX:X.data.toList=[121,101,115]\/X.data.toList=[110,111]:=by simpa using hx1
 refine⟨.mk 102 X.data.toList 0 [],w.heap.size,rfl,?_,by rw[Wf.dD,aE];exact hx0,LV.leaf (X:=X) R0 B2.out ⟨HKH.out,rfl⟩ (by decide) rfl,R3.out.below ((Below.refl w.heap.size w3).setCell (Nat.le_refl _) _) R0,lB (((aA.refl rb w).alloc _).trans B2.out) (Nat.le_refl _) _⟩;rcases hX with h|h
 ·exact .inl (by rw[h])
 ·exact .inr (by rw[h])
theorem nV:DrV x v rb lo bsc d .num 2 6 1:=fun w k0 H hk0 hsp hlo=>by
 have R0:=H.lt;obtain⟨KT,hKT⟩:∃ KT:ByteArray,(⟨(Wf.K.text .num).toArray⟩:ByteArray)=KT:=⟨_,rfl⟩;have hk1:0<KT.size:=by rw[<-hKT];decide
 have ek:∀ h,(KT[0]'h).toNat=110:=by rw[<-hKT];intro h;rfl
 have HKH:=hid (show KT.data.toList.head? = some 110 by rw[<-hKT];rfl);have HD:=hid fun(m:Nat) (hm:m<=999999) (wz:World)=>eX m m wz (Nat.le_refl _) (by omega);rw[tx,hKT];clear hKT;go_enter Tryz.func100,Tryz.ntmps100;go_wp2_with (first|(go_at_call 124;have _u:=hxd;refine(HD.out y (by omega) _).mono ?_;rintro e w5 ⟨rfl,hb5⟩;have B5:=Lib.hid (B4.out.trans (aA.aI hb5 (Nat.le_refl _)));have R5:=Lib.hid (R4.out.below hb5 R4.out.lt);obtain⟨hlt,c0,c1,c2,c3,f1,f2,f3⟩:=eO R0 B5.out;clear hb5)|(go_at_call 44;have _u:=hr3;refine(pick rb (k0+1) 8 _ (R3.out.alloc _) (by omega) (by omega)).mono ?_;rintro e w4 ⟨n,rfl,hn,_,hR4,hBs4⟩;obtain⟨hn0,hn1⟩:=hn (by omega);obtain⟨c,hc,hcc⟩:=vI [.int .i64 0,.int .i64 5,.int .i64 (p:Int),.int .i64 127,.int .i64 128,.int .i64 16383,.int .i64 16384,.int .i64 999999] hBs4 hr3 n hn0 (by simpa using hn1);obtain⟨y,hy,hxd⟩:=a6X (p:=p) (by omega) hc hcc;clear hc hcc;have hl4:w3.heap.size<w4.heap.size:=Nat.lt_of_lt_of_le (by simp) hBs4.size;have B4:=Lib.hid (B3.out.trans (((aA.refl rb w3).alloc _).trans hBs4));have R4:=Lib.hid hR4;clear hBs4 hR4)|(go_at_call 44;refine(pick rb k0 200 _ (H.alloc _) (by omega) (by omega)).mono ?_;rintro e w3 ⟨p',rfl,hp,_,hR3,hBs3⟩;obtain⟨hp0,hp1⟩:=hp (by omega);obtain⟨p,rfl⟩:=Int.eq_ofNat_of_zero_le hp0;have B3:=Lib.hid hBs3;have R3:=Lib.hid hR3;have hr3:rb<w3.heap.size:=hR3.lt;clear hBs3 hR3))
 go_ret
 refine⟨.mk 110 (Wf.dec y) 0 [],w.heap.size,rfl,⟨y,hy,rfl⟩,by rw[Wf.eB];exact Wf.cA hy,LV.leaf (X:=⟨(Wf.dec y).toArray⟩) R0 B5.out ⟨HKH.out,rfl⟩ (by decide) rfl,R5.out.below ((Below.refl w.heap.size w5).setCell (Nat.le_refl _) _) R0,lB (((aA.refl rb w).alloc _).trans B5.out) (Nat.le_refl _) _⟩
end

theorem ScSp.beside {w w':World} {lo b rb:Nat} {v:Value} {x:Wf.Sc} (h:ScSp w lo b v x) (hb:aA rb w w') (hr:rb<lo):ScSp w' lo b v x:=by
 obtain⟨cs,h0,h1,h2,h3⟩:=h;refine⟨cs,h0,h1.keep hb.size fun hx=>hb.block b hx (by omega),h2,fun i hi hi'=>?_⟩;obtain⟨fb,a,c,e1,e0,e2⟩:=h3 i hi hi';exact⟨fb,a,c,e1,e0,e2.keep hb.size fun hx=>hb.block fb hx (by omega)⟩
theorem KB.new {w:World} {KT:ByteArray}:KB w (w.alloc (vNew KT)) w.heap.size (w.heap.size+1) none 0 0 [] []:=by
 refine⟨by omega,Nat.le_refl _,by simp,?_,?_,World.ownsRow_nil _ _ _ _,rfl,by simp only[LVs]⟩;all_goals (simp[vNew,go_sem];done)
theorem KB.dA {w wr w2:World} {vb base m c rb:Nat} {a:Option Addr} {l:List Wf.V} {bs:List Nat} (h:KB w wr vb base a m c l bs) (hb:aA rb wr w2) (hr:rb<w.heap.size):KB w w2 vb base a m c l bs:=by
 have hv:vb<wr.heap.size:=Nat.lt_of_lt_of_le h.lt h.sz;have h1:=h.le;have h2:=h.lt;have hne:vb≠rb:=by omega
 have hblk:=hb.block vb hv hne;exact⟨h.lt,h.le,Nat.le_trans h.sz hb.size,(World.cell?_of_block (w:=wr) (w':=w2) (a:=⟨vb,3,none⟩) hblk).trans h.v3,(World.frozen?_of_block (w:=wr) (w':=w2) (a:=⟨vb,3,none⟩) hblk).trans h.f3,gX h.own hb (by omega),h.hl,LVs.keep (fun y hy hlt=>⟨hy,hb.block y hlt (by have:=hy.1;omega)⟩) hb.size _ _ h.vals⟩
theorem LV.empty {w w3:World} {rb:Nat} {KT:ByteArray} {what:UInt8} (hr:rb<w.heap.size) (hb:aA rb (w.alloc (vNew KT)) w3) (hs:cG what [] KT.data.toList []) (h61:what≠61) (ht:bE what 0 []=[]):LV w3 (fun z=>w.heap.size<=z) (.mk what [] 0 []) w.heap.size:=by
 obtain⟨hlt,c0,c1,c2,c3,_,_,_⟩:=eO hr hb;exact LV.mk (kd:=KT.data.toList) (t:=[]) (bs:=[]) (tb:=0) (kb:=0) h61 (Nat.le_refl _) hlt c0 c1 c2 c3 (by rw[ht];exact dT _ _) (.inl ht) (dT _ _) (.inl rfl) hs (by simp only[LVs])
section
variable (x:Wf.Sc) (v:Value) (rb lo bsc:Nat) (d:Int)
theorem qN (k:Wf.K) (hd:decide ((0:Int)<d)=false):DrV x v rb lo bsc d (.opt k) 0 1 1:=fun w k0 H hk0 hsp hlo=>by
 have R0:=H.lt;obtain⟨KT,hKT⟩:∃ KT:ByteArray,(⟨(Wf.K.opt k).text.toArray⟩:ByteArray)=KT:=⟨_,rfl⟩;obtain⟨hk1,ek⟩:=cQ (kd:=(Wf.K.opt k).text) (c:=63) rfl;rw[hKT] at hk1 ek;have ek2:∀ h,(KT[0]'h).toNat=63:=ek;have HKH:=hid (show KT.data.toList.head? = some 63 by rw[<-hKT];rfl);rw[tx,hKT];clear hKT ek;go_enter Tryz.func100,Tryz.ntmps100;go_wp2_with fail
 go_ret
 exact⟨.mk 63 [] 0 [],w.heap.size,rfl,.inl rfl,by rw[Wf.eW];simp,LV.empty R0 (aA.refl rb _) ⟨HKH.out,rfl⟩ (by decide) rfl,H.alloc _,(aA.refl rb w).alloc _⟩
end

theorem KB.put2 {w wr:World} {vb base m c:Nat} {a:Option Addr} {l:List Wf.V} {bs:List Nat} (h:KB w wr vb base a m c l bs) {wx w4:World} (hs:KB w wx vb base a m c l bs) (hg:wx.grownBy w4 (Value.slice a m c).ownBlock) {g cap b:Nat} {u:Wf.V}
  (ho:w4.ownsRow base 96 1 (.slice (some ⟨g,0,none⟩) (m+1) cap) (m+1) (bs.map ptr++[ptr b])) (hat:(Value.slice a m c).ownBlock=some g\/g=wx.heap.size) (hv:LV wx (fun y=>wr.heap.size<=y) u b) :
  KB w (w4.setCell ⟨vb,3,none⟩ (.slice (some ⟨g,0,none⟩) (m+1) cap)) vb base (some ⟨g,0,none⟩) (m+1) cap (l++[u]) (bs++[b]):=by
 have hlo:=aL hs.own;have hlo0:=aL h.own;have hB:Below base wx w4:=aU hg (fun g hgk=>(hlo g hgk).1) hs.sz;have hss:(w4.setCell ⟨vb,3,none⟩ (.slice (some ⟨g,0,none⟩) (m+1) cap)).heap.size=w4.heap.size:=by simp
 have c3:=(hB.cell (p:=⟨vb,3,none⟩) h.lt).trans hs.v3;have hloc:(Value.slice (some ⟨g,0,none⟩) (m+1) cap).ownBlock=(Value.slice a m c).ownBlock\/(Value.slice (some ⟨g,0,none⟩) (m+1) cap).ownBlock=some wx.heap.size:=by
  rcases hat with hat|hat
  ·exact .inl hat.symm
  ·exact .inr (by rw[<-hat];rfl)
 have hl:=h.lt;have hkeep:∀ y,base<=y->y<wx.heap.size->some y≠(Value.slice a m c).ownBlock->some y≠(Value.slice (some ⟨g,0,none⟩) (m+1) cap).ownBlock/\(w4.setCell ⟨vb,3,none⟩ (.slice (some ⟨g,0,none⟩) (m+1) cap)).heap[y]? = wx.heap[y]?:=fun y hy1 hy2 hy3=>by
  obtain⟨e1,e2⟩:=eY hg hloc hy2 hy3;refine⟨e2,?_⟩;rw[Below.heap_setCell w4 ⟨vb,3,none⟩ _ _ (by show y≠vb;omega)];exact e1
 refine⟨h.lt,h.le,by rw[hss];exact Nat.le_trans hs.sz hB.size,World.cell?_setCell_same w4 _ _ c3,?_,?_,by rw[List.length_append,h.hl];rfl,LVs.snoc ?_ ?_⟩
 ·have:=(hB.frozen (p:=⟨vb,3,none⟩) h.lt).trans hs.f3
  simpa using this
 ·rw[List.map_append]
  exact ownsRow_setCell_below ho h.lt _
 ·exact LV.keep (fun y hp hlt=>by
   have hb1:base<=y:=Nat.le_trans h.sz hp;have hb3:some y≠(Value.slice a m c).ownBlock:=fun he=>by
    have h5:=(hlo0 y he.symm).2;have h6:wr.heap.size<=y:=hp;omega
   obtain⟨e1,e2⟩:=hkeep y hb1 hlt hb3;exact⟨⟨hb1,e1⟩,e2⟩) (by rw[hss];exact hB.size) _ _ hv
 ·exact LVs.keep (fun y hp hlt=>by
   obtain⟨e1,e2⟩:=hkeep y hp.1 hlt hp.2;exact⟨⟨hp.1,e1⟩,e2⟩) (by rw[hss];exact hB.size) _ _ hs.vals
theorem KB.val {w wr:World} {vb base m c:Nat} {a:Option Addr} {l:List Wf.V} {bs:List Nat} {KT:ByteArray} {what:UInt8} (h:KB w wr vb base a m c l bs) (h61:what≠61) (h0:wr.cell? ⟨vb,0,none⟩=some (.string KT)) (h1:wr.cell? ⟨vb,1,none⟩=some (.string ⟨#[]⟩)) (h2:wr.cell? ⟨vb,2,none⟩=some (.slice none 0 0)) (hs:cG what [] KT.data.toList []) (ht:bE what 0 l=[]):LV wr (fun y=>w.heap.size<=y) (.mk what [] 0 l) vb:=by
 have hbl:(bs.map ptr).length=m:=by rw[List.length_map,h.hl]
 obtain⟨b,hb,hrow⟩:=aJ.bJ (xs:=bs.map ptr) (by rw[hbl];exact h.own);have e1:=h.lt;have e3:=h.le;have e4:=h.sz;exact LV.mk (kd:=KT.data.toList) (t:=[]) (tb:=0) (kb:=b) (bs:=bs) h61 e3 (by omega) h0 h1 h2 h.v3 (by rw[ht];exact dT _ _) (.inl ht) hrow (.inr (by omega)) hs (LVs.keep (fun y hp hlt=>⟨by have:=hp.1;omega,rfl⟩) (Nat.le_refl _) _ _ h.vals)
theorem gT {rb B:Nat} {w w3 w4:World} (h:aA rb w w3) (hb:Below B w3 w4) (hB:w.heap.size<=B):aA rb w w4 :=
 ⟨hb.os.trans h.os,hb.tape.trans h.tape,hb.output.trans h.output,Nat.le_trans h.size hb.size,fun k hk hr=>(hb.block k (by omega)).trans (h.block k hk hr)⟩
theorem mP {ops:Array Oper} {o:Oper} {act:Act} {K:Act->World->Prop} {Q:Exit->Act->World->Prop} {E:Prop} {wx:World} {base m c:Nat} {a:Option Addr} {xs:List Value} {p:Nat} (s x:Operand) (hgd:o.guard=none) (ho:o.op=.call { callee:=.builtin .append,args:=#[s,x],argTypes:=#[140,140] })
  (hb:base<=wx.heap.size) (hown:wx.ownsRow base 96 1 (.slice a m c) m xs) (hm1:m<=1000) {zb:Nat} (hz:wx.heap[zb]? = some (.cells #[ptr p] 96)) (hs:act.eval s=.slice a m c) (hx2:act.eval x=.slice (some ⟨zb,0,none⟩) 1 1)
  (h:∀ g cap w4,w4.ownsRow base 96 1 (.slice (some ⟨g,0,none⟩) (m+1) cap) (m+1) (xs++[ptr p])->wx.grownBy w4 (Value.slice a m c).ownBlock->((Value.slice a m c).ownBlock=some g\/g=wx.heap.size)->Below base wx w4->K (act.put o.dst (.slice (some ⟨g,0,none⟩) (m+1) cap)) w4) :
  if Region.wanted o (yielded ops act.tmps)=true then Oper.wp Tryz.prog o act wx K Q else E:=by
 obtain⟨i0,hi0,hz0,hz1,hz2⟩:=info_parts jJ;refine step_append_lies wx hgd s x 140 ho base 96 i0 (.pointer none) 1 8 Tryz.underlying140 hi0 hz0 hz1 hz2 rfl (by decide) (.slice a m c) m _ hs hown ⟨zb,0,none⟩ 1 1 [ptr p] hx2 rfl (World.news_of_block hz) (gF _) (by decide) (by unfold maxLen;omega) (by omega) hb _ rfl fun g cap w4 h1 h2 h3 h4=>?_;exact h g cap w4 h1 h2 h3 (aU h2 (fun g hg=>(aL hown g hg).1) hb)
theorem uI {rb k:Nat} {w w3 w4:World} {KT:ByteArray} {ob:Obj} (R0:rb<w.heap.size) (hb3:aA rb w w3) (hlt:w.heap.size<w3.heap.size) (d0:w3.cell? ⟨w.heap.size,0,none⟩=some (.string KT)) (d1:w3.cell? ⟨w.heap.size,1,none⟩=some (.string ⟨#[]⟩)) (d2:w3.cell? ⟨w.heap.size,2,none⟩=some (.slice none 0 0)) (hr3:Rd w3 rb k) (b4:Below (w.heap.size+1) (w3.alloc ob) w4) (S:Value) :
  (w4.setCell ⟨w.heap.size,3,none⟩ S).cell? ⟨w.heap.size,0,none⟩=some (.string KT)/\(w4.setCell ⟨w.heap.size,3,none⟩ S).cell? ⟨w.heap.size,1,none⟩=some (.string ⟨#[]⟩)/\(w4.setCell ⟨w.heap.size,3,none⟩ S).cell? ⟨w.heap.size,2,none⟩=some (.slice none 0 0)/\Rd (w4.setCell ⟨w.heap.size,3,none⟩ S) rb k/\aA rb w (w4.setCell ⟨w.heap.size,3,none⟩ S):=by
 have cc:∀ j u,j≠3->w3.cell? ⟨w.heap.size,j,none⟩=some u->(w4.setCell ⟨w.heap.size,3,none⟩ S).cell? ⟨w.heap.size,j,none⟩=some u:=fun j u hj h =>
  (World.cell?_setCell_other w4 _ _ _ (by simp <;> omega)).trans ((b4.cell (p:=⟨w.heap.size,j,none⟩) (Nat.lt_succ_self _)).trans ((World.cell?_alloc_lt w3 _ ⟨w.heap.size,j,none⟩ hlt).trans h))
 have hB1:Below (w.heap.size+1) w3 w4:=((Below.refl _ w3).alloc (by omega) ob).trans b4;have hB:Below w.heap.size w3 (w4.setCell ⟨w.heap.size,3,none⟩ S):=(hB1.mono (Nat.le_succ _)).setCell (Nat.le_refl _) _;exact⟨cc 0 _ (by decide) d0,cc 1 _ (by decide) d1,cc 2 _ (by decide) d2,hr3.below hB R0,gT hb3 hB (Nat.le_refl _)⟩
section
variable (x:Wf.Sc) (v:Value) (rb lo bsc:Nat) (d:Int)
theorem wN (k:Wf.K) (hd0:0<d) (hd1:d<=1000) (hkl:(Wf.K.opt k).text.length<=1000) (C B N:Nat) (IH:DrV x v rb lo bsc (d-1) k C B N):DrV x v rb lo bsc d (.opt k) (C+1) (B+1) (N+1):=fun w k0 H hk0 hsp hlo=>by
 have R0:=H.lt;obtain⟨KT,hKT⟩:∃ KT:ByteArray,(⟨(Wf.K.opt k).text.toArray⟩:ByteArray)=KT:=⟨_,rfl⟩;obtain⟨K1,hK1⟩:∃ K1:ByteArray,(⟨k.text.toArray⟩:ByteArray)=K1:=⟨_,rfl⟩;obtain⟨hk1,ek⟩:=cQ (kd:=(Wf.K.opt k).text) (c:=63) rfl;rw[hKT] at hk1 ek;have ek2:∀ h,(KT[0]'h).toNat=63:=ek;have HKH:=hid (show KT.data.toList.head? = some 63 by rw[<-hKT];rfl);have hsl:∀ wz,(Instr.slice 9 (.string KT) (some (.int .i64 1)) none none).run Tryz.prog wz=.ok (.string K1) wz:=fun wz=>by
  have h:=bL KT 1 (by omega) wz;have e:KT.extract 1 KT.size=K1:=by
   rw[<-hKT,<-hK1];apply ByteArray.ext;apply Array.ext';rw[cV];rfl
  rw[e] at h;exact h
 have kd:IntKind.i64.wrap (d-1)=d-1:=IntWalk.i64_in _ (by omega);have hdd:decide ((0:Int)<d)=true:=decide_eq_true hd0;have HSP:=hid hsp;have HIH:=hid fun(wz:World) (kz:Nat) (hr:Rd wz rb kz) (hc:kz+C<=900000) (hs:ScSp wz lo bsc v x)=>(by
  have h:=IH wz kz hr hc hs hlo;rw[tx,hK1] at h;exact h)
 rw[tx,hKT];clear hKT ek hK1 IH hsp;go_enter Tryz.func100,Tryz.ntmps100;go_wp2_with (go_at_call 44;refine(pick rb k0 3 _ (H.alloc _) (by omega) (by omega)).mono ?_;rintro e w2 ⟨n,rfl,hn,_,hR2,hBs2⟩;obtain⟨hn0,hn1⟩:=hn (by omega);have B2:=Lib.hid hBs2;have R2:=Lib.hid hR2;clear hBs2 hR2 hn;rcases(Bool.eq_false_or_eq_true (decide ((0:Int)<n))) with hq|hq)
 ·have BW2:=hid (((aA.refl rb w).alloc _).trans B2.out)
  obtain⟨hlt2,c0,c1,c2,c3,f1,f2,f3⟩:=eO R0 B2.out;have K2:=hid (KB.new.dA (B2.out.trans (aA.drew (aA.refl rb w2))) R0);have hR2:=R2.out.lt;go_region_law (first|(refine mP (base:=w.heap.size+1) (.tmp 91) (.tmp 99) rfl rfl (by simp;omega) (World.ownsRow_nil _ _ _ _) (Nat.zero_le _) (heap_alloc_last w3 _) (by simp[Act.eval,Act.put]) (by simp[Act.eval,Act.put]) ?_;intro g cap w4 hown4 hgrow4 hat4 b4;have B4:=hid b4;have y3:=(b4.cell (p:=⟨w.heap.size,3,none⟩) (Nat.lt_succ_self _)).trans ((World.cell?_alloc_lt w3 _ ⟨w.heap.size,3,none⟩ hlt3).trans d3);have yf:=(b4.frozen (p:=⟨w.heap.size,3,none⟩) (Nat.lt_succ_self _)).trans ((((Below.refl w3.heap.size w3).alloc (Nat.le_refl _) _).frozen (p:=⟨w.heap.size,3,none⟩) hlt3).trans e3);have KX:=hid (KB.put2 K2.out ((K2.out.dA HB3.out R0).step ((Below.refl w3.heap.size w3).alloc (Nat.le_refl _) _)) hgrow4 hown4 hat4 (HLV.out.below ((Below.refl w3.heap.size w3).alloc (Nat.le_refl _) _)));have hl4:=b4.size;clear hown4 hgrow4 hat4 b4)|((try go_simp);go_at_call 100;refine(HIH.out w2.drew (k0+1) (R2.out.below (Below.drew (Below.refl _ _)) hR2) (by omega) (HSP.out.beside (BW2.out.trans (aA.drew (aA.refl rb w2))) hlo)).mono ?_;rintro e w3 ⟨u,p,rfl,ht,hpl,hlv,hr3,hb3⟩;obtain⟨hlt3,d0,d1,d2,d3,e1,e2,e3⟩:=eO R0 ((B2.out.trans (aA.drew (aA.refl rb w2))).trans hb3);have HT:=hid ht;have HPL:=hid hpl;have HLV:=hid hlv;have R3:=hid hr3;have HB3:=hid hb3;clear ht hpl hlv hr3 hb3))
  all_goals (go_wp2_with fail)
  all_goals
   obtain⟨q0,q1,q2,r5,b5⟩:=uI R0 (BW2.out.trans ((aA.drew (aA.refl rb w2)).trans HB3.out)) hlt3 d0 d1 d2 R3.out B4.out (.slice (some ⟨g,0,none⟩) 1 cap);go_ret
   exact⟨.mk 63 [] 0 [u],w.heap.size,rfl,.inr ⟨u,HT.out,rfl⟩,by rw[Wf.fX];have:=HPL.out;simp;omega,KX.out.val (by decide) q0 q1 q2 ⟨HKH.out,rfl⟩ rfl,r5.mono (by omega),b5⟩
 ·go_ret
  exact⟨.mk 63 [] 0 [],w.heap.size,rfl,.inl rfl,by rw[Wf.eW];simp,LV.empty R0 B2.out ⟨HKH.out,rfl⟩ (by decide) rfl,R2.out.mono (by omega),((aA.refl rb w).alloc _).trans B2.out⟩
end

theorem a3K {l:List Wf.V} {B m:Nat} (h:∀ u∈l,u.print.length<=B) (hm:l.length<=m):(Wf.V.mk 91 [] 0 l).print.length<=2+m*(B+1):=by
 rw[Wf.dW];have h1:=(Wf.jL (l.map Wf.V.print)).1;have h2:∀ (l:List Wf.V),(∀ u∈l,u.print.length<=B)->Wf.psum (l.map Wf.V.print)<=l.length*(B+1):=by
  intro l;induction l with
  | nil=>intro _;simp[Wf.psum]
  | cons v l ih =>
   intro h;have e:Wf.psum ((v::l).map Wf.V.print)=v.print.length+1+Wf.psum (l.map Wf.V.print):=(by unfold Wf.psum;simp);have:=ih fun u hu=>h u (List.mem_cons_of_mem _ hu);have:=h v (List.mem_cons_self ..);rw[e,List.length_cons,Nat.succ_mul];omega
 have h3:=h2 l h;have h4:l.length*(B+1)<=m*(B+1):=Nat.mul_le_mul_right _ hm;simp only[List.length_cons,List.length_append,List.length_nil];omega
section
variable (x:Wf.Sc) (v:Value) (rb lo bsc:Nat) (d:Int)
theorem uO (k:Wf.K) (hd0:¬ 0<d):DrV x v rb lo bsc d (.list k) 1 2 1:=fun w k0 H hk0 hsp hlo=>by
 have R0:=H.lt;obtain⟨KT,hKT⟩:∃ KT:ByteArray,(⟨(Wf.K.list k).text.toArray⟩:ByteArray)=KT:=⟨_,rfl⟩;obtain⟨hk1,ek⟩:=cQ (kd:=(Wf.K.list k).text) (c:=91) rfl;rw[hKT] at hk1 ek;have ek2:∀ h,(KT[0]'h).toNat=91:=ek;have HKH:=hid (show KT.data.toList.head? = some 91 by rw[<-hKT];rfl);have hdd:decide ((0:Int)<d)=false:=decide_eq_false hd0;rw[tx,hKT];clear hKT ek hsp;go_enter Tryz.func100,Tryz.ntmps100;go_wp2_with (go_at_call 44;refine(pick rb k0 4 _ (H.alloc _) (by omega) (by omega)).mono ?_;rintro e w2 ⟨n,rfl,hn,_,hR2,hBs2⟩;obtain⟨hn0,hn1⟩:=hn (by omega);have B2:=Lib.hid hBs2;have R2:=Lib.hid hR2;clear hBs2 hR2 hn)
 go_loopw [10] (fun s10 wr=>s10=.int .i64 n/\wr=w2) (fun _ _=>0)
 case atStart=>exact⟨rfl,rfl⟩
 case round =>
  obtain⟨rfl,rfl⟩:=hrel;rcases(Bool.eq_false_or_eq_true (decide ((0:Int)<n))) with hq|hq;all_goals
   go_wp2_with fail
   go_ret
   exact⟨.mk 91 [] 0 [],w.heap.size,rfl,⟨[],by simp,by simp,rfl⟩,by rw[Wf.dW];simp[Wf.commas],LV.empty R0 B2.out ⟨HKH.out,rfl⟩ (by decide) rfl,R2.out,((aA.refl rb w).alloc _).trans B2.out⟩
theorem xN (k:Wf.K) (hd0:0<d) (hd1:d<=1000) (C B N:Nat) (hC:3*C<=900000) (IH:DrV x v rb lo bsc (d-1) k C B N):DrV x v rb lo bsc d (.list k) (1+3*C) (2+3*(B+1)) (N+1):=fun w k0 H hk0 hsp hlo=>by
 have R0:=H.lt;obtain⟨KT,hKT⟩:∃ KT:ByteArray,(⟨(Wf.K.list k).text.toArray⟩:ByteArray)=KT:=⟨_,rfl⟩;obtain⟨K1,hK1⟩:∃ K1:ByteArray,(⟨k.text.toArray⟩:ByteArray)=K1:=⟨_,rfl⟩;obtain⟨hk1,ek⟩:=cQ (kd:=(Wf.K.list k).text) (c:=91) rfl;rw[hKT] at hk1 ek;have ek2:∀ h,(KT[0]'h).toNat=91:=ek;have HKH:=hid (show KT.data.toList.head? = some 91 by rw[<-hKT];rfl);have hsl:∀ wz,(Instr.slice 9 (.string KT) (some (.int .i64 1)) none none).run Tryz.prog wz=.ok (.string K1) wz:=fun wz=>by
  have h:=bL KT 1 (by omega) wz;have e:KT.extract 1 KT.size=K1:=by
   rw[<-hKT,<-hK1];apply ByteArray.ext;apply Array.ext';rw[cV];rfl
  rw[e] at h;exact h
 have kd:IntKind.i64.wrap (d-1)=d-1:=IntWalk.i64_in _ (by omega);have hdd:decide ((0:Int)<d)=true:=decide_eq_true hd0;have HSP:=hid hsp;have HIH:=hid fun(wz:World) (kz:Nat) (hr:Rd wz rb kz) (hc:kz+C<=900000) (hs:ScSp wz lo bsc v x)=>(by
  have h:=IH wz kz hr hc hs hlo;rw[tx,hK1] at h;exact h)
 rw[tx,hKT];clear hKT ek hK1 IH hsp;go_enter Tryz.func100,Tryz.ntmps100;go_wp2_with (go_at_call 44;refine(pick rb k0 4 _ (H.alloc _) (by omega) (by omega)).mono ?_;rintro e w2 ⟨n,rfl,hn,_,hR2,hBs2⟩;obtain⟨hn0,hn1⟩:=hn (by omega);have B2:=Lib.hid hBs2;have R2:=Lib.hid hR2;clear hBs2 hR2 hn)
 obtain⟨n0,rfl⟩:=Int.eq_ofNat_of_zero_le hn0;go_loopw [10] (fun s10 wr=>∃ (i m:Nat) (a:Option Addr) (c:Nat) (l:List Wf.V) (bs:List Nat),s10=.int .i64 i/\i+m<=3/\Hid (KB w wr w.heap.size (w.heap.size+1) a m c l bs/\aA rb w wr/\Rd wr rb (k0+1+m*C)/\l.length=m/\(∀ u∈l,Wf.Typed x N k u/\u.print.length<=B)/\wr.cell? ⟨w.heap.size,0,none⟩=some (.string KT)/\wr.cell? ⟨w.heap.size,1,none⟩=some (.string ⟨#[]⟩)/\wr.cell? ⟨w.heap.size,2,none⟩=some (.slice none 0 0))) (fun s10 _=>(RowKit.intOf s10).toNat)
 case atStart =>
  obtain⟨hlt2,c0,c1,c2,c3,f1,f2,f3⟩:=eO R0 B2.out;exact⟨n0,0,none,0,[],[],rfl,by omega,hid ⟨KB.new.dA B2.out R0,((aA.refl rb w).alloc _).trans B2.out,by rw[Nat.zero_mul];exact R2.out,rfl,by simp,c0,c1,c2⟩⟩
 case round =>
  obtain⟨i,m,a,c,l,bs,rfl,him,hh⟩:=hrel;by_cases hi:0<i
  ·have hq:decide ((0:Int)<(i:Int))=true:=decide_eq_true (by omega)
   have hm3:m<=2:=(by omega);have v3:=hh.out.1.v3;have vf:=hh.out.1.f3;have hvb:w.heap.size<wr.heap.size:=(by have:=hh.out.1.sz;omega);have hmc:m*C<=2*C:=Nat.mul_le_mul_right _ hm3;have K2:=hid (hh.out.1.dA (aA.drew (aA.refl rb wr)) R0);have BW:=hid hh.out.2.1;have RL:=hh.out.2.2.1.lt;have hnr:w.heap.size≠rb:=(by omega);go_wp2_with fail
   go_region_law (first|(refine mP (base:=w.heap.size+1) (.tmp 65) (.tmp 73) rfl rfl (by simp;omega) (((K2.out.dA HB3.out R0).step ((Below.refl w3.heap.size w3).alloc (Nat.le_refl _) _)).own) (by omega) (heap_alloc_last w3 _) (by simp[Act.eval,Act.put]) (by simp[Act.eval,Act.put]) ?_;intro g cap w4 hown4 hgrow4 hat4 b4;have B4:=hid b4;have y3:=(b4.cell (p:=⟨w.heap.size,3,none⟩) (Nat.lt_succ_self _)).trans ((World.cell?_alloc_lt w3 _ ⟨w.heap.size,3,none⟩ hlt3).trans d3);have yf:=(b4.frozen (p:=⟨w.heap.size,3,none⟩) (Nat.lt_succ_self _)).trans ((((Below.refl w3.heap.size w3).alloc (Nat.le_refl _) _).frozen (p:=⟨w.heap.size,3,none⟩) hlt3).trans e3);have KX:=hid (KB.put2 K2.out ((K2.out.dA HB3.out R0).step ((Below.refl w3.heap.size w3).alloc (Nat.le_refl _) _)) hgrow4 hown4 hat4 (HLV.out.below ((Below.refl w3.heap.size w3).alloc (Nat.le_refl _) _)));have hl4:=b4.size;clear hown4 hgrow4 hat4 b4)|((try go_simp);go_at_call 100;refine(HIH.out wr.drew (k0+1+m*C) (hh.out.2.2.1.below (Below.drew (Below.refl _ _)) RL) (by omega) (HSP.out.beside (BW.out.trans (aA.drew (aA.refl rb wr))) hlo)).mono ?_;rintro e w3 ⟨u,p,rfl,ht,hpl,hlv,hr3,hb3⟩;have HB3:=hid hb3;have hlt3:w.heap.size<w3.heap.size:=Nat.lt_of_lt_of_le hvb hb3.size;have d0:=(hb3.cell (p:=⟨w.heap.size,0,none⟩) hvb hnr).trans hh.out.2.2.2.2.2.1;have d1:=(hb3.cell (p:=⟨w.heap.size,1,none⟩) hvb hnr).trans hh.out.2.2.2.2.2.2.1;have d2:=(hb3.cell (p:=⟨w.heap.size,2,none⟩) hvb hnr).trans hh.out.2.2.2.2.2.2.2;have d3:w3.cell? ⟨w.heap.size,3,none⟩=some (.slice a m c):=(K2.out.dA hb3 R0).v3;have e3:=(K2.out.dA hb3 R0).f3;have HT:=hid ht;have HPL:=hid hpl;have HLV:=hid hlv;have R3:=hid hr3;clear ht hpl hlv hr3 hb3))
   all_goals (go_wp2_with fail)
   all_goals
    obtain⟨q0,q1,q2,r5,b5⟩:=uI R0 (BW.out.trans ((aA.drew (aA.refl rb wr)).trans HB3.out)) hlt3 d0 d1 d2 R3.out B4.out (.slice (some ⟨g,0,none⟩) (m+1) cap);have HQ:=hid (show Rd (w4.setCell ⟨w.heap.size,3,none⟩ (.slice (some ⟨g,0,none⟩) (m+1) cap)) rb (k0+1+(m+1)*C) by rw[show k0+1+(m+1)*C=k0+1+m*C+C by rw[Nat.succ_mul];omega];exact r5);have HB5:=hid b5;clear r5 b5;go_roundw
    case rel=>exact⟨i-1,m+1,some ⟨g,0,none⟩,cap,l++[u],bs++[p],by congr 1;omega,by omega,hid ⟨KX.out,HB5.out,HQ.out,by rw[List.length_append,hh.out.2.2.2.1];rfl,fun y hy=>by
     rcases List.mem_append.1 hy with hy|hy
     ·exact hh.out.2.2.2.2.1 y hy
     ·rw[List.mem_singleton.1 hy];exact⟨HT.out,HPL.out⟩,q0,q1,q2⟩⟩
    case measure=>simp[RowKit.intOf];omega
  ·have hq:decide ((0:Int)<(i:Int))=false:=decide_eq_false (by omega)
   have hmc:m*C<=3*C:=Nat.mul_le_mul_right _ (by omega);have HLL:=hid (show l.length<=3 by rw[hh.out.2.2.2.1];omega);go_wp2_with fail
   go_ret
   exact⟨.mk 91 [] 0 l,w.heap.size,rfl,⟨l,by have:=HLL.out;omega,fun u hu=>(hh.out.2.2.2.2.1 u hu).1,rfl⟩,a3K (fun u hu=>(hh.out.2.2.2.2.1 u hu).2) HLL.out,hh.out.1.val (by decide) hh.out.2.2.2.2.2.1 hh.out.2.2.2.2.2.2.1 hh.out.2.2.2.2.2.2.2 ⟨HKH.out,rfl⟩ rfl,hh.out.2.2.1.mono (by omega),hh.out.2.1⟩
end
