/- Packed. -/
import Derived.Test.YtidjpalnmnehmaaGreatDoorG39
import Derived.Shelf.Strings.Builder1
set_option maxRecDepth 99999
set_option maxHeartbeats 40000000
set_option linter.all false
namespace Go.Proofs.YtidjpalnmnehmaaGreatDoor
open Go.ChangeShapes Go.WideShapes Go.ChangeAt Go.RowKit Go.Lib
def Bu (B b:Nat) (l:List UInt8) (w:World):Prop:=Lib.IsBuilder 135 5 B b (Lib.byteCells l) w
theorem Bu.below {B b:Nat} {l:List UInt8} {w w':World} (h:Bu B b l w) (hb:Below w.heap.size w w'):Bu B b l w':=by
 have k:∀ p,Lib.BuilderAt 135 5 B b p (Lib.byteCells l) w->Lib.BuilderAt 135 5 B b p (Lib.byteCells l) w':=fun p h=>by
  have hlt:=h.lt;obtain⟨h1,v,h2,h3,h4⟩:=h;exact⟨h1,v,(hb.block b hlt).trans h2,cF h3 hb,h4⟩
 exact h.imp (k _) (k _)
theorem Bu.lt {B b:Nat} {l:List UInt8} {w:World} (h:Bu B b l w):B<=b/\b<w.heap.size:=by
 rcases h with h|h
 ·exact⟨h.1,h.lt⟩
 ·exact⟨h.1,h.lt⟩
theorem Bu.new (w:World):Bu w.heap.size w.heap.size [] (w.alloc (.cells #[.pointer none,.slice none 0 0] 135)):=Lib.fresh_isBuilder _ _ _
theorem wstr (B b:Nat) (l:List UInt8) (s:ByteArray) (w:World) (h:Bu B b l w) (hl:l.length+s.size<=1000000000) (hB:B<=w.heap.size):Calls Tryz.prog 79 #[ptr b,.string s] w fun e w'=>e=.returned (.tuple #[.int .i64 s.size,.nilIface])/\Bu B b (l++s.data.toList) w'/\Below B w w':=by
 refine(Any.Builder_WriteString { Tryz.lays156 with } Tryz.Builder_Extra_156 B b (Lib.byteCells l) s w h (by rw[Lib.byteCells_length];omega) hB).mono ?_;rintro e w' ⟨h1,h2,h3⟩;refine⟨h1,.inr ?_,h3⟩;have e0:Lib.byteCells (l++s.data.toList)=Lib.byteCells l++Lib.strCells s:=by unfold Lib.byteCells Lib.strCells;rw[List.map_append]
 rw[e0];exact h2
theorem bstr (B b:Nat) (l:List UInt8) (w:World) (h:Bu B b l w) (hB:B<=w.heap.size):Calls Tryz.prog 80 #[ptr b] w fun e w'=>e=.returned (tx l)/\Below B w w' :=
 Any.Builder_String_any Tryz.lays169 Tryz.Builder_Extra_169 B b l w h hB
theorem flat_take {l:List Wf.V} {i:Nat} (hi:i<l.length):((l.take (i+1)).map Wf.V.bytes).flatten=((l.take i).map Wf.V.bytes).flatten++(l[i]).bytes:=by
 have e:l.take (i+1)=l.take i++[l[i]]:=by rw[List.take_add_one,zaV hi];rfl
 rw[e,List.map_append,List.flatten_append,zaX,List.map_nil,List.flatten_cons,List.flatten_nil,List.append_nil]
theorem flat_mem {l:List Wf.V} {v:Wf.V} (h:v∈l):v.bytes.length<=(l.map Wf.V.bytes).flatten.length:=by
 induction l with
 | nil=>cases h
 | cons a l ih =>
  rw[zaX,List.flatten_cons,zaD];rcases List.mem_cons.1 h with rfl|h
  ·omega
  ·have:=ih h;omega
theorem flat_take_le (l:List Wf.V) (i:Nat):((l.take i).map Wf.V.bytes).flatten.length<=(l.map Wf.V.bytes).flatten.length:=by
 conv=>rhs;rw[<-List.take_append_drop i l]
 rw[List.map_append,List.flatten_append,zaD];omega
theorem BOk.kid {what:UInt8} {text:List UInt8} {tag:Nat} {kids:List Wf.V} (h:Wf.BOk (.mk what text tag kids)) {u:Wf.V} (hu:u∈kids):Wf.BOk u:=by
 cases h with
 | mk _ _ _ _ _ _ _ h8=>exact h8 u hu
theorem BOk.len {what:UInt8} {text:List UInt8} {tag:Nat} {kids:List Wf.V} (h:Wf.BOk (.mk what text tag kids)):kids.length<=1000/\tag<=999999:=by
 cases h with
 | mk _ _ _ _ h5 h6 _ _=>exact⟨h6,h5⟩
theorem bytesI (v:Wf.V):∀ (hok:Wf.BOk v) (P:Nat->Prop) (cs:List Value) (W w:World),VC W P v cs->Below W.heap.size W w->v.bytes.length<=100000->Calls Tryz.prog 49 #[.agg cs.toArray] w fun e w'=>e=.returned (tx v.bytes)/\Below w.heap.size w w':=by
 refine Wf.V.induct (P:=fun v=>∀ (hok:Wf.BOk v) (P:Nat->Prop) (cs:List Value) (W w:World),VC W P v cs->Below W.heap.size W w->v.bytes.length<=100000->Calls Tryz.prog 49 #[.agg cs.toArray] w fun e w'=>e=.returned (tx v.bytes)/\Below w.heap.size w w') ?_ v;intro what text tag kids ih hok P cs W w HV hW hlen;obtain⟨a,c,rfl,hnc,hcm,hsh,hk⟩:=HV.form;simp only[Wf.V.what,Wf.V.text,Wf.V.tag,Wf.V.kids] at *;obtain⟨hkl,htag⟩:=BOk.len hok;obtain⟨n,hn⟩:∃ n,kids.length=n:=⟨_,rfl⟩;obtain⟨q,hq⟩:∃ q,what.toNat=q:=⟨_,rfl⟩;obtain⟨T,hT⟩:∃ T:ByteArray,(⟨text.toArray⟩:ByteArray)=T:=⟨_,rfl⟩;have hTl:T.data.toList=text:=by rw[<-hT]
 have hTs:T.size=text.length:=by rw[<-hT];rfl
 have HN:=hid hn;have HW:=hid hW;have HFC:=hid (Wf.bytes_by hok q hq);have hkb:∀ u,u∈kids->u.bytes.length<=100000->∀ (P:Nat->Prop) (cs:List Value) (W w:World),VC W P u cs->Below W.heap.size W w->Calls Tryz.prog 49 #[.agg cs.toArray] w fun e w'=>e=.returned (tx u.bytes)/\Below w.heap.size w w':=fun u hu hl P cs W w hv hb=>ih u hu (BOk.kid hok hu) P cs W w hv hb hl
 -- of the part at a place
 have KID:=hid fun(i:Nat) (hik:i<kids.length) (hbl:(kids[i]).bytes.length<=100000) (wr:World) (hwr:Below W.heap.size W wr)=>(show ∃ (b o q' n' c' g':Nat) (T':ByteArray) (a':Option Addr),a=some ⟨b,o,none⟩/\b<W.heap.size/\b<wr.heap.size/\wr.cell? ⟨b,o+i*4,none⟩=some (.int .u8 q')/\wr.cell? ⟨b,o+i*4+1,none⟩=some (.string T')/\wr.cell? ⟨b,o+i*4+2,none⟩=some (.int .i64 g')/\wr.cell? ⟨b,o+i*4+3,none⟩=some (.slice a' n' c')/\∀ wz,Below W.heap.size W wz->Calls Tryz.prog 49 #[.agg #[.int .u8 q',.string T',.int .i64 g',.slice a' n' c']] wz fun e w'=>e=.returned (tx (kids[i]).bytes)/\Below wz.heap.size wz w' from by
  rcases hk with h0|⟨b,o,ha,hPb,hbW,hvs⟩
  ·rw[h0] at hik;simp at hik
  obtain⟨cs',hvc,hcell⟩:=hvs.get i hik;obtain⟨a',c',rfl,hnc',hcm',hsh',hk'⟩:=hvc.form;refine⟨b,o,_,_,_,_,_,a',ha,hbW,zaC hbW hwr.size,?_,?_,?_,?_,fun wz hz=>hkb kids[i] (zaQ hik) hbl P _ W wz hvc hz⟩
  ·exact(hwr.cell (p:=⟨b,o+i*4,none⟩) hbW).trans (by have:=hcell 0 _ rfl;rwa[Nat.add_zero] at this)
  ·exact(hwr.cell (p:=⟨b,o+i*4+1,none⟩) hbW).trans (hcell 1 _ rfl)
  ·exact(hwr.cell (p:=⟨b,o+i*4+2,none⟩) hbW).trans (hcell 2 _ rfl)
  ·exact(hwr.cell (p:=⟨b,o+i*4+3,none⟩) hbW).trans (hcell 3 _ rfl))
 have BA:=hid ((Below.refl w.heap.size w).alloc (zaA) (.cells #[.int .u8 q,.string T,.int .i64 tag,.slice a n c] 51));rw[hn] at hnc hkl;unfold maxLen at hcm;simp only[tx,hT,hq,hn];have HNT:=hid fun(m:Nat) (hm:m<=999999) wz=>numText m hm wz;simp only[tx] at HNT;clear ih hkb hk hW hsh HV hT hq hok;rcases HFC.out with⟨rfl,m,hm,hmt,hp⟩|⟨rfl,ht12,hp⟩|⟨rfl,hty,hp⟩|⟨rfl,htn,hp⟩|⟨rfl,hp⟩|⟨rfl,h0,hp⟩|⟨rfl,u,hu,hp⟩|⟨rfl,hp⟩|⟨hq2,u,hu,hp⟩|⟨rfl,hp⟩;all_goals rw[hp] at hlen ⊢
 all_goals try rw[show((91:Nat):Int)=91 from rfl] at BA ⊢
 all_goals try rw[show((82:Nat):Int)=82 from rfl] at BA ⊢
 all_goals try rw[show((63:Nat):Int)=63 from rfl] at BA ⊢
 all_goals clear hp HFC
 ·have HPN:=hid fun wz=>pC T 999999 (zaA) wz
  rw[hTl,hmt,Wf.gX hm hm,iN (Wf.gX hm hm)] at HPN;have HPN2:=hid fun wz=>(HPN.out wz).mono (R':=fun e w'=>e=.returned (.tuple #[.int .i64 m,.bool true])/\wz=w') fun e w' h=>h;have HM:=hid (HNT.out m hm);clear HPN hTl hTs hmt HNT;go_enter Tryz.func49,Tryz.ntmps49;go_wp2_with (first|(go_at_call 77;refine(HM.out _).mono ?_;rintro e w3 ⟨rfl,hb3⟩;have B3:=hid (aE BA.out hb3);clear hb3)|(go_at_call 76;refine(HPN2.out _).mono ?_;rintro e w2 ⟨rfl,rfl⟩))
  go_ret
  exact⟨rfl,B3.out⟩
 ·have HS:=hid fun wz=>sized T (by omega) wz
  rw[hTl] at HS;simp only[tx] at HS;clear hTl hTs HNT;go_enter Tryz.func49,Tryz.ntmps49;go_wp2_with (go_at_call 78;refine(HS.out _).mono ?_;rintro e w3 ⟨rfl,hb3⟩;have B3:=hid (aE BA.out hb3);clear hb3)
  go_ret
  exact⟨rfl,B3.out⟩
 ·have hy:(T.toList==[121,101,115])=true:=by rw[zaZ,hTl,hty];rfl
  have hy2:(T.toList==(⟨#[121,101,115]⟩:ByteArray).toList)=true:=by rw[zaZ,zaZ,hTl,hty];rfl
  clear hTl hTs HNT hty;go_enter Tryz.func49,Tryz.ntmps49;go_wp2_with fail
  go_ret
  exact⟨rfl,BA.out⟩
 ·have hy:(T.toList==[121,101,115])=false:=by rw[zaZ,hTl,zaJ];exact htn
  have hy2:(T.toList==(⟨#[121,101,115]⟩:ByteArray).toList)=false:=by rw[zaZ,zaZ,hTl,zaJ];exact htn
  clear hTl hTs HNT htn;go_enter Tryz.func49,Tryz.ntmps49;go_wp2_with fail
  go_ret
  exact⟨rfl,BA.out⟩
 ·have hn1:n<=999999:=by omega
  have HM:=hid (HNT.out n hn1);rw[hn] at hlen ⊢;obtain⟨NB,hNB⟩:∃ NB:ByteArray,(⟨(Wf.putN n).toArray⟩:ByteArray)=NB:=⟨_,rfl⟩;have hNs:NB.size<=3:=by rw[<-hNB];exact(Wf.bH n hn1).2
  have hNl:NB.data.toList=Wf.putN n:=by rw[<-hNB]
  have HNL:=hid hNl;rw[hNB] at HM;have hNl2:(Wf.putN n).length<=3:=(Wf.bH n hn1).2;rw[zaD] at hlen;clear hTl hTs HNT hNl hn hNB;have hfl:=hid fun(i:Nat)=>flat_take_le kids i;have hfm:=hid fun(u:Wf.V) (h:u∈kids)=>flat_mem h;go_enter Tryz.func49,Tryz.ntmps49;go_wp2_with (first|(go_at_call 79;have _u:=B1;refine(wstr (w.heap.size+1) (w.heap.size+1) [] NB _ (U1.out) (by simp;omega) (by have:=U1.out.lt;omega)).mono ?_;rintro e w2 ⟨rfl,hu2,hb2⟩;have BU1:=hid (show Bu (w.heap.size+1) (w.heap.size+1) (Wf.putN n) w2 by rw[<-HNL.out];exact hu2);have BW1:=hid (B1.out.trans (hb2.mono (by omega)));have z3:w2.cell? ⟨w.heap.size,3,none⟩=some (.slice a n c):=(hb2.cell (p:=⟨w.heap.size,3,none⟩) (zaH _)).trans y3;have zl:w.heap.size<w2.heap.size:=zaC yl hb2.size;clear hu2 hb2)|(go_at_call 77;refine(HM.out _).mono ?_;rintro e w1 ⟨rfl,hb1⟩;have U1:=hid ((show Bu (w.heap.size+1) (w.heap.size+1) [] ((w.alloc (.cells #[.int .u8 91,.string T,.int .i64 tag,.slice a n c] 51)).alloc (.cells #[.pointer none,.slice none 0 0] 135)) from by have:=Bu.new (w.alloc (.cells #[.int .u8 91,.string T,.int .i64 tag,.slice a n c] 51));simpa using this).below hb1);have B1:=hid (aE (BA.out.alloc BA.out.size (.cells #[.pointer none,.slice none 0 0] 135)) hb1);have y3:w1.cell? ⟨w.heap.size,3,none⟩=some (.slice a n c):=(hb1.cell (p:=⟨w.heap.size,3,none⟩) (by simp;omega)).trans (by simp[go_sem]);have yl:w.heap.size<w1.heap.size:=zaC (by simp;omega) hb1.size;clear hb1))
  go_loopw [43] (fun sI wr=>∃ (i:Nat),sI=.int .i64 i/\i<=n/\Hid (Bu (w.heap.size+1) (w.heap.size+1) (Wf.putN n++((kids.take i).map Wf.V.bytes).flatten) wr/\Below w.heap.size w wr)) (fun sI _=>n-(RowKit.intOf sI).toNat)
  case atStart=>exact⟨0,rfl,Nat.zero_le _,hid ⟨by simpa using BU1.out,BW1.out⟩⟩
  case round =>
   obtain⟨i,rfl,hi,hh⟩:=hrel;have BW:=hid (HW.out.trans (hh.out.2.mono HW.out.size));by_cases hlt:i<n
   ·have hik:i<kids.length:=by rw[HN.out];exact hlt
    have hkl1:=hfm.out _ (zaQ hik);obtain⟨b,o,q',n',c',g',T',a',rfl,hbW,hb,k0,k1,k2,k3,hrec⟩:=KID.out i hik (by omega) wr BW.out;obtain⟨R,hR⟩:∃ R:ByteArray,(⟨(kids[i]).bytes.toArray⟩:ByteArray)=R:=⟨_,rfl⟩;have hRs:R.size=(kids[i]).bytes.length:=(by rw[<-hR];rfl);have HFT:=hid (show((kids.take (i+1)).map Wf.V.bytes).flatten=((kids.take i).map Wf.V.bytes).flatten++R.data.toList by rw[flat_take hik,<-hR]);have hfl1:=hfl.out i;have HLE:=hid (show(Wf.putN n++((kids.take i).map Wf.V.bytes).flatten).length+R.size<=1000000000 by(try simp only[zaD] at hlen ⊢);omega);simp only[tx,hR] at hrec;have HR:=hid hrec;clear hrec hR hRs hkl1 hfl1;go_wp2_with (first|(go_at_call 79;have _u:=B2;refine(wstr (w.heap.size+1) (w.heap.size+1) _ R _ (hh.out.1.below B2.out) HLE.out (by have h1:=hh.out.1.lt;have:=B2.out.size;omega)).mono ?_;rintro e w3 ⟨rfl,hu3,hb3⟩;have U3:=hid hu3;have B3:=hid hb3;clear hu3 hb3)|(go_at_call 49;refine(HR.out _ (BW.out.trans (((zaB).alloc (zaA) _).mono BW.out.size))).mono ?_;rintro e w2 ⟨rfl,hb2⟩;have B2:=hid (aE ((Below.refl wr.heap.size wr).alloc (zaA) _) hb2);clear hb2))
    go_roundw
    case rel=>exact⟨i+1,by go_num,by omega,hid ⟨by rw[HFT.out];simpa only [zaT] using U3.out,hh.out.2.trans ((B2.out.mono hh.out.2.size).trans (B3.out.mono (by omega)))⟩⟩
    case measure=>simp[RowKit.intOf];omega
   ·have hin:n=i:=by omega
    subst hin;have HTK:=hid (show kids.take n=kids from zaS (by rw[HN.out];exact zaA));have HU:=hid (by rw[HTK.out] at hh;exact hh.out.1:Bu (w.heap.size+1) (w.heap.size+1) (Wf.putN n++(kids.map Wf.V.bytes).flatten) wr);go_wp2_with (go_at_call 80;refine(bstr (w.heap.size+1) (w.heap.size+1) _ _ HU.out (by have:=HU.out.lt;omega)).mono ?_;rintro e w2 ⟨rfl,hb2⟩;have B2:=hid hb2;clear hb2)
    go_ret
    exact⟨rfl,hh.out.2.trans (B2.out.mono (by omega))⟩
 ·subst h0
  obtain rfl:n=0:=by rw[<-hn];rfl
  clear hTl hTs HNT hn;go_enter Tryz.func49,Tryz.ntmps49;go_wp2_with fail
  go_ret
  exact⟨rfl,BA.out⟩
 ·subst hu
  obtain rfl:n=1:=by rw[<-hn];rfl
  rw[zaF] at hlen;obtain⟨b,o,q',n',c',g',T',a',rfl,hbW,hb,k0,k1,k2,k3,hrec⟩:=KID.out 0 (by simp) (by show u.bytes.length<=_;omega) _ (HW.out.trans (BA.out.mono HW.out.size));rw[Nat.zero_mul,Nat.add_zero] at k0 k1 k2 k3;obtain⟨R,hR⟩:∃ R:ByteArray,(⟨u.bytes.toArray⟩:ByteArray)=R:=⟨_,rfl⟩;have hRs:R.size=u.bytes.length:=by rw[<-hR];rfl
  have HR:=hid fun wz hz=>(hrec wz hz).mono (R':=fun e w'=>e=.returned (.string R)/\Below wz.heap.size wz w') fun e w' h=>⟨by rw[h.1,<-hR];rfl,h.2⟩;have HF:=hid (show(⟨(1::u.bytes).toArray⟩:ByteArray)=⟨#[1]⟩++R from((aS (⟨#[1]⟩++R) _).2 (by rw[zaU,zaW,<-hR];rfl)).symm);have a1:=fun wz=>zbH (P:=Tryz.prog) (w:=wz) ⟨#[1]⟩ R (by show 1+R.size<=_;omega);clear hTl hTs HNT hn hrec hR hRs;go_enter Tryz.func49,Tryz.ntmps49;go_wp2_with (go_at_call 49;refine(HR.out _ (HW.out.trans (BA.out.mono HW.out.size))).mono ?_;rintro e w2 ⟨rfl,hb2⟩;have B2:=hid (aE BA.out hb2);clear hb2)
  go_ret
  exact⟨aX HF.out.symm,B2.out⟩
 ·have HM:=hid (HNT.out tag htag)
  clear hTl hTs HNT hn;go_enter Tryz.func49,Tryz.ntmps49;go_wp2_with (go_at_call 77;refine(HM.out _).mono ?_;rintro e w3 ⟨rfl,hb3⟩;have B3:=hid (aE BA.out hb3);clear hb3)
  go_ret
  exact⟨rfl,B3.out⟩
 ·subst hu
  obtain rfl:n=1:=by rw[<-hn];rfl
  have hul:u.bytes.length<=100000:=by simp only[zaD] at hlen;omega
  obtain⟨b,o,q',n',c',g',T',a',rfl,hbW,hb,k0,k1,k2,k3,hrec⟩:=KID.out 0 (by simp) hul _ (HW.out.trans (BA.out.mono HW.out.size));rw[Nat.zero_mul,Nat.add_zero] at k0 k1 k2 k3;obtain⟨R,hR⟩:∃ R:ByteArray,(⟨u.bytes.toArray⟩:ByteArray)=R:=⟨_,rfl⟩;have hRs:R.size=u.bytes.length:=by rw[<-hR];rfl
  have hRl:R.data.toList=u.bytes:=by rw[<-hR]
  obtain⟨D,hD⟩:∃ D:ByteArray,(⟨(Wf.putN tag).toArray⟩:ByteArray)=D:=⟨_,rfl⟩;have hDs:D.size<=3:=by rw[<-hD];exact(Wf.bH tag htag).2
  obtain⟨Z,hZ⟩:∃ Z:ByteArray,(⟨(Wf.putN u.bytes.length++u.bytes).toArray⟩:ByteArray)=Z:=⟨_,rfl⟩;have hZs:Z.size<=100003:=by rw[<-hZ];show(Wf.putN u.bytes.length++u.bytes).length<=_;rw[zaD];have:=(Wf.bH u.bytes.length (by omega)).2;omega
  have HM:=hid (HNT.out tag htag);rw[hD] at HM;have HS:=hid fun wz=>sized R (by omega) wz;rw[hRl] at HS;simp only[tx,hZ] at HS;have HR:=hid fun wz hz=>(hrec wz hz).mono (R':=fun e w'=>e=.returned (.string R)/\Below wz.heap.size wz w') fun e w' h=>⟨by rw[h.1,<-hR];rfl,h.2⟩;have HF:=hid (show(⟨(Wf.putN tag++(Wf.putN u.bytes.length++u.bytes)).toArray⟩:ByteArray)=D++Z from((aS (D++Z) _).2 (by rw[zaU,zaW,<-hD,<-hZ])).symm);have a1:=fun wz=>zbH (P:=Tryz.prog) (w:=wz) D Z (by omega);have y2:(w.alloc (.cells #[.int .u8 q,.string T,.int .i64 tag,.slice (some ⟨b,o,none⟩) 1 c] 51)).cell? ⟨w.heap.size,2,none⟩=some (.int .i64 tag):=by simp[go_sem]
  have y3:(w.alloc (.cells #[.int .u8 q,.string T,.int .i64 tag,.slice (some ⟨b,o,none⟩) 1 c] 51)).cell? ⟨w.heap.size,3,none⟩=some (.slice (some ⟨b,o,none⟩) 1 c):=by simp[go_sem]
  have yl:w.heap.size<(w.alloc (.cells #[.int .u8 q,.string T,.int .i64 tag,.slice (some ⟨b,o,none⟩) 1 c] 51)).heap.size:=by simp
  clear hTl hTs HNT hn hrec hR hRs hRl hD hZ KID;rcases hq2 with rfl|rfl;all_goals
   go_enter Tryz.func49,Tryz.ntmps49;go_wp2_with fail
   try rw[show((85:Nat):Int)=85 from rfl] at BA y2 y3 yl k0 k1 k2 k3 hb
   try rw[show((61:Nat):Int)=61 from rfl] at BA y2 y3 yl k0 k1 k2 k3 hb
   generalize hW1:w.alloc _=W1 at BA y2 y3 yl k0 k1 k2 k3 hb ⊢;have F:=hid fun(wz:World) (hz:Below W1.heap.size W1 wz)=>(show wz.cell? ⟨w.heap.size,2,none⟩=some (.int .i64 tag)/\wz.cell? ⟨w.heap.size,3,none⟩=some (.slice (some ⟨b,o,none⟩) 1 c)/\wz.cell? ⟨b,o,none⟩=some (.int .u8 q')/\wz.cell? ⟨b,o+1,none⟩=some (.string T')/\wz.cell? ⟨b,o+2,none⟩=some (.int .i64 g')/\wz.cell? ⟨b,o+3,none⟩=some (.slice a' n' c') from⟨(hz.cell (p:=⟨w.heap.size,2,none⟩) yl).trans y2,(hz.cell (p:=⟨w.heap.size,3,none⟩) yl).trans y3,(hz.cell (p:=⟨b,o,none⟩) hb).trans k0,(hz.cell (p:=⟨b,o+1,none⟩) hb).trans k1,(hz.cell (p:=⟨b,o+2,none⟩) hb).trans k2,(hz.cell (p:=⟨b,o+3,none⟩) hb).trans k3⟩);clear hW1;go_region_held3 (fun w'=>w'.cell? ⟨w.heap.size,2,none⟩=some (.int .i64 tag)/\w'.cell? ⟨w.heap.size,3,none⟩=some (.slice (some ⟨b,o,none⟩) 1 c)/\w'.cell? ⟨b,o,none⟩=some (.int .u8 q')/\w'.cell? ⟨b,o+1,none⟩=some (.string T')/\w'.cell? ⟨b,o+2,none⟩=some (.int .i64 g')/\w'.cell? ⟨b,o+3,none⟩=some (.slice a' n' c')) (first|exact FZ.out|exact FD.out|exact FB.out|go_keep) (first|(go_at_call 78;have _u:=TB;refine(HS.out _).mono ?_;rintro e w4 ⟨rfl,hb4⟩;have TZ:=hid (show Below W1.heap.size W1 w4 by first|exact TD.out.trans (hb4.mono TD.out.size)|exact TB.out.trans (hb4.mono TB.out.size));have FZ:=hid (F.out _ TZ.out);clear hb4)|(go_at_call 77;refine(HM.out _).mono ?_;rintro e w3 ⟨rfl,hb3⟩;have TD:=hid (show Below W1.heap.size W1 w3 by first|exact TZ.out.trans (hb3.mono TZ.out.size)|exact TB.out.trans (hb3.mono TB.out.size)|(refine Below.trans (b:=_) ?_ hb3;repeat (first|with_reducible exact zaB|with_reducible refine zbE ?_)));have FD:=hid (F.out _ TD.out);clear hb3)|(go_at_call 49;refine(HR.out _ (HW.out.trans (Below.mono (BA.out.trans (by first|exact TD.out.mono BA.out.size|(refine Below.mono (B:=W1.heap.size) ?_ BA.out.size;repeat (first|with_reducible exact zaB|with_reducible refine zbE ?_)))) HW.out.size))).mono ?_;rintro e w2 ⟨rfl,hb2⟩;have TB:=hid (show Below W1.heap.size W1 w2 by first|exact TD.out.trans (hb2.mono TD.out.size)|(refine Below.trans (b:=_) ?_ hb2;repeat (first|with_reducible exact zaB|with_reducible refine zbE ?_)));have FB:=hid (F.out _ TB.out);clear hb2))
   all_goals go_wp2_with fail
   all_goals go_ret
   all_goals exact⟨aX HF.out.symm,by first|exact BA.out.trans (TZ.out.mono BA.out.size)|exact BA.out.trans (TD.out.mono BA.out.size)⟩
 ·rw[zaD] at hlen
  clear hTl hTs HNT hn;have hfl:=hid fun(i:Nat)=>flat_take_le kids i;have hfm:=hid fun(u:Wf.V) (h:u∈kids)=>flat_mem h;have U1:=hid (show Bu (w.heap.size+1) (w.heap.size+1) [] ((w.alloc (.cells #[.int .u8 82,.string T,.int .i64 tag,.slice a n c] 51)).alloc (.cells #[.pointer none,.slice none 0 0] 135)) from by have:=Bu.new (w.alloc (.cells #[.int .u8 82,.string T,.int .i64 tag,.slice a n c] 51));simpa using this);have BU1:=U1;have BW1:=hid (BA.out.alloc BA.out.size (.cells #[.pointer none,.slice none 0 0] 135));go_enter Tryz.func49,Tryz.ntmps49;go_wp2_with fail
  go_loopw [85] (fun sI wr=>∃ (i:Nat),sI=.int .i64 i/\i<=n/\Hid (Bu (w.heap.size+1) (w.heap.size+1) (((kids.take i).map Wf.V.bytes).flatten) wr/\Below w.heap.size w wr)) (fun sI _=>n-(RowKit.intOf sI).toNat)
  case atStart=>exact⟨0,rfl,Nat.zero_le _,hid ⟨by simpa using BU1.out,BW1.out⟩⟩
  case round =>
   obtain⟨i,rfl,hi,hh⟩:=hrel;have BW:=hid (HW.out.trans (hh.out.2.mono HW.out.size));by_cases hlt:i<n
   ·have hik:i<kids.length:=by rw[HN.out];exact hlt
    have hkl1:=hfm.out _ (zaQ hik);obtain⟨b,o,q',n',c',g',T',a',rfl,hbW,hb,k0,k1,k2,k3,hrec⟩:=KID.out i hik (by omega) wr BW.out;obtain⟨R,hR⟩:∃ R:ByteArray,(⟨(kids[i]).bytes.toArray⟩:ByteArray)=R:=⟨_,rfl⟩;have hRs:R.size=(kids[i]).bytes.length:=(by rw[<-hR];rfl);have HFT:=hid (show((kids.take (i+1)).map Wf.V.bytes).flatten=((kids.take i).map Wf.V.bytes).flatten++R.data.toList by rw[flat_take hik,<-hR]);have hfl1:=hfl.out i;have HLE:=hid (show(((kids.take i).map Wf.V.bytes).flatten).length+R.size<=1000000000 by(try simp only[zaD] at hlen ⊢);omega);simp only[tx,hR] at hrec;have HR:=hid hrec;clear hrec hR hRs hkl1 hfl1;go_wp2_with (first|(go_at_call 79;have _u:=B2;refine(wstr (w.heap.size+1) (w.heap.size+1) _ R _ (hh.out.1.below B2.out) HLE.out (by have h1:=hh.out.1.lt;have:=B2.out.size;omega)).mono ?_;rintro e w3 ⟨rfl,hu3,hb3⟩;have U3:=hid hu3;have B3:=hid hb3;clear hu3 hb3)|(go_at_call 49;refine(HR.out _ (BW.out.trans (((zaB).alloc (zaA) _).mono BW.out.size))).mono ?_;rintro e w2 ⟨rfl,hb2⟩;have B2:=hid (aE ((Below.refl wr.heap.size wr).alloc (zaA) _) hb2);clear hb2))
    go_roundw
    case rel=>exact⟨i+1,by go_num,by omega,hid ⟨by rw[HFT.out];simpa only [zaT] using U3.out,hh.out.2.trans ((B2.out.mono hh.out.2.size).trans (B3.out.mono (by omega)))⟩⟩
    case measure=>simp[RowKit.intOf];omega
   ·have hin:n=i:=by omega
    subst hin;have HTK:=hid (show kids.take n=kids from zaS (by rw[HN.out];exact zaA));have HU:=hid (by rw[HTK.out] at hh;exact hh.out.1:Bu (w.heap.size+1) (w.heap.size+1) ((kids.map Wf.V.bytes).flatten) wr);obtain⟨R,hR⟩:∃ R:ByteArray,(⟨((kids.map Wf.V.bytes).flatten).toArray⟩:ByteArray)=R:=⟨_,rfl⟩;have hRs:R.size=(kids.map Wf.V.bytes).flatten.length:=(by rw[<-hR];rfl);have HF:=hid (show(⟨((kids.map Wf.V.bytes).flatten++[0]).toArray⟩:ByteArray)=R++⟨#[0]⟩ from((aS (R++⟨#[0]⟩) _).2 (by rw[zaU,zaW,<-hR])).symm);have a1:=fun wz=>zbH (P:=Tryz.prog) (w:=wz) R ⟨#[0]⟩ (by show R.size+1<=_;omega);have HBS:=hid fun wz (h1:Bu (w.heap.size+1) (w.heap.size+1) (kids.map Wf.V.bytes).flatten wz) h2=>(bstr (w.heap.size+1) (w.heap.size+1) _ wz h1 h2).mono (R':=fun e w'=>e=.returned (.string R)/\Below (w.heap.size+1) wz w') fun e w' h=>⟨by rw[h.1,<-hR],h.2⟩;clear hR hRs;go_wp2_with (go_at_call 80;refine(HBS.out _ HU.out (by have:=HU.out.lt;omega)).mono ?_;rintro e w2 ⟨rfl,hb2⟩;have B2:=hid hb2;clear hb2)
    go_ret
    exact⟨aX HF.out.symm,hh.out.2.trans (B2.out.mono (by omega))⟩

def bytesVal (l kt s:List UInt8):Option (List UInt8):=(valOf l kt s).map fun y=>y.2.bytes
theorem bytesVal_len {l kt s b:List UInt8} (h:bytesVal l kt s=some b):b.length<=400:=by
 unfold bytesVal at h;cases hv:valOf l kt s with
 | none=>rw[hv] at h;cases h
 | some y =>
  rw[hv] at h;simp only[zaL,zaE] at h;subst h;obtain⟨_,h2⟩:=fU hv;obtain⟨ht,hs,hl⟩:=Wf.gT h2;have:=Wf.eC 12 _ _ ht (by rw[<-hs];omega);rw[<-hs] at this;exact zaI this hl

theorem toBytes_i (v:Wf.V) (hok:Wf.BOk v) (P:Nat->Prop) (q g n c:Nat) (T:ByteArray) (sa:Option Addr) (W w:World) (hv:VC W P v [.int .u8 q,.string T,.int .i64 g,.slice sa n c]) (hb:Below W.heap.size W w) (hl:v.bytes.length<=400) :
  Calls Tryz.prog 28 #[.agg #[.int .u8 q,.string T,.int .i64 g,.slice sa n c]] w fun e w'=>e=.returned (vfV (some v.bytes))/\Below w.heap.size w w':=by
 have HB:=hid fun(w2:World) (h2:Below W.heap.size W w2)=>bytesI v hok P _ W w2 hv h2 (by omega);obtain⟨B,hB⟩:∃ B:ByteArray,(⟨v.bytes.toArray⟩:ByteArray)=B:=⟨_,rfl⟩;have hBs:B.size<=400:=by rw[<-hB];exact hl
 have HF:=hid (show vfV (some v.bytes)=.tuple #[.string B,.bool true] by rw[<-hB];rfl);have HW:=hid hb;simp only[tx,hB] at HB;clear hv hb hok hl hB;go_enter Tryz.func28,Tryz.ntmps28;go_wp2_with (go_at_call 49;refine(HB.out _ (HW.out.alloc HW.out.size _)).mono ?_;rintro e w2 ⟨rfl,hb2⟩;have B2:=hid (aE ((Below.refl w.heap.size w).alloc (zaA) _) hb2);clear hb2)
 go_ret2
 exact⟨by rw[HF.out];rfl,B2.out⟩
theorem bytesPut_i (s kt v:ByteArray) (m:Int) (w:World) (hm:ML m w) (hs:s.size<=1048576) (hkt:kt.size<=1048576) (hv:v.size<=1048576):Calls Tryz.prog 11 #[.string s,.string kt,.string v] w fun e w'=>e=.returned (vfV (bytesVal s.data.toList kt.data.toList v.data.toList))/\Below w.heap.size w w':=by
 have HG:=hid (given s kt v m w hm hs hkt hv);clear hm;cases hvo:valOf s.data.toList kt.data.toList v.data.toList with
 | none =>
  have HO:=hid fun lo e w' (h:bY s.data.toList kt.data.toList v.data.toList lo e w')=>(by unfold bY at h;rw[hvo] at h;exact h:∃ p a b c,e=.returned (.tuple #[.pointer p,.agg #[.string a,.string b,.string c],.agg #[.int .u8 0,.string ⟨#[]⟩,.int .i64 0,.slice none 0 0],.bool false]));have HD:=hid (show vfV (bytesVal s.data.toList kt.data.toList v.data.toList)=.tuple #[.string ⟨#[]⟩,.bool false] by unfold bytesVal;rw[hvo];rfl);clear hvo;go_enter Tryz.func11,Tryz.ntmps11;go_wp2_with (go_at_call 27;refine HG.out.mono ?_;rintro e w2 ⟨ho,hb2⟩;obtain⟨p,a,b,c,rfl⟩:=HO.out _ _ _ ho;have HB2:=hid hb2;clear ho hb2)
  go_ret2
  exact⟨by rw[HD.out];rfl,by have B:=HB2.out;have hB:=B.size;repeat (first|with_reducible exact B|with_reducible refine zbE ?_|with_reducible refine zbF ?_ (by simp) _|with_reducible refine zbG ?_ (by first|exact B.size|(simp;omega)) _)⟩
 | some y =>
  have HO:=hid fun lo e w' (h:bY s.data.toList kt.data.toList v.data.toList lo e w')=>(by unfold bY at h;rw[hvo] at h;exact h:∃ sb cs,e=.returned (.tuple #[ptr sb,kV y.1.2,.agg cs.toArray,.bool true])/\ScL w' lo sb y.1.1/\VC w' (fun b=>lo<=b) y.2 cs);have hbv:bytesVal s.data.toList kt.data.toList v.data.toList=some y.2.bytes:=by unfold bytesVal;rw[hvo];rfl
  have hl:=bytesVal_len hbv;have hok:=Wf.typed_bok 12 _ _ (Wf.gT (fU hvo).2).1;have HTB:=hid fun(P:Nat->Prop) (q g n c:Nat) (T:ByteArray) (sa:Option Addr) (W2 w2:World) (hv:VC W2 P y.2 [.int .u8 q,.string T,.int .i64 g,.slice sa n c]) (hb:Below W2.heap.size W2 w2)=>toBytes_i y.2 hok P q g n c T sa W2 w2 hv hb hl;obtain⟨R,hR⟩:∃ R:ByteArray,(⟨y.2.bytes.toArray⟩:ByteArray)=R:=⟨_,rfl⟩;have HD:=hid (show vfV (bytesVal s.data.toList kt.data.toList v.data.toList)=.tuple #[.string R,.bool true] by rw[hbv,<-hR];rfl);rw[show vfV (some y.2.bytes)=.tuple #[.string R,.bool true] by rw[<-hR];rfl] at HTB;obtain⟨SG,hSG⟩:∃ SG:ByteArray,(⟨y.1.2.signs.toArray⟩:ByteArray)=SG:=⟨_,rfl⟩;obtain⟨BS,hBS⟩:∃ BS:ByteArray,(⟨y.1.2.base.toArray⟩:ByteArray)=BS:=⟨_,rfl⟩;obtain⟨NM,hNM⟩:∃ NM:ByteArray,(⟨y.1.2.name.toArray⟩:ByteArray)=NM:=⟨_,rfl⟩;have hkv:kV y.1.2=.agg #[.string SG,.string BS,.string NM]:=by simp only[kV,tx,hSG,hBS,hNM]
  rw[hkv] at HO;clear hvo hbv hl hok hR hSG hBS hNM hkv;go_enter Tryz.func11,Tryz.ntmps11;go_wp2_with (first|(go_at_call 28;have _u:=HVC;refine(HTB.out _ q g n d T sa w2 _ HVC.out (((zaB).alloc (zaA) _).alloc (by simp) _)).mono ?_;rintro e w3 ⟨rfl,hb3⟩;have B3:=hid (aE (((Below.refl w2.heap.size w2).alloc (zaA) _).alloc (by simp) _) hb3);clear hb3)|(go_at_call 27;refine HG.out.mono ?_;rintro e w2 ⟨ho,hb2⟩;obtain⟨sb,cs,rfl,_,hvc⟩:=HO.out _ _ _ ho;obtain⟨q,g,n,d,T,sa,rfl⟩:=hvc.bA;have HVC:=hid hvc;have HB2:=hid hb2;clear ho hb2 hvc))
  go_ret2
  exact⟨by rw[HD.out];rfl,HB2.out.trans (B3.out.mono HB2.out.size)⟩

def getIn (l kt s:List UInt8):Option (List UInt8):=(aU l kt).bind fun y=>(Wf.getVal y.1 y.2 s).map Wf.V.print
def canonI (l kt s:List UInt8):Bool:=match aU l kt with|some y=>Wf.canonB y.1 y.2 s|none=>false
theorem put_law (s K T:ByteArray):vfV (bytesVal s.data.toList K.data.toList T.data.toList)=.tuple #[.string ⟨#[]⟩,.bool false]\/∃ A:ByteArray,vfV (bytesVal s.data.toList K.data.toList T.data.toList)=.tuple #[.string A,.bool true]/\A.size<=400/\0<A.size /\
  vfV (getIn s.data.toList K.data.toList A.data.toList)=.tuple #[.string T,.bool true]/\canonI s.data.toList K.data.toList A.data.toList=true /\
  (∀ j,j<A.size->vfV (getIn s.data.toList K.data.toList (A.extract 0 j).data.toList)=.tuple #[.string ⟨#[]⟩,.bool false])/\(∀ c:ByteArray,0<c.size->vfV (getIn s.data.toList K.data.toList (A++c).data.toList)=.tuple #[.string ⟨#[]⟩,.bool false]):=by
 cases ha:bytesVal s.data.toList K.data.toList T.data.toList with
 | none=>exact .inl rfl
 | some a =>
  have hal:=bytesVal_len ha;unfold bytesVal at ha;cases hv:valOf s.data.toList K.data.toList T.data.toList with
  | none=>rw[hv] at ha;cases ha
  | some y =>
   rw[hv] at ha;simp only[zaL,zaE] at ha;subst ha;obtain⟨hk,hvi⟩:=fU hv;obtain⟨ht,hT,hl⟩:=Wf.gT hvi;have hp:y.2.print.length<=400:=(by rw[<-hT];exact hl);have hsz:(⟨y.2.bytes.toArray⟩:ByteArray).size=y.2.bytes.length:=rfl;have hg:∀ r,getIn s.data.toList K.data.toList r=(Wf.getVal y.1.1 y.1.2 r).map Wf.V.print:=fun r=>by unfold getIn;rw[hk];rfl
   refine .inr ⟨⟨y.2.bytes.toArray⟩,rfl,by rw[hsz];exact hal,by rw[hsz];exact List.length_pos_iff.2 (Wf.bytes_ne 12 _ _ ht),?_,?_,fun j hj=>?_,fun c hc=>?_⟩
   ·rw[hg]
    show vfV ((Wf.getVal y.1.1 y.1.2 y.2.bytes).map Wf.V.print)=_;rw[Wf.getVal_bytes ht hp];show Value.tuple #[tx y.2.print,.bool true]=_;rw[<-hT,tx,Array.toArray_toList]
   ·unfold canonI
    rw[hk];exact Wf.canon_bytes ht hp
   ·rw[hg,bB,List.drop_zero,Nat.sub_zero]
    show vfV ((Wf.getVal y.1.1 y.1.2 (y.2.bytes.take j)).map Wf.V.print)=_;rw[Wf.getVal_cut ht hp (by rw[hsz] at hj;exact hj)];rfl
   ·rw[hg,zaU,zaW]
    show vfV ((Wf.getVal y.1.1 y.1.2 (y.2.bytes++c.data.toList)).map Wf.V.print)=_;rw[Wf.getVal_more ht hp (fun e=>by
     have:=congrArg List.length e;rw[aC,zaM] at this;omega)]
    rfl

theorem bytesGet_i (s kt v:ByteArray) (m:Int) (w:World) (hm:ML m w) (hs:s.size<=1048576) (hkt:kt.size<=1048576) (hv:v.size<=1048576):Calls Tryz.prog 13 #[.string s,.string kt,.string v] w fun e w'=>e=.returned (vfV (getIn s.data.toList kt.data.toList v.data.toList))/\Below w.heap.size w w':=by
 have HBO:=hid (both s kt m w hm hs hkt);clear hm;cases hty:aU s.data.toList kt.data.toList with
 | none =>
  have HTY:=hid hty;have HF:=hid (show vfV (getIn s.data.toList kt.data.toList v.data.toList)=.tuple #[.string ⟨#[]⟩,.bool false] by unfold getIn;rw[hty];rfl);clear hty;go_enter Tryz.func13,Tryz.ntmps13;go_wp2_with (go_at_call 31;refine HBO.out.mono ?_;rintro e w2 ⟨ho,hb2⟩;obtain⟨p,ka,kb,kc,rfl⟩:=ho.no HTY.out;have HB2:=hid hb2;clear ho hb2)
  go_ret2
  exact⟨by rw[HF.out];rfl,by have B:=HB2.out;repeat (first|with_reducible exact B|with_reducible refine zbE ?_|with_reducible refine zbF ?_ (by simp) _|with_reducible refine zbG ?_ (by first|exact B.size|(simp;done)|(simp;omega)|omega) _)⟩
 | some y =>
  obtain⟨hx,hk⟩:=fT hty;obtain⟨x,k⟩:=y;have HTY:=hid hty;have hve:tx v.data.toList=.string v:=by rw[tx,Array.toArray_toList]
  have hvl:v.data.toList.length<=9000000:=by rw[aC];omega
  have HFB:=hid fun(lo sb:Nat) (W wz:World) (hW:Below W.heap.size W wz) (H:ScL W lo sb x)=>fromBytes x k sb v.data.toList W wz hx lo H hk hvl hW;have HG:=hid (show getIn s.data.toList kt.data.toList v.data.toList=(Wf.getVal x k v.data.toList).map Wf.V.print by unfold getIn;rw[hty];rfl);obtain⟨SG,hSG⟩:∃ SG:ByteArray,(⟨k.signs.toArray⟩:ByteArray)=SG:=⟨_,rfl⟩;obtain⟨BS,hBS⟩:∃ BS:ByteArray,(⟨k.base.toArray⟩:ByteArray)=BS:=⟨_,rfl⟩;obtain⟨NM,hNM⟩:∃ NM:ByteArray,(⟨k.name.toArray⟩:ByteArray)=NM:=⟨_,rfl⟩;have HKV:=hid (show kV k=.agg #[.string SG,.string BS,.string NM] by simp only[kV,tx,hSG,hBS,hNM]);rw[HKV.out,hve] at HFB;clear hty hve hvl hSG hBS hNM hx hk;cases hgv:Wf.getVal x k v.data.toList with
  | none =>
   have HF:=hid (show vfV (getIn s.data.toList kt.data.toList v.data.toList)=.tuple #[.string ⟨#[]⟩,.bool false] by rw[HG.out,hgv];rfl);have HO:=hid fun(w1:World) (e:Ending) (w':World) (h:FbOut x k v.data.toList w1 e w')=>(by unfold FbOut at h;rw[hgv] at h;exact h:e=.returned (.tuple #[.agg #[.int .u8 0,.string ⟨#[]⟩,.int .i64 0,.slice none 0 0],.slice none 0 0,.bool false]));clear hgv;go_enter Tryz.func13,Tryz.ntmps13;go_wp2_with (first|(go_at_call 32;have _u:=HSL;refine(HFB.out _ _ w2 _ (by have B:=Below.refl w2.heap.size w2;repeat (first|with_reducible exact B|with_reducible refine zbE ?_|with_reducible refine zbG ?_ (by first|exact B.size|(simp;done)|(simp;omega)|omega) _)) HSL.out).mono ?_;rintro e w3 ⟨ho3,hb3⟩;obtain rfl:=HO.out _ _ _ ho3;have HB3:=hid (HB2.out.trans ((aE ((Below.refl w2.heap.size w2).alloc (zaA) _) hb3).mono HB2.out.size));clear ho3 hb3)|(go_at_call 31;refine HBO.out.mono ?_;rintro e w2 ⟨ho,hb2⟩;obtain⟨sb,rfl,hsl⟩:=ho.yes HTY.out;rw[HKV.out];have HSL:=hid hsl;have HB2:=hid hb2;clear ho hb2 hsl))
   go_ret2
   exact⟨by rw[HF.out];rfl,by have B:=HB3.out;repeat (first|with_reducible exact B|with_reducible refine zbE ?_|with_reducible refine zbF ?_ (by simp) _|with_reducible refine zbG ?_ (by first|exact B.size|(simp;done)|(simp;omega)|omega) _)⟩
  | some u =>
   obtain⟨T,hT⟩:∃ T:ByteArray,(⟨u.print.toArray⟩:ByteArray)=T:=⟨_,rfl⟩;have HF:=hid (show vfV (getIn s.data.toList kt.data.toList v.data.toList)=.tuple #[.string T,.bool true] by rw[HG.out,hgv,<-hT];rfl);have HO:=hid fun(w1:World) (e:Ending) (w':World) (h:FbOut x k v.data.toList w1 e w')=>(by unfold FbOut at h;rw[hgv] at h;obtain⟨cs,sk,h1,h2,_⟩:=h;exact⟨cs,sk,h1,h2⟩:∃ cs sk,e=.returned (.tuple #[.agg cs.toArray,sk,.bool true])/\VC w' (fun b=>w1.heap.size<=b) u cs);have hp:=(Wf.getVal_some hgv).2.2.1;have HP:=hid fun(P:Nat->Prop) (cs:List Value) (W wz:World) (h1:VC W P u cs) (h2:Below W.heap.size W wz)=>(by have h:=print u P cs W wz h1 h2 (by omega);rw[tx,hT] at h;exact h:Calls Tryz.prog 33 #[.agg cs.toArray] wz fun e w'=>e=.returned (.string T)/\Below wz.heap.size wz w');clear hgv hT hp;go_enter Tryz.func13,Tryz.ntmps13;go_wp2_with (first|(go_at_call 33;have _u:=HVC;refine(HP.out _ [.int .u8 u0,.string T2,.int .i64 u1,.slice a2 u2 u3] w3 _ HVC.out ((zaB).alloc (zaA) _)).mono ?_;rintro e w4 ⟨rfl,hb4⟩;have HB4:=hid (HB3.out.trans ((aE ((Below.refl w3.heap.size w3).alloc (zaA) _) hb4).mono HB3.out.size));clear hb4)|(go_at_call 32;have _u:=HSL;refine(HFB.out _ _ w2 _ (by have B:=Below.refl w2.heap.size w2;repeat (first|with_reducible exact B|with_reducible refine zbE ?_|with_reducible refine zbG ?_ (by first|exact B.size|(simp;done)|(simp;omega)|omega) _)) HSL.out).mono ?_;rintro e w3 ⟨ho3,hb3⟩;obtain⟨cs,sk,rfl,hvc⟩:=HO.out _ _ _ ho3;obtain⟨u0,u1,u2,u3,T2,a2,rfl⟩:=hvc.bA;have HVC:=hid hvc;have HB3:=hid (HB2.out.trans ((aE ((Below.refl w2.heap.size w2).alloc (zaA) _) hb3).mono HB2.out.size));clear ho3 hb3 hvc)|(go_at_call 31;refine HBO.out.mono ?_;rintro e w2 ⟨ho,hb2⟩;obtain⟨sb,rfl,hsl⟩:=ho.yes HTY.out;rw[HKV.out];have HSL:=hid hsl;have HB2:=hid hb2;clear ho hb2 hsl))
   go_ret2
   exact⟨by rw[HF.out];rfl,by have B:=HB4.out;repeat (first|with_reducible exact B|with_reducible refine zbE ?_|with_reducible refine zbF ?_ (by simp) _|with_reducible refine zbG ?_ (by first|exact B.size|(simp;done)|(simp;omega)|omega) _)⟩

def skipIn (l kt s:List UInt8):Option (List Nat):=(aU l kt).bind fun y=>(Wf.recTy y.1 y.2).bind fun t=>(Wf.getVal y.1 y.2 s).bind fun _=>(Wf.getFields y.1 t (fun k' s'=>Wf.getB y.1 12 k' s') s.length 0 s).map fun z=>z.2.1
theorem unknown_law {l kt s a nm:List UInt8} {x:Wf.Sc} {t:Wf.Ty} (hx:Wf.ScOk x) (ha:bytesVal l kt s=some a) (hk:aU l kt=some (x,.ref nm)) (ht:x.find nm=some t) (h82:t.sort=82) (hb:a.length<=500) {g:Nat} (h1:200<g) (h2:g<=300) :
  ∃ a0,a=a0++[0]/\getIn l kt (a0++(Wf.putN g++[2,7,200,0]))=some s/\skipIn l kt (a0++(Wf.putN g++[2,7,200,0]))=some [g]/\canonI l kt (a0++(Wf.putN g++[2,7,200,0]))=false:=by
 unfold bytesVal at ha;cases hv:valOf l kt s with
 | none=>rw[hv] at ha;cases ha
 | some y =>
  rw[hv] at ha;simp only[zaL,zaE] at ha;subst ha;obtain⟨hk',hvi⟩:=fU hv;rw[hk] at hk';have hy:y.1=(x,.ref nm):=(Option.some.inj hk').symm;rw[hy] at hvi;obtain⟨hty,hs,hl⟩:=Wf.gT hvi;have hp:y.2.print.length<=400:=by rw[<-hs];exact hl
  have h69:t.sort≠69:=by rw[h82];decide
  have h85:t.sort≠85:=by rw[h82];decide
  have hg:t.field g=none:=by
   cases hf:t.field g with
   | none=>rfl
   | some f =>
    have:=Wf.gW hx nm t ht g f hf;have:=(Wf.eK hf).2;omega
  obtain⟨a0,e0,e1,e2⟩:=Wf.getVal_unknown ht h69 h85 hty hp hb hg h1 h2;obtain⟨b0,f0,f1,_⟩:=Wf.qA (n:=12) ht h69 h85 (Wf.iD 12 _ _ hty 13 (by omega)) (by omega) hg h1 h2;have hab:b0=a0:=by rw[e0] at f0;exact(List.append_cancel_right f0).symm
  subst hab;refine⟨b0,e0,?_,?_,?_⟩
  ·unfold getIn
   rw[hk];show(Wf.getVal x (.ref nm) _).map Wf.V.print=_;rw[e1,hs];rfl
  ·unfold skipIn
   rw[hk];show(Wf.recTy x (.ref nm)).bind _=_;rw[show Wf.recTy x (.ref nm)=some t by simp only[Wf.recTy,ht,Option.bind_some,if_pos h82]];show(Wf.getVal x (.ref nm) _).bind _=_;rw[e1];show(Wf.getFields x t (fun k' s'=>Wf.getB x 12 k' s') _ 0 _).map _=_;rw[f1];rfl
  ·unfold canonI
   rw[hk];exact e2

theorem get_put {l kt s T:List UInt8} (h:getIn l kt s=some T):T.length<=400/\∃ A,bytesVal l kt T=some A/\canonI l kt s=decide (A=s):=by
 unfold getIn at h;cases hk:aU l kt with
 | none=>rw[hk] at h;cases h
 | some y =>
  rw[hk] at h;simp only[Option.bind_some,Option.map_eq_some_iff] at h;obtain⟨u,hu,rfl⟩:=h;obtain⟨_,h1,h2,h3⟩:=Wf.getVal_some hu;have ht:=Wf.qS (Wf.gW (fT hk).1) 13 _ _ _ _ h1;refine⟨h2,u.bytes,?_,?_⟩
  ·unfold bytesVal valOf
   rw[hk];dsimp only;rw[Wf.a5T ht h3 h2];rfl
  ·unfold canonI Wf.canonB
   rw[hk];dsimp only;rw[hu]
theorem get_no {l kt s:List UInt8} (h:getIn l kt s=none):canonI l kt s=false:=by
 unfold getIn at h;unfold canonI;cases hk:aU l kt with
 | none=>rfl
 | some y =>
  rw[hk] at h;simp only[Option.bind_some,Option.map_eq_none_iff] at h;dsimp only;unfold Wf.canonB;rw[h]
theorem bytesCanon_i (s kt v:ByteArray) (m:Int) (w:World) (hm:ML m w) (hs:s.size<=1048576) (hkt:kt.size<=1048576) (hv:v.size<=1048576):Calls Tryz.prog 14 #[.string s,.string kt,.string v] w fun e w'=>e=.returned (.bool (canonI s.data.toList kt.data.toList v.data.toList))/\Below w.heap.size w w':=by
 have HG:=hid (bytesGet_i s kt v m w hm hs hkt hv);have HM:=hid hm;clear hm;cases hg:getIn s.data.toList kt.data.toList v.data.toList with
 | none =>
  have HF:=hid (get_no hg);rw[hg] at HG;have HG2:=hid (show Calls Tryz.prog 13 #[.string s,.string kt,.string v] w fun e w'=>e=.returned (.tuple #[.string ⟨#[]⟩,.bool false])/\Below w.heap.size w w' from HG.out);clear hg HG;go_enter Tryz.func14,Tryz.ntmps14;go_wp2_with (go_at_call 13;refine HG2.out.mono ?_;rintro e w2 ⟨rfl,hb2⟩;have HB2:=hid hb2;clear hb2)
  go_ret
  exact⟨by rw[HF.out];rfl,HB2.out⟩
 | some T0 =>
  obtain⟨hT4,A0,hA,hc⟩:=get_put hg;obtain⟨T,hT⟩:∃ T:ByteArray,(⟨T0.toArray⟩:ByteArray)=T:=⟨_,rfl⟩;obtain⟨A,hAA⟩:∃ A:ByteArray,(⟨A0.toArray⟩:ByteArray)=A:=⟨_,rfl⟩;have hTl:T0=T.data.toList:=by rw[<-hT]
  have hTs:T.size<=1048576:=by rw[<-hT,aW];omega
  rw[hg] at HG;have HG2:=hid (show Calls Tryz.prog 13 #[.string s,.string kt,.string v] w fun e w'=>e=.returned (.tuple #[.string T,.bool true])/\Below w.heap.size w w' by rw[<-hT];exact HG.out);have HP:=hid fun(wz:World) (hz:ML m wz)=>(by
   have h:=bytesPut_i s kt T m wz hz hs hkt hTs;rw[<-hTl,hA] at h;rw[<-hAA];exact h:Calls Tryz.prog 11 #[.string s,.string kt,.string T] wz fun e w'=>e=.returned (.tuple #[.string A,.bool true])/\Below wz.heap.size wz w')
  have HF:=hid (show canonI s.data.toList kt.data.toList v.data.toList=(A.toList==v.toList) by
   rw[hc,<-hAA,zaZ,zaZ];show decide (A0=v.data.toList)=(A0==v.data.toList);rw[Bool.eq_iff_iff,decide_eq_true_eq,beq_iff_eq])
  clear hg HG hT hAA hTl hTs hT4 hA hc;go_enter Tryz.func14,Tryz.ntmps14;go_wp2_with (first|(go_at_call 11;have _u:=HB2;refine(HP.out _ (HM.out.below HB2.out)).mono ?_;rintro e w3 ⟨rfl,hb3⟩;have HB3:=hid (HB2.out.trans (hb3.mono HB2.out.size));clear hb3)|(go_at_call 13;refine HG2.out.mono ?_;rintro e w2 ⟨rfl,hb2⟩;have HB2:=hid hb2;clear hb2))
  go_ret
  exact⟨by rw[HF.out];rfl,HB3.out⟩
def SkOut (l kt s:List UInt8) (lo:Nat) (e:Ending) (w':World):Prop:=match skipIn l kt s with
 | some gs=>∃ b v,e=.returned (.tuple #[v,.bool true])/\lo<=b/\aI w' b v (gs.map ix)
 | none=>e=.returned (.tuple #[.slice none 0 0,.bool false])
theorem SkOut.no {l kt s:List UInt8} {lo:Nat} {e:Ending} {w':World} (h:skipIn l kt s=none) (he:e=.returned (.tuple #[.slice none 0 0,.bool false])):SkOut l kt s lo e w':=by
 unfold SkOut;rw[h];exact he
theorem SkOut.yes {l kt s:List UInt8} {lo:Nat} {e:Ending} {w':World} {gs:List Nat} (h:skipIn l kt s=some gs) (he:∃ b v,e=.returned (.tuple #[v,.bool true])/\lo<=b/\aI w' b v (gs.map ix)):SkOut l kt s lo e w':=by
 unfold SkOut;rw[h];exact he
theorem skip_no {l kt s:List UInt8} {y:Wf.Sc × Wf.K} (hk:aU l kt=some y) (h:Wf.recTy y.1 y.2=none\/Wf.getVal y.1 y.2 s=none):skipIn l kt s=none:=by
 unfold skipIn;rw[hk];show(Wf.recTy y.1 y.2).bind _=none;rcases h with h|h
 ·rw[h];rfl
 ·cases Wf.recTy y.1 y.2 with
  | none=>rfl
  | some t=>show(Wf.getVal y.1 y.2 s).bind _=none;rw[h];rfl
theorem skip_yes {l kt s:List UInt8} {y:Wf.Sc × Wf.K} {t:Wf.Ty} {u:Wf.V} (hk:aU l kt=some y) (h:Wf.recTy y.1 y.2=some t) (hg:Wf.getVal y.1 y.2 s=some u):skipIn l kt s=some (skB y.1 12 y.2 s):=by
 obtain⟨nm,h1,h2,h3⟩:=Wf.a3N h;have hb:=(Wf.getVal_some hg).2.1;rw[h1,Wf.getB_rec h2 h3] at hb;unfold skipIn;rw[hk];show(Wf.recTy y.1 y.2).bind _=_;rw[h];show(Wf.getVal y.1 y.2 s).bind _=_;rw[hg,h1];show(Wf.recB y.1 t (fun k' s'=>Wf.getB y.1 12 k' s') 0 s).map _=some (skB y.1 12 (.ref nm) s);unfold skB;dsimp only;rw[h2];dsimp only;rw[if_pos h3];cases hr:Wf.recB y.1 t (fun k' s'=>Wf.getB y.1 12 k' s') 0 s with
 | none=>rw[hr] at hb;cases hb
 | some z=>rfl
theorem bytesSkip_i (s kt v:ByteArray) (m:Int) (w:World) (hm:ML m w) (hs:s.size<=1048576) (hkt:kt.size<=1048576) (hv:v.size<=1048576):Calls Tryz.prog 18 #[.string s,.string kt,.string v] w fun e w'=>SkOut s.data.toList kt.data.toList v.data.toList w.heap.size e w'/\Below w.heap.size w w':=by
 have HBO:=hid (both s kt m w hm hs hkt);clear hm;cases hty:aU s.data.toList kt.data.toList with
 | none =>
  have HTY:=hid hty;have HF:=hid (show skipIn s.data.toList kt.data.toList v.data.toList=none by unfold skipIn;rw[hty];rfl);clear hty;go_enter Tryz.func18,Tryz.ntmps18;go_wp2_with (go_at_call 31;refine HBO.out.mono ?_;rintro e w2 ⟨ho,hb2⟩;obtain⟨p,ka,kb,kc,rfl⟩:=ho.no HTY.out;have HB2:=hid hb2;clear ho hb2)
  exact zbD (v:=.tuple #[.slice none 0 0,.bool false]) (by simp[results,Tryz.results18,go_sem, *]) rfl ⟨SkOut.no HF.out rfl,by have B:=HB2.out;repeat (first|with_reducible exact B|with_reducible refine zbE ?_|with_reducible refine zbF ?_ (by simp) _|with_reducible refine zbG ?_ (by first|exact B.size|(simp;done)|(simp;omega)|omega) _)⟩
 | some y =>
  obtain⟨hx,hk⟩:=fT hty;obtain⟨x,k⟩:=y;have HTY:=hid hty;have hve:tx v.data.toList=.string v:=by rw[tx,Array.toArray_toList]
  have hvl:v.data.toList.length<=9000000:=by rw[aC];omega
  have HFB:=hid fun(lo sb:Nat) (W wz:World) (hW:Below W.heap.size W wz) (H:ScL W lo sb x)=>fromBytes x k sb v.data.toList W wz hx lo H hk hvl hW;have HRE:=hid fun(lo sb:Nat) (W wz:World) (hW:Below W.heap.size W wz) (H:ScL W lo sb x)=>record x hx lo sb k hk W wz H hW;obtain⟨SG,hSG⟩:∃ SG:ByteArray,(⟨k.signs.toArray⟩:ByteArray)=SG:=⟨_,rfl⟩;obtain⟨BS,hBS⟩:∃ BS:ByteArray,(⟨k.base.toArray⟩:ByteArray)=BS:=⟨_,rfl⟩;obtain⟨NM,hNM⟩:∃ NM:ByteArray,(⟨k.name.toArray⟩:ByteArray)=NM:=⟨_,rfl⟩;have HKV:=hid (show kV k=.agg #[.string SG,.string BS,.string NM] by simp only[kV,tx,hSG,hBS,hNM]);rw[HKV.out] at HRE;rw[HKV.out,hve] at HFB;clear hve hvl hSG hBS hNM hx hk;cases hrt:Wf.recTy x k with
  | none =>
   have HF:=hid (skip_no (s:=v.data.toList) hty (.inl hrt));have HRE2:=hid fun(lo sb:Nat) (W wz:World) (hW:Below W.heap.size W wz) (H:ScL W lo sb x)=>(by have h:=HRE.out lo sb W wz hW H;rw[hrt] at h;exact h:Calls Tryz.prog 36 #[ptr sb,.agg #[.string SG,.string BS,.string NM]] wz fun e w'=>(∃ p,e=.returned (.tuple #[.pointer p,.bool false]))/\Below wz.heap.size wz w');clear hty hrt HRE HFB;go_enter Tryz.func18,Tryz.ntmps18;go_wp2_with (first|(go_at_call 36;have _u:=HSL;refine(HRE2.out _ _ w2 _ (by have B:=Below.refl w2.heap.size w2;repeat (first|with_reducible exact B|with_reducible refine zbE ?_|with_reducible refine zbG ?_ (by first|exact B.size|(simp;done)|(simp;omega)|omega) _)) HSL.out).mono ?_;rintro e w3 ⟨⟨p3,rfl⟩,hb3⟩;have HB3:=hid (HB2.out.trans ((aE ((Below.refl w2.heap.size w2).alloc (zaA) _) hb3).mono HB2.out.size));clear hb3)|(go_at_call 31;refine HBO.out.mono ?_;rintro e w2 ⟨ho,hb2⟩;obtain⟨sb,rfl,hsl⟩:=ho.yes HTY.out;rw[HKV.out];have HSL:=hid hsl;have HB2:=hid hb2;clear ho hb2 hsl))
   exact zbD (v:=.tuple #[.slice none 0 0,.bool false]) (by simp[results,Tryz.results18,go_sem, *]) rfl ⟨SkOut.no HF.out rfl,by have B:=HB3.out;repeat (first|with_reducible exact B|with_reducible refine zbE ?_|with_reducible refine zbF ?_ (by simp) _|with_reducible refine zbG ?_ (by first|exact B.size|(simp;done)|(simp;omega)|omega) _)⟩
  | some t =>
   have HRE2:=hid fun(lo sb:Nat) (W wz:World) (hW:Below W.heap.size W wz) (H:ScL W lo sb x)=>(by have h:=HRE.out lo sb W wz hW H;rw[hrt] at h;exact h.mono fun e w' ⟨⟨tb,h1,_⟩,h2⟩=>⟨⟨tb,h1⟩,h2⟩:Calls Tryz.prog 36 #[ptr sb,.agg #[.string SG,.string BS,.string NM]] wz fun e w'=>(∃ tb,e=.returned (.tuple #[ptr tb,.bool true]))/\Below wz.heap.size wz w');clear HRE;cases hgv:Wf.getVal x k v.data.toList with
   | none =>
    have HF:=hid (skip_no (s:=v.data.toList) hty (.inr hgv));have HO:=hid fun(w1:World) (e:Ending) (w':World) (h:FbOut x k v.data.toList w1 e w')=>(by unfold FbOut at h;rw[hgv] at h;exact h:e=.returned (.tuple #[.agg #[.int .u8 0,.string ⟨#[]⟩,.int .i64 0,.slice none 0 0],.slice none 0 0,.bool false]));clear hty hgv hrt;go_enter Tryz.func18,Tryz.ntmps18;go_wp2_with (first|(go_at_call 32;have _u:=HB3;refine(HFB.out _ _ w2 _ B23.out HSL.out).mono ?_;rintro e w4 ⟨ho4,hb4⟩;obtain rfl:=HO.out _ _ _ ho4;have HB4:=hid (HB3.out.trans (hb4.mono HB3.out.size));clear ho4 hb4)|(go_at_call 36;have _u:=HSL;refine(HRE2.out _ _ w2 _ (by have B:=Below.refl w2.heap.size w2;repeat (first|with_reducible exact B|with_reducible refine zbE ?_|with_reducible refine zbG ?_ (by first|exact B.size|(simp;done)|(simp;omega)|omega) _)) HSL.out).mono ?_;rintro e w3 ⟨⟨p3,rfl⟩,hb3⟩;have B23:=hid (aE ((Below.refl w2.heap.size w2).alloc (zaA) _) hb3);have HB3:=hid (HB2.out.trans (B23.out.mono HB2.out.size));have n3:w3.cell? ⟨w2.heap.size,0,none⟩=some (.string SG):=(hb3.cell (p:=⟨w2.heap.size,0,none⟩) (by simp)).trans (by simp[go_sem]);have n4:w3.cell? ⟨w2.heap.size,1,none⟩=some (.string BS):=(hb3.cell (p:=⟨w2.heap.size,1,none⟩) (by simp)).trans (by simp[go_sem]);have n5:w3.cell? ⟨w2.heap.size,2,none⟩=some (.string NM):=(hb3.cell (p:=⟨w2.heap.size,2,none⟩) (by simp)).trans (by simp[go_sem]);clear hb3)|(go_at_call 31;refine HBO.out.mono ?_;rintro e w2 ⟨ho,hb2⟩;obtain⟨sb,rfl,hsl⟩:=ho.yes HTY.out;rw[HKV.out];have HSL:=hid hsl;have HB2:=hid hb2;clear ho hb2 hsl))
    exact zbD (v:=.tuple #[.slice none 0 0,.bool false]) (by simp[results,Tryz.results18,go_sem, *]) rfl ⟨SkOut.no HF.out rfl,by have B:=HB4.out;repeat (first|with_reducible exact B|with_reducible refine zbE ?_|with_reducible refine zbF ?_ (by simp) _|with_reducible refine zbG ?_ (by first|exact B.size|(simp;done)|(simp;omega)|omega) _)⟩
   | some u =>
    have HF:=hid (skip_yes (s:=v.data.toList) hty hrt hgv);have HO:=hid fun(w1:World) (e:Ending) (w':World) (h:FbOut x k v.data.toList w1 e w')=>(by
     unfold FbOut at h;rw[hgv] at h;obtain⟨cs,sk,h1,h2,h3⟩:=h;obtain⟨u0,u1,u2,u3,T2,a2,rfl⟩:=h2.bA;rw[show(skB x 12 k v.data.toList).length=((skB x 12 k v.data.toList).map ix).length by rw[zaG]] at h3;exact⟨u0,u1,u2,u3,T2,a2,sk,h1,aI.cA h3⟩:∃ (u0:Nat) (u1:Int) (u2 u3:Nat) (T2:ByteArray) (a2:Option Addr) (sk:Value),e=.returned (.tuple #[.agg #[.int .u8 u0,.string T2,.int .i64 u1,.slice a2 u2 u3],sk,.bool true])/\∃ b,w1.heap.size<=b/\aI w' b sk ((skB x 12 k v.data.toList).map ix))
    clear hty hgv hrt;go_enter Tryz.func18,Tryz.ntmps18;go_wp2_with (first|(go_at_call 32;have _u:=HB3;refine(HFB.out _ _ w2 _ B23.out HSL.out).mono ?_;rintro e w4 ⟨ho4,hb4⟩;obtain⟨u0,u1,u2,u3,T2,a2,sk,rfl,bk,hbk,hrow⟩:=HO.out _ _ _ ho4;have HROW:=hid (And.intro hbk hrow);have HB4:=hid (HB3.out.trans (hb4.mono HB3.out.size));clear ho4 hb4 hbk hrow)|(go_at_call 36;have _u:=HSL;refine(HRE2.out _ _ w2 _ (by have B:=Below.refl w2.heap.size w2;repeat (first|with_reducible exact B|with_reducible refine zbE ?_|with_reducible refine zbG ?_ (by first|exact B.size|(simp;done)|(simp;omega)|omega) _)) HSL.out).mono ?_;rintro e w3 ⟨⟨p3,rfl⟩,hb3⟩;have B23:=hid (aE ((Below.refl w2.heap.size w2).alloc (zaA) _) hb3);have HB3:=hid (HB2.out.trans (B23.out.mono HB2.out.size));have n3:w3.cell? ⟨w2.heap.size,0,none⟩=some (.string SG):=(hb3.cell (p:=⟨w2.heap.size,0,none⟩) (by simp)).trans (by simp[go_sem]);have n4:w3.cell? ⟨w2.heap.size,1,none⟩=some (.string BS):=(hb3.cell (p:=⟨w2.heap.size,1,none⟩) (by simp)).trans (by simp[go_sem]);have n5:w3.cell? ⟨w2.heap.size,2,none⟩=some (.string NM):=(hb3.cell (p:=⟨w2.heap.size,2,none⟩) (by simp)).trans (by simp[go_sem]);clear hb3)|(go_at_call 31;refine HBO.out.mono ?_;rintro e w2 ⟨ho,hb2⟩;obtain⟨sb,rfl,hsl⟩:=ho.yes HTY.out;rw[HKV.out];have HSL:=hid hsl;have HB2:=hid hb2;clear ho hb2 hsl))
    have hsz:=HB3.out.size;exact zbD (v:=.tuple #[sk,.bool true]) (by simp[results,Tryz.results18,go_sem, *]) rfl ⟨SkOut.yes HF.out ⟨bk,sk,rfl,by have:=HROW.out.1;omega,by
     have h:=HROW.out.2;exact h.below (B:=w4.heap.size) (by repeat (first|with_reducible exact zaB|with_reducible refine zbE ?_|with_reducible refine zbF ?_ (by simp) _|with_reducible refine zbG ?_ (by first|exact zaA|(simp;done)) _)) (fun hx=>hx)⟩,by have B:=HB4.out;repeat (first|with_reducible exact B|with_reducible refine zbE ?_|with_reducible refine zbF ?_ (by simp) _|with_reducible refine zbG ?_ (by first|exact B.size|(simp;done)|(simp;omega)|omega) _)⟩
