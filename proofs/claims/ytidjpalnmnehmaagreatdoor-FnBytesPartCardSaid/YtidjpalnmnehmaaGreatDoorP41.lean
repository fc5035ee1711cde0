/- Packed. -/
import Derived.Test.YtidjpalnmnehmaaGreatDoorP40
import Derived.Shelf.Strings.Builder1
set_option maxRecDepth 99999
set_option maxHeartbeats 40000000
set_option linter.all false
namespace Go.Proofs.YtidjpalnmnehmaaGreatDoor
open Go.ChangeShapes Go.WideShapes Go.ChangeAt Go.RowKit Go.Lib
def Bu (B b:Nat) (l:List UInt8) (w:World):Prop:=Lib.IsBuilder 135 5 B b (Lib.byteCells l) w
theorem Bu.below {B b:Nat} {l:List UInt8} {w w':World} (h:Bu B b l w) (hb:Below w.heap.size w w'):Bu B b l w':=by
 have k:∀ p,Lib.BuilderAt 135 5 B b p (Lib.byteCells l) w->Lib.BuilderAt 135 5 B b p (Lib.byteCells l) w':=fun p h=>by
  have hlt:=h.lt;obtain⟨h1,v,h2,h3,h4⟩:=h;exact⟨h1,v,(hb.block b hlt).trans h2,cO h3 hb,h4⟩
 exact h.imp (k _) (k _)
theorem Bu.lt {B b:Nat} {l:List UInt8} {w:World} (h:Bu B b l w):B<=b/\b<w.heap.size:=by
 rcases h with h|h
 ·exact⟨h.1,h.lt⟩
 ·exact⟨h.1,h.lt⟩
theorem Bu.new (w:World):Bu w.heap.size w.heap.size [] (w.alloc (.cells #[.pointer none,.slice none 0 0] 135)):=Lib.fresh_isBuilder _ _ _
theorem wstr (B b:Nat) (l:List UInt8) (s:ByteArray) (w:World) (h:Bu B b l w) (hl:l.length+s.size<=1000000000) (hB:B<=w.heap.size):Calls Tryz.prog 79 #[ptr b,.string s] w fun e w'=>e=.returned (.tuple #[.int .i64 s.size,.nilIface])/\Bu B b (l++s.data.toList) w'/\Below B w w':=by
 refine(Any.Builder_WriteString { Tryz.lays156 with } Tryz.Builder_Extra_156 B b (Lib.byteCells l) s w h (by rw[Lib.byteCells_length];omega) hB).mono ?_;rintro e w' ⟨h1,h2,h3⟩;refine⟨h1,.inr ?_,h3⟩;have e0:Lib.byteCells (l++s.data.toList)=Lib.byteCells l++Lib.strCells s:=by unfold Lib.byteCells Lib.strCells;rw[List.map_append]
 rw[e0];exact h2
theorem bstr (B b:Nat) (l:List UInt8) (w:World) (h:Bu B b l w) (hB:B<=w.heap.size):Calls Tryz.prog 80 #[ptr b] w fun e w'=>e=.returned (tx l)/\Below B w w' :=
 Any.Builder_String_any Tryz.lays169 Tryz.Builder_Extra_169 B b l w h hB
theorem flat_take {l:List Wf.V} {i:Nat} (hi:i<l.length):((l.take (i+1)).map Wf.V.bytes).flatten=((l.take i).map Wf.V.bytes).flatten++(l[i]).bytes:=by
 have e:l.take (i+1)=l.take i++[l[i]]:=by rw[List.take_add_one,List.getElem?_eq_getElem hi];rfl
 rw[e,List.map_append,List.flatten_append,List.map_cons,List.map_nil,List.flatten_cons,List.flatten_nil,List.append_nil]
theorem flat_mem {l:List Wf.V} {v:Wf.V} (h:v∈l):v.bytes.length<=(l.map Wf.V.bytes).flatten.length:=by
 induction l with
 | nil=>cases h
 | cons a l ih =>
  rw[List.map_cons,List.flatten_cons,List.length_append];rcases List.mem_cons.1 h with rfl|h
  ·omega
  ·have:=ih h;omega
theorem flat_take_le (l:List Wf.V) (i:Nat):((l.take i).map Wf.V.bytes).flatten.length<=(l.map Wf.V.bytes).flatten.length:=by
 conv=>rhs;rw[<-List.take_append_drop i l]
 rw[List.map_append,List.flatten_append,List.length_append];omega
theorem BOk.kid {what:UInt8} {text:List UInt8} {tag:Nat} {kids:List Wf.V} (h:Wf.BOk (.mk what text tag kids)) {u:Wf.V} (hu:u∈kids):Wf.BOk u:=by
 cases h with
 | mk _ _ _ _ _ _ _ h8=>exact h8 u hu
theorem BOk.len {what:UInt8} {text:List UInt8} {tag:Nat} {kids:List Wf.V} (h:Wf.BOk (.mk what text tag kids)):kids.length<=1000/\tag<=999999:=by
 cases h with
 | mk _ _ _ _ h5 h6 _ _=>exact⟨h6,h5⟩
theorem bytesI (v:Wf.V):∀ (hok:Wf.BOk v) (P:Nat->Prop) (cs:List Value) (W w:World),VC W P v cs->Below W.heap.size W w->v.bytes.length<=100000->Calls Tryz.prog 49 #[.agg cs.toArray] w fun e w'=>e=.returned (tx v.bytes)/\Below w.heap.size w w':=by
 refine Wf.V.induct (P:=fun v=>∀ (hok:Wf.BOk v) (P:Nat->Prop) (cs:List Value) (W w:World),VC W P v cs->Below W.heap.size W w->v.bytes.length<=100000->Calls Tryz.prog 49 #[.agg cs.toArray] w fun e w'=>e=.returned (tx v.bytes)/\Below w.heap.size w w') ?_ v;intro what text tag kids ih hok P cs W w HV hW hlen;obtain⟨a,c,rfl,hnc,hcm,hsh,hk⟩:=HV.form;simp only[Wf.V.what,Wf.V.text,Wf.V.tag,Wf.V.kids] at *;obtain⟨hkl,htag⟩:=BOk.len hok;obtain⟨n,hn⟩:∃ n,kids.length=n:=⟨_,rfl⟩;obtain⟨q,hq⟩:∃ q,what.toNat=q:=⟨_,rfl⟩;obtain⟨T,hT⟩:∃ T:ByteArray,(⟨text.toArray⟩:ByteArray)=T:=⟨_,rfl⟩;have hTl:T.data.toList=text:=by rw[<-hT]
 have hTs:T.size=text.length:=by rw[<-hT];rfl
 have HN:=hid hn;have HW:=hid hW;have HFC:=hid (Wf.bytes_by hok q hq);have hkb:∀ u,u∈kids->u.bytes.length<=100000->∀ (P:Nat->Prop) (cs:List Value) (W w:World),VC W P u cs->Below W.heap.size W w->Calls Tryz.prog 49 #[.agg cs.toArray] w fun e w'=>e=.returned (tx u.bytes)/\Below w.heap.size w w':=fun u hu hl P cs W w hv hb=>ih u hu (BOk.kid hok hu) P cs W w hv hb hl
 -- of the part at a place
 have KID:=hid fun(i:Nat) (hik:i<kids.length) (hbl:(kids[i]).bytes.length<=100000) (wr:World) (hwr:Below W.heap.size W wr)=>(show ∃ (b o q' n' c' g':Nat) (T':ByteArray) (a':Option Addr),a=some ⟨b,o,none⟩/\b<W.heap.size/\b<wr.heap.size/\wr.cell? ⟨b,o+i*4,none⟩=some (.int .u8 q')/\wr.cell? ⟨b,o+i*4+1,none⟩=some (.string T')/\wr.cell? ⟨b,o+i*4+2,none⟩=some (.int .i64 g')/\wr.cell? ⟨b,o+i*4+3,none⟩=some (.slice a' n' c')/\∀ wz,Below W.heap.size W wz->Calls Tryz.prog 49 #[.agg #[.int .u8 q',.string T',.int .i64 g',.slice a' n' c']] wz fun e w'=>e=.returned (tx (kids[i]).bytes)/\Below wz.heap.size wz w' from by
  rcases hk with h0|⟨b,o,ha,hPb,hbW,hvs⟩
  ·rw[h0] at hik;simp at hik
  obtain⟨cs',hvc,hcell⟩:=hvs.get i hik;obtain⟨a',c',rfl,hnc',hcm',hsh',hk'⟩:=hvc.form;refine⟨b,o,_,_,_,_,_,a',ha,hbW,Nat.lt_of_lt_of_le hbW hwr.size,?_,?_,?_,?_,fun wz hz=>hkb kids[i] (List.getElem_mem hik) hbl P _ W wz hvc hz⟩
  ·exact(hwr.cell (p:=⟨b,o+i*4,none⟩) hbW).trans (by have:=hcell 0 _ rfl;rwa[Nat.add_zero] at this)
  ·exact(hwr.cell (p:=⟨b,o+i*4+1,none⟩) hbW).trans (hcell 1 _ rfl)
  ·exact(hwr.cell (p:=⟨b,o+i*4+2,none⟩) hbW).trans (hcell 2 _ rfl)
  ·exact(hwr.cell (p:=⟨b,o+i*4+3,none⟩) hbW).trans (hcell 3 _ rfl))
 have BA:=hid ((Below.refl w.heap.size w).alloc (Nat.le_refl _) (.cells #[.int .u8 q,.string T,.int .i64 tag,.slice a n c] 51));rw[hn] at hnc hkl;unfold maxLen at hcm;simp only[tx,hT,hq,hn];have HNT:=hid fun(m:Nat) (hm:m<=999999) wz=>numText m hm wz;simp only[tx] at HNT;clear ih hkb hk hW hsh HV hT hq hok;rcases HFC.out with⟨rfl,m,hm,hmt,hp⟩|⟨rfl,ht12,hp⟩|⟨rfl,hty,hp⟩|⟨rfl,htn,hp⟩|⟨rfl,hp⟩|⟨rfl,h0,hp⟩|⟨rfl,u,hu,hp⟩|⟨rfl,hp⟩|⟨hq2,u,hu,hp⟩|⟨rfl,hp⟩;all_goals rw[hp] at hlen ⊢
 all_goals try rw[show((91:Nat):Int)=91 from rfl] at BA ⊢
 all_goals try rw[show((82:Nat):Int)=82 from rfl] at BA ⊢
 all_goals try rw[show((63:Nat):Int)=63 from rfl] at BA ⊢
 all_goals clear hp HFC
 ·have HPN:=hid fun wz=>sH T 999999 (Nat.le_refl _) wz
  rw[hTl,hmt,Wf.gU hm hm,iH (Wf.gU hm hm)] at HPN;have HPN2:=hid fun wz=>(HPN.out wz).mono (R':=fun e w'=>e=.returned (.tuple #[.int .i64 m,.bool true])/\wz=w') fun e w' h=>h;have HM:=hid (HNT.out m hm);clear HPN hTl hTs hmt HNT;go_enter Tryz.func49,Tryz.ntmps49;go_wp2_with (first|(go_at_call 77;refine(HM.out _).mono ?_;rintro e w3 ⟨rfl,hb3⟩;have B3:=hid (aC BA.out hb3);clear hb3)|(go_at_call 76;refine(HPN2.out _).mono ?_;rintro e w2 ⟨rfl,rfl⟩))
  go_ret
  exact⟨rfl,B3.out⟩
 ·have HS:=hid fun wz=>sized T (by omega) wz
  rw[hTl] at HS;simp only[tx] at HS;clear hTl hTs HNT;go_enter Tryz.func49,Tryz.ntmps49;go_wp2_with (go_at_call 78;refine(HS.out _).mono ?_;rintro e w3 ⟨rfl,hb3⟩;have B3:=hid (aC BA.out hb3);clear hb3)
  go_ret
  exact⟨rfl,B3.out⟩
 ·have hy:(T.toList==[121,101,115])=true:=by rw[ByteArray.toList_eq,hTl,hty];rfl
  have hy2:(T.toList==(⟨#[121,101,115]⟩:ByteArray).toList)=true:=by rw[ByteArray.toList_eq,ByteArray.toList_eq,hTl,hty];rfl
  clear hTl hTs HNT hty;go_enter Tryz.func49,Tryz.ntmps49;go_wp2_with fail
  go_ret
  exact⟨rfl,BA.out⟩
 ·have hy:(T.toList==[121,101,115])=false:=by rw[ByteArray.toList_eq,hTl,beq_eq_false_iff_ne];exact htn
  have hy2:(T.toList==(⟨#[121,101,115]⟩:ByteArray).toList)=false:=by rw[ByteArray.toList_eq,ByteArray.toList_eq,hTl,beq_eq_false_iff_ne];exact htn
  clear hTl hTs HNT htn;go_enter Tryz.func49,Tryz.ntmps49;go_wp2_with fail
  go_ret
  exact⟨rfl,BA.out⟩
 ·have hn1:n<=999999:=by omega
  have HM:=hid (HNT.out n hn1);rw[hn] at hlen ⊢;obtain⟨NB,hNB⟩:∃ NB:ByteArray,(⟨(Wf.putN n).toArray⟩:ByteArray)=NB:=⟨_,rfl⟩;have hNs:NB.size<=3:=by rw[<-hNB];exact(Wf.cB n hn1).2
  have hNl:NB.data.toList=Wf.putN n:=by rw[<-hNB]
  have HNL:=hid hNl;rw[hNB] at HM;have hNl2:(Wf.putN n).length<=3:=(Wf.cB n hn1).2;rw[List.length_append] at hlen;clear hTl hTs HNT hNl hn hNB;have hfl:=hid fun(i:Nat)=>flat_take_le kids i;have hfm:=hid fun(u:Wf.V) (h:u∈kids)=>flat_mem h;go_enter Tryz.func49,Tryz.ntmps49;go_wp2_with (first|(go_at_call 79;have _u:=B1;refine(wstr (w.heap.size+1) (w.heap.size+1) [] NB _ (U1.out) (by simp;omega) (by have:=U1.out.lt;omega)).mono ?_;rintro e w2 ⟨rfl,hu2,hb2⟩;have BU1:=hid (show Bu (w.heap.size+1) (w.heap.size+1) (Wf.putN n) w2 by rw[<-HNL.out];exact hu2);have BW1:=hid (B1.out.trans (hb2.mono (by omega)));have z3:w2.cell? ⟨w.heap.size,3,none⟩=some (.slice a n c):=(hb2.cell (p:=⟨w.heap.size,3,none⟩) (Nat.lt_succ_self _)).trans y3;have zl:w.heap.size<w2.heap.size:=Nat.lt_of_lt_of_le yl hb2.size;clear hu2 hb2)|(go_at_call 77;refine(HM.out _).mono ?_;rintro e w1 ⟨rfl,hb1⟩;have U1:=hid ((show Bu (w.heap.size+1) (w.heap.size+1) [] ((w.alloc (.cells #[.int .u8 91,.string T,.int .i64 tag,.slice a n c] 51)).alloc (.cells #[.pointer none,.slice none 0 0] 135)) from by have:=Bu.new (w.alloc (.cells #[.int .u8 91,.string T,.int .i64 tag,.slice a n c] 51));simpa using this).below hb1);have B1:=hid (aC (BA.out.alloc BA.out.size (.cells #[.pointer none,.slice none 0 0] 135)) hb1);have y3:w1.cell? ⟨w.heap.size,3,none⟩=some (.slice a n c):=(hb1.cell (p:=⟨w.heap.size,3,none⟩) (by simp;omega)).trans (by simp[go_sem]);have yl:w.heap.size<w1.heap.size:=Nat.lt_of_lt_of_le (by simp;omega) hb1.size;clear hb1))
  go_loopw [43] (fun sI wr=>∃ (i:Nat),sI=.int .i64 i/\i<=n/\Hid (Bu (w.heap.size+1) (w.heap.size+1) (Wf.putN n++((kids.take i).map Wf.V.bytes).flatten) wr/\Below w.heap.size w wr)) (fun sI _=>n-(RowKit.intOf sI).toNat)
  case atStart=>exact⟨0,rfl,Nat.zero_le _,hid ⟨by simpa using BU1.out,BW1.out⟩⟩
  case round =>
   obtain⟨i,rfl,hi,hh⟩:=hrel;have BW:=hid (HW.out.trans (hh.out.2.mono HW.out.size));by_cases hlt:i<n
   ·have hik:i<kids.length:=by rw[HN.out];exact hlt
    have hkl1:=hfm.out _ (List.getElem_mem hik);obtain⟨b,o,q',n',c',g',T',a',rfl,hbW,hb,k0,k1,k2,k3,hrec⟩:=KID.out i hik (by omega) wr BW.out;obtain⟨R,hR⟩:∃ R:ByteArray,(⟨(kids[i]).bytes.toArray⟩:ByteArray)=R:=⟨_,rfl⟩;have hRs:R.size=(kids[i]).bytes.length:=(by rw[<-hR];rfl);have HFT:=hid (show((kids.take (i+1)).map Wf.V.bytes).flatten=((kids.take i).map Wf.V.bytes).flatten++R.data.toList by rw[flat_take hik,<-hR]);have hfl1:=hfl.out i;have HLE:=hid (show(Wf.putN n++((kids.take i).map Wf.V.bytes).flatten).length+R.size<=1000000000 by(try simp only[List.length_append] at hlen ⊢);omega);simp only[tx,hR] at hrec;have HR:=hid hrec;clear hrec hR hRs hkl1 hfl1;go_wp2_with (first|(go_at_call 79;have _u:=B2;refine(wstr (w.heap.size+1) (w.heap.size+1) _ R _ (hh.out.1.below B2.out) HLE.out (by have h1:=hh.out.1.lt;have:=B2.out.size;omega)).mono ?_;rintro e w3 ⟨rfl,hu3,hb3⟩;have U3:=hid hu3;have B3:=hid hb3;clear hu3 hb3)|(go_at_call 49;refine(HR.out _ (BW.out.trans (((Below.refl _ _).alloc (Nat.le_refl _) _).mono BW.out.size))).mono ?_;rintro e w2 ⟨rfl,hb2⟩;have B2:=hid (aC ((Below.refl wr.heap.size wr).alloc (Nat.le_refl _) _) hb2);clear hb2))
    go_roundw
    case rel=>exact⟨i+1,by go_num,by omega,hid ⟨by rw[HFT.out];simpa only [List.append_assoc] using U3.out,hh.out.2.trans ((B2.out.mono hh.out.2.size).trans (B3.out.mono (by omega)))⟩⟩
    case measure=>simp[RowKit.intOf];omega
   ·have hin:n=i:=by omega
    subst hin;have HTK:=hid (show kids.take n=kids from List.take_of_length_le (by rw[HN.out];exact Nat.le_refl _));have HU:=hid (by rw[HTK.out] at hh;exact hh.out.1:Bu (w.heap.size+1) (w.heap.size+1) (Wf.putN n++(kids.map Wf.V.bytes).flatten) wr);go_wp2_with (go_at_call 80;refine(bstr (w.heap.size+1) (w.heap.size+1) _ _ HU.out (by have:=HU.out.lt;omega)).mono ?_;rintro e w2 ⟨rfl,hb2⟩;have B2:=hid hb2;clear hb2)
    go_ret
    exact⟨rfl,hh.out.2.trans (B2.out.mono (by omega))⟩
 ·subst h0
  obtain rfl:n=0:=by rw[<-hn];rfl
  clear hTl hTs HNT hn;go_enter Tryz.func49,Tryz.ntmps49;go_wp2_with fail
  go_ret
  exact⟨rfl,BA.out⟩
 ·subst hu
  obtain rfl:n=1:=by rw[<-hn];rfl
  rw[List.length_cons] at hlen;obtain⟨b,o,q',n',c',g',T',a',rfl,hbW,hb,k0,k1,k2,k3,hrec⟩:=KID.out 0 (by simp) (by show u.bytes.length<=_;omega) _ (HW.out.trans (BA.out.mono HW.out.size));rw[Nat.zero_mul,Nat.add_zero] at k0 k1 k2 k3;obtain⟨R,hR⟩:∃ R:ByteArray,(⟨u.bytes.toArray⟩:ByteArray)=R:=⟨_,rfl⟩;have hRs:R.size=u.bytes.length:=by rw[<-hR];rfl
  have HR:=hid fun wz hz=>(hrec wz hz).mono (R':=fun e w'=>e=.returned (.string R)/\Below wz.heap.size wz w') fun e w' h=>⟨by rw[h.1,<-hR];rfl,h.2⟩;have HF:=hid (show(⟨(1::u.bytes).toArray⟩:ByteArray)=⟨#[1]⟩++R from((aR (⟨#[1]⟩++R) _).2 (by rw[ByteArray.data_append,Array.toList_append,<-hR];rfl)).symm);have a1:=fun wz=>run_string_add_sum (P:=Tryz.prog) (w:=wz) ⟨#[1]⟩ R (by show 1+R.size<=_;omega);clear hTl hTs HNT hn hrec hR hRs;go_enter Tryz.func49,Tryz.ntmps49;go_wp2_with (go_at_call 49;refine(HR.out _ (HW.out.trans (BA.out.mono HW.out.size))).mono ?_;rintro e w2 ⟨rfl,hb2⟩;have B2:=hid (aC BA.out hb2);clear hb2)
  go_ret
  exact⟨aV HF.out.symm,B2.out⟩
 ·have HM:=hid (HNT.out tag htag)
  clear hTl hTs HNT hn;go_enter Tryz.func49,Tryz.ntmps49;go_wp2_with (go_at_call 77;refine(HM.out _).mono ?_;rintro e w3 ⟨rfl,hb3⟩;have B3:=hid (aC BA.out hb3);clear hb3)
  go_ret
  exact⟨rfl,B3.out⟩
 ·subst hu
  obtain rfl:n=1:=by rw[<-hn];rfl
  have hul:u.bytes.length<=100000:=by simp only[List.length_append] at hlen;omega
  obtain⟨b,o,q',n',c',g',T',a',rfl,hbW,hb,k0,k1,k2,k3,hrec⟩:=KID.out 0 (by simp) hul _ (HW.out.trans (BA.out.mono HW.out.size));rw[Nat.zero_mul,Nat.add_zero] at k0 k1 k2 k3;obtain⟨R,hR⟩:∃ R:ByteArray,(⟨u.bytes.toArray⟩:ByteArray)=R:=⟨_,rfl⟩;have hRs:R.size=u.bytes.length:=by rw[<-hR];rfl
  have hRl:R.data.toList=u.bytes:=by rw[<-hR]
  obtain⟨D,hD⟩:∃ D:ByteArray,(⟨(Wf.putN tag).toArray⟩:ByteArray)=D:=⟨_,rfl⟩;have hDs:D.size<=3:=by rw[<-hD];exact(Wf.cB tag htag).2
  obtain⟨Z,hZ⟩:∃ Z:ByteArray,(⟨(Wf.putN u.bytes.length++u.bytes).toArray⟩:ByteArray)=Z:=⟨_,rfl⟩;have hZs:Z.size<=100003:=by rw[<-hZ];show(Wf.putN u.bytes.length++u.bytes).length<=_;rw[List.length_append];have:=(Wf.cB u.bytes.length (by omega)).2;omega
  have HM:=hid (HNT.out tag htag);rw[hD] at HM;have HS:=hid fun wz=>sized R (by omega) wz;rw[hRl] at HS;simp only[tx,hZ] at HS;have HR:=hid fun wz hz=>(hrec wz hz).mono (R':=fun e w'=>e=.returned (.string R)/\Below wz.heap.size wz w') fun e w' h=>⟨by rw[h.1,<-hR];rfl,h.2⟩;have HF:=hid (show(⟨(Wf.putN tag++(Wf.putN u.bytes.length++u.bytes)).toArray⟩:ByteArray)=D++Z from((aR (D++Z) _).2 (by rw[ByteArray.data_append,Array.toList_append,<-hD,<-hZ])).symm);have a1:=fun wz=>run_string_add_sum (P:=Tryz.prog) (w:=wz) D Z (by omega);have y2:(w.alloc (.cells #[.int .u8 q,.string T,.int .i64 tag,.slice (some ⟨b,o,none⟩) 1 c] 51)).cell? ⟨w.heap.size,2,none⟩=some (.int .i64 tag):=by simp[go_sem]
  have y3:(w.alloc (.cells #[.int .u8 q,.string T,.int .i64 tag,.slice (some ⟨b,o,none⟩) 1 c] 51)).cell? ⟨w.heap.size,3,none⟩=some (.slice (some ⟨b,o,none⟩) 1 c):=by simp[go_sem]
  have yl:w.heap.size<(w.alloc (.cells #[.int .u8 q,.string T,.int .i64 tag,.slice (some ⟨b,o,none⟩) 1 c] 51)).heap.size:=by simp
  clear hTl hTs HNT hn hrec hR hRs hRl hD hZ KID;rcases hq2 with rfl|rfl;all_goals
   go_enter Tryz.func49,Tryz.ntmps49;go_wp2_with fail
   try rw[show((85:Nat):Int)=85 from rfl] at BA y2 y3 yl k0 k1 k2 k3 hb
   try rw[show((61:Nat):Int)=61 from rfl] at BA y2 y3 yl k0 k1 k2 k3 hb
   generalize hW1:w.alloc _=W1 at BA y2 y3 yl k0 k1 k2 k3 hb ⊢;have F:=hid fun(wz:World) (hz:Below W1.heap.size W1 wz)=>(show wz.cell? ⟨w.heap.size,2,none⟩=some (.int .i64 tag)/\wz.cell? ⟨w.heap.size,3,none⟩=some (.slice (some ⟨b,o,none⟩) 1 c)/\wz.cell? ⟨b,o,none⟩=some (.int .u8 q')/\wz.cell? ⟨b,o+1,none⟩=some (.string T')/\wz.cell? ⟨b,o+2,none⟩=some (.int .i64 g')/\wz.cell? ⟨b,o+3,none⟩=some (.slice a' n' c') from⟨(hz.cell (p:=⟨w.heap.size,2,none⟩) yl).trans y2,(hz.cell (p:=⟨w.heap.size,3,none⟩) yl).trans y3,(hz.cell (p:=⟨b,o,none⟩) hb).trans k0,(hz.cell (p:=⟨b,o+1,none⟩) hb).trans k1,(hz.cell (p:=⟨b,o+2,none⟩) hb).trans k2,(hz.cell (p:=⟨b,o+3,none⟩) hb).trans k3⟩);clear hW1;go_region_held3 (fun w'=>w'.cell? ⟨w.heap.size,2,none⟩=some (.int .i64 tag)/\w'.cell? ⟨w.heap.size,3,none⟩=some (.slice (some ⟨b,o,none⟩) 1 c)/\w'.cell? ⟨b,o,none⟩=some (.int .u8 q')/\w'.cell? ⟨b,o+1,none⟩=some (.string T')/\w'.cell? ⟨b,o+2,none⟩=some (.int .i64 g')/\w'.cell? ⟨b,o+3,none⟩=some (.slice a' n' c')) (first|exact FZ.out|exact FD.out|exact FB.out|go_keep) (first|(go_at_call 78;have _u:=TB;refine(HS.out _).mono ?_;rintro e w4 ⟨rfl,hb4⟩;have TZ:=hid (show Below W1.heap.size W1 w4 by first|exact TD.out.trans (hb4.mono TD.out.size)|exact TB.out.trans (hb4.mono TB.out.size));have FZ:=hid (F.out _ TZ.out);clear hb4)|(go_at_call 77;refine(HM.out _).mono ?_;rintro e w3 ⟨rfl,hb3⟩;have TD:=hid (show Below W1.heap.size W1 w3 by first|exact TZ.out.trans (hb3.mono TZ.out.size)|exact TB.out.trans (hb3.mono TB.out.size)|(refine Below.trans (b:=_) ?_ hb3;repeat (first|with_reducible exact Below.refl _ _|with_reducible refine Below.drew ?_)));have FD:=hid (F.out _ TD.out);clear hb3)|(go_at_call 49;refine(HR.out _ (HW.out.trans (Below.mono (BA.out.trans (by first|exact TD.out.mono BA.out.size|(refine Below.mono (B:=W1.heap.size) ?_ BA.out.size;repeat (first|with_reducible exact Below.refl _ _|with_reducible refine Below.drew ?_)))) HW.out.size))).mono ?_;rintro e w2 ⟨rfl,hb2⟩;have TB:=hid (show Below W1.heap.size W1 w2 by first|exact TD.out.trans (hb2.mono TD.out.size)|(refine Below.trans (b:=_) ?_ hb2;repeat (first|with_reducible exact Below.refl _ _|with_reducible refine Below.drew ?_)));have FB:=hid (F.out _ TB.out);clear hb2))
   all_goals go_wp2_with fail
   all_goals go_ret
   all_goals exact⟨aV HF.out.symm,by first|exact BA.out.trans (TZ.out.mono BA.out.size)|exact BA.out.trans (TD.out.mono BA.out.size)⟩
 ·rw[List.length_append] at hlen
  clear hTl hTs HNT hn;have hfl:=hid fun(i:Nat)=>flat_take_le kids i;have hfm:=hid fun(u:Wf.V) (h:u∈kids)=>flat_mem h;have U1:=hid (show Bu (w.heap.size+1) (w.heap.size+1) [] ((w.alloc (.cells #[.int .u8 82,.string T,.int .i64 tag,.slice a n c] 51)).alloc (.cells #[.pointer none,.slice none 0 0] 135)) from by have:=Bu.new (w.alloc (.cells #[.int .u8 82,.string T,.int .i64 tag,.slice a n c] 51));simpa using this);have BU1:=U1;have BW1:=hid (BA.out.alloc BA.out.size (.cells #[.pointer none,.slice none 0 0] 135));go_enter Tryz.func49,Tryz.ntmps49;go_wp2_with fail
  go_loopw [85] (fun sI wr=>∃ (i:Nat),sI=.int .i64 i/\i<=n/\Hid (Bu (w.heap.size+1) (w.heap.size+1) (((kids.take i).map Wf.V.bytes).flatten) wr/\Below w.heap.size w wr)) (fun sI _=>n-(RowKit.intOf sI).toNat)
  case atStart=>exact⟨0,rfl,Nat.zero_le _,hid ⟨by simpa using BU1.out,BW1.out⟩⟩
  case round =>
   obtain⟨i,rfl,hi,hh⟩:=hrel;have BW:=hid (HW.out.trans (hh.out.2.mono HW.out.size));by_cases hlt:i<n
   ·have hik:i<kids.length:=by rw[HN.out];exact hlt
    have hkl1:=hfm.out _ (List.getElem_mem hik);obtain⟨b,o,q',n',c',g',T',a',rfl,hbW,hb,k0,k1,k2,k3,hrec⟩:=KID.out i hik (by omega) wr BW.out;obtain⟨R,hR⟩:∃ R:ByteArray,(⟨(kids[i]).bytes.toArray⟩:ByteArray)=R:=⟨_,rfl⟩;have hRs:R.size=(kids[i]).bytes.length:=(by rw[<-hR];rfl);have HFT:=hid (show((kids.take (i+1)).map Wf.V.bytes).flatten=((kids.take i).map Wf.V.bytes).flatten++R.data.toList by rw[flat_take hik,<-hR]);have hfl1:=hfl.out i;have HLE:=hid (show(((kids.take i).map Wf.V.bytes).flatten).length+R.size<=1000000000 by(try simp only[List.length_append] at hlen ⊢);omega);simp only[tx,hR] at hrec;have HR:=hid hrec;clear hrec hR hRs hkl1 hfl1;go_wp2_with (first|(go_at_call 79;have _u:=B2;refine(wstr (w.heap.size+1) (w.heap.size+1) _ R _ (hh.out.1.below B2.out) HLE.out (by have h1:=hh.out.1.lt;have:=B2.out.size;omega)).mono ?_;rintro e w3 ⟨rfl,hu3,hb3⟩;have U3:=hid hu3;have B3:=hid hb3;clear hu3 hb3)|(go_at_call 49;refine(HR.out _ (BW.out.trans (((Below.refl _ _).alloc (Nat.le_refl _) _).mono BW.out.size))).mono ?_;rintro e w2 ⟨rfl,hb2⟩;have B2:=hid (aC ((Below.refl wr.heap.size wr).alloc (Nat.le_refl _) _) hb2);clear hb2))
    go_roundw
    case rel=>exact⟨i+1,by go_num,by omega,hid ⟨by rw[HFT.out];simpa only [List.append_assoc] using U3.out,hh.out.2.trans ((B2.out.mono hh.out.2.size).trans (B3.out.mono (by omega)))⟩⟩
    case measure=>simp[RowKit.intOf];omega
   ·have hin:n=i:=by omega
    subst hin;have HTK:=hid (show kids.take n=kids from List.take_of_length_le (by rw[HN.out];exact Nat.le_refl _));have HU:=hid (by rw[HTK.out] at hh;exact hh.out.1:Bu (w.heap.size+1) (w.heap.size+1) ((kids.map Wf.V.bytes).flatten) wr);obtain⟨R,hR⟩:∃ R:ByteArray,(⟨((kids.map Wf.V.bytes).flatten).toArray⟩:ByteArray)=R:=⟨_,rfl⟩;have hRs:R.size=(kids.map Wf.V.bytes).flatten.length:=(by rw[<-hR];rfl);have HF:=hid (show(⟨((kids.map Wf.V.bytes).flatten++[0]).toArray⟩:ByteArray)=R++⟨#[0]⟩ from((aR (R++⟨#[0]⟩) _).2 (by rw[ByteArray.data_append,Array.toList_append,<-hR])).symm);have a1:=fun wz=>run_string_add_sum (P:=Tryz.prog) (w:=wz) R ⟨#[0]⟩ (by show R.size+1<=_;omega);have HBS:=hid fun wz (h1:Bu (w.heap.size+1) (w.heap.size+1) (kids.map Wf.V.bytes).flatten wz) h2=>(bstr (w.heap.size+1) (w.heap.size+1) _ wz h1 h2).mono (R':=fun e w'=>e=.returned (.string R)/\Below (w.heap.size+1) wz w') fun e w' h=>⟨by rw[h.1,<-hR],h.2⟩;clear hR hRs;go_wp2_with (go_at_call 80;refine(HBS.out _ HU.out (by have:=HU.out.lt;omega)).mono ?_;rintro e w2 ⟨rfl,hb2⟩;have B2:=hid hb2;clear hb2)
    go_ret
    exact⟨aV HF.out.symm,hh.out.2.trans (B2.out.mono (by omega))⟩

theorem toBytes_i (v:Wf.V) (hok:Wf.BOk v) (P:Nat->Prop) (q g n c:Nat) (T:ByteArray) (sa:Option Addr) (W w:World) (hv:VC W P v [.int .u8 q,.string T,.int .i64 g,.slice sa n c]) (hb:Below W.heap.size W w) (hl:v.bytes.length<=400) :
  Calls Tryz.prog 28 #[.agg #[.int .u8 q,.string T,.int .i64 g,.slice sa n c]] w fun e w'=>e=.returned (vfV (some v.bytes))/\Below w.heap.size w w':=by
 have HB:=hid fun(w2:World) (h2:Below W.heap.size W w2)=>bytesI v hok P _ W w2 hv h2 (by omega);obtain⟨B,hB⟩:∃ B:ByteArray,(⟨v.bytes.toArray⟩:ByteArray)=B:=⟨_,rfl⟩;have hBs:B.size<=400:=by rw[<-hB];exact hl
 have HF:=hid (show vfV (some v.bytes)=.tuple #[.string B,.bool true] by rw[<-hB];rfl);have HW:=hid hb;simp only[tx,hB] at HB;clear hv hb hok hl hB;go_enter Tryz.func28,Tryz.ntmps28;go_wp2_with (go_at_call 49;refine(HB.out _ (HW.out.alloc HW.out.size _)).mono ?_;rintro e w2 ⟨rfl,hb2⟩;have B2:=hid (aC ((Below.refl w.heap.size w).alloc (Nat.le_refl _) _) hb2);clear hb2)
 go_ret2
 exact⟨by rw[HF.out];rfl,B2.out⟩
theorem bytesPut_i (s kt v:ByteArray) (m:Int) (w:World) (hm:ML m w) (hs:s.size<=1048576) (hkt:kt.size<=1048576) (hv:v.size<=1048576):Calls Tryz.prog 11 #[.string s,.string kt,.string v] w fun e w'=>e=.returned (vfV (bytesVal s.data.toList kt.data.toList v.data.toList))/\Below w.heap.size w w':=by
 have HG:=hid (given s kt v m w hm hs hkt hv);clear hm;cases hvo:valOf s.data.toList kt.data.toList v.data.toList with
 | none =>
  have HO:=hid fun lo e w' (h:bN s.data.toList kt.data.toList v.data.toList lo e w')=>(by unfold bN at h;rw[hvo] at h;exact h:∃ p a b c,e=.returned (.tuple #[.pointer p,.agg #[.string a,.string b,.string c],.agg #[.int .u8 0,.string ⟨#[]⟩,.int .i64 0,.slice none 0 0],.bool false]));have HD:=hid (show vfV (bytesVal s.data.toList kt.data.toList v.data.toList)=.tuple #[.string ⟨#[]⟩,.bool false] by unfold bytesVal;rw[hvo];rfl);clear hvo;go_enter Tryz.func11,Tryz.ntmps11;go_wp2_with (go_at_call 27;refine HG.out.mono ?_;rintro e w2 ⟨ho,hb2⟩;obtain⟨p,a,b,c,rfl⟩:=HO.out _ _ _ ho;have HB2:=hid hb2;clear ho hb2)
  go_ret2
  exact⟨by rw[HD.out];rfl,by have B:=HB2.out;have hB:=B.size;repeat (first|with_reducible exact B|with_reducible refine Below.drew ?_|with_reducible refine Below.setCell ?_ (by simp) _|with_reducible refine Below.alloc ?_ (by first|exact B.size|(simp;omega)) _)⟩
 | some y =>
  have HO:=hid fun lo e w' (h:bN s.data.toList kt.data.toList v.data.toList lo e w')=>(by unfold bN at h;rw[hvo] at h;exact h:∃ sb cs,e=.returned (.tuple #[ptr sb,kV y.1.2,.agg cs.toArray,.bool true])/\ScL w' lo sb y.1.1/\VC w' (fun b=>lo<=b) y.2 cs);have hbv:bytesVal s.data.toList kt.data.toList v.data.toList=some y.2.bytes:=by unfold bytesVal;rw[hvo];rfl
  have hl:=bytesVal_len hbv;have hok:=Wf.typed_bok 12 _ _ (Wf.gD (eN hvo).2).1;have HTB:=hid fun(P:Nat->Prop) (q g n c:Nat) (T:ByteArray) (sa:Option Addr) (W2 w2:World) (hv:VC W2 P y.2 [.int .u8 q,.string T,.int .i64 g,.slice sa n c]) (hb:Below W2.heap.size W2 w2)=>toBytes_i y.2 hok P q g n c T sa W2 w2 hv hb hl;obtain⟨R,hR⟩:∃ R:ByteArray,(⟨y.2.bytes.toArray⟩:ByteArray)=R:=⟨_,rfl⟩;have HD:=hid (show vfV (bytesVal s.data.toList kt.data.toList v.data.toList)=.tuple #[.string R,.bool true] by rw[hbv,<-hR];rfl);rw[show vfV (some y.2.bytes)=.tuple #[.string R,.bool true] by rw[<-hR];rfl] at HTB;obtain⟨SG,hSG⟩:∃ SG:ByteArray,(⟨y.1.2.signs.toArray⟩:ByteArray)=SG:=⟨_,rfl⟩;obtain⟨BS,hBS⟩:∃ BS:ByteArray,(⟨y.1.2.base.toArray⟩:ByteArray)=BS:=⟨_,rfl⟩;obtain⟨NM,hNM⟩:∃ NM:ByteArray,(⟨y.1.2.name.toArray⟩:ByteArray)=NM:=⟨_,rfl⟩;have hkv:kV y.1.2=.agg #[.string SG,.string BS,.string NM]:=by simp only[kV,tx,hSG,hBS,hNM]
  rw[hkv] at HO;clear hvo hbv hl hok hR hSG hBS hNM hkv;go_enter Tryz.func11,Tryz.ntmps11;go_wp2_with (first|(go_at_call 28;have _u:=HVC;refine(HTB.out _ q g n d T sa w2 _ HVC.out (((Below.refl _ _).alloc (Nat.le_refl _) _).alloc (by simp) _)).mono ?_;rintro e w3 ⟨rfl,hb3⟩;have B3:=hid (aC (((Below.refl w2.heap.size w2).alloc (Nat.le_refl _) _).alloc (by simp) _) hb3);clear hb3)|(go_at_call 27;refine HG.out.mono ?_;rintro e w2 ⟨ho,hb2⟩;obtain⟨sb,cs,rfl,_,hvc⟩:=HO.out _ _ _ ho;obtain⟨q,g,n,d,T,sa,rfl⟩:=hvc.cK;have HVC:=hid hvc;have HB2:=hid hb2;clear ho hb2 hvc))
  go_ret2
  exact⟨by rw[HD.out];rfl,HB2.out.trans (B3.out.mono HB2.out.size)⟩

theorem l1Put (n:Nat) (hn:n<=999999) (w:World):Calls Tryz.prog 53 #[.int .i64 n] w fun e w'=>e=.returned (tx (Wf.putN n))/\Below w.heap.size w w':=by
 have:=l1Put_any n n w (Int.le_refl _) (by omega) (by omega);simpa using this
theorem l5Len (s:ByteArray) (hs:s.size<=999999) (w:World):Calls Tryz.prog 54 #[.string s] w fun e w'=>e=.returned (tx (Wf.putN s.data.toList.length++s.data.toList))/\Below w.heap.size w w':=by
 have HP:=hid fun wz=>l1Put s.size hs wz;obtain⟨B,hB⟩:∃ B:ByteArray,(⟨(Wf.putN s.size).toArray⟩:ByteArray)=B:=⟨_,rfl⟩;have hBs:B.size<=3:=by rw[<-hB];exact(Wf.cB s.size hs).2
 have HF:=hid (show(⟨(Wf.putN s.data.toList.length++s.data.toList).toArray⟩:ByteArray)=B++s from
  ((aR (B++s) _).2 (by rw[ByteArray.data_append,Array.toList_append,<-hB,aD])).symm)
 have a1:=fun wz=>run_string_add_sum (P:=Tryz.prog) (w:=wz) B s (by omega);simp only[tx,hB] at HP;clear hB;go_enter Tryz.func54,Tryz.ntmps54;go_wp2_with (go_at_call 53;refine(HP.out _).mono ?_;rintro e w2 ⟨rfl,hb2⟩;have HB2:=hid hb2;clear hb2)
 go_ret
 exact⟨by rw[tx,HF.out];rfl,HB2.out⟩
section
variable (b:Nat) (KD:ByteArray) (w:World)
theorem lb_num (T:ByteArray) (m:Nat) (hm:m<=999999) (hT:T.data.toList=Wf.dec m) (hlt:b<w.heap.size) (hs:0<KD.size) (e0:∀ h,(KD[0]'h).toNat=110) (c0:w.cell? ⟨b,0,none⟩=some (.string KD)) (c1:w.cell? ⟨b,1,none⟩=some (.string T)) :
  Calls Tryz.prog 30 #[ptr b] w fun e w'=>e=.returned (tx (Wf.putN m))/\Below w.heap.size w w':=by
 have hTs:T.size<=6:=by rw[<-aD,hT];exact Wf.bW hm
 have HN:=hid fun wz=>(gZ T 999999 (Nat.le_refl _) wz (by omega)).mono (R':=fun e w'=>e=.returned (.tuple #[.int .i64 m,.bool true])/\Below wz.heap.size wz w') fun e w' ⟨h1,h2⟩=>⟨by unfold aY at h1;rw[hT,Wf.gU hm hm] at h1;exact h1,h2⟩;have HP:=hid fun wz=>l1Put m hm wz;obtain⟨B,hB⟩:∃ B:ByteArray,(⟨(Wf.putN m).toArray⟩:ByteArray)=B:=⟨_,rfl⟩;simp only[tx,hB] at HP ⊢;clear hT hB;go_enter Tryz.func30,Tryz.ntmps30;go_wp2_with (first|(go_at_call 53;refine(HP.out _).mono ?_;rintro e w3 ⟨rfl,hb3⟩;have B3:=hid (aC HB2.out hb3);clear hb3)|(go_at_call 52;refine(HN.out _).mono ?_;rintro e w2 ⟨rfl,hb2⟩;have HB2:=hid hb2;clear hb2))
 go_ret
 exact⟨rfl,B3.out⟩
theorem lb_txt (T X:ByteArray) (hX:T.data.toList=39::(X.data.toList++[39])) (hXs:X.size<=12) (hlt:b<w.heap.size) (hs:0<KD.size) (e0:∀ h,(KD[0]'h).toNat=116) (c0:w.cell? ⟨b,0,none⟩=some (.string KD)) (c1:w.cell? ⟨b,1,none⟩=some (.string T)) :
  Calls Tryz.prog 30 #[ptr b] w fun e w'=>e=.returned (tx (Wf.putN X.data.toList.length++X.data.toList))/\Below w.heap.size w w':=by
 have hTs:T.size=X.size+2:=by rw[<-aD,hX,<-aD];simp
 have HL:=hid fun wz=>l5Len X (by omega) wz;obtain⟨B,hB⟩:∃ B:ByteArray,(⟨(Wf.putN X.data.toList.length++X.data.toList).toArray⟩:ByteArray)=B:=⟨_,rfl⟩;simp only[tx,hB] at HL ⊢;have hx:T.extract 1 (T.size-1)=X:=by
  have h1:(T.extract 1 (T.size-1)).data.toList=X.data.toList:=by
   rw[bJ,hX,hTs,show X.size+2-1-1=X.size by omega,List.drop_succ_cons,List.drop_zero,<-aD,List.take_left]
  rw[dT _ _ h1]
 have kw:IntKind.i64.wrap ((T.size:Int)-1)=(T.size:Int)-1:=IntWalk.i64_in _ (by omega);have ks:∀ wz,(Instr.slice 9 (.string T) (some (.int .i64 1)) (some (.int .i64 ((T.size:Int)-1))) none).run Tryz.prog wz=.ok (.string X) wz:=fun wz=>by
  have h:=run_slice_string (P:=Tryz.prog) (w:=wz) 9 T .i64 .i64 1 ((T.size:Int)-1) Tryz.underlying9 (by omega) (by omega) (by omega);rw[h,show(1:Int).toNat=1 from rfl,show((T.size:Int)-1).toNat=T.size-1 by omega,hx]
 have ht2:(2:Int)<=(T.size:Int):=by omega
 have ht3:(T.size:Int)<=14:=by omega
 clear hX hB hx hTs;go_enter Tryz.func30,Tryz.ntmps30;go_wp2_with fail
 go_region_held3 (fun w'=>w'.cell? ⟨b,1,none⟩=some (.string T)) (first|exact j1|go_keep) ((go_at_call 54;refine(HL.out _).mono ?_;rintro e w3 ⟨rfl,hb3⟩;have TD:=hid (show Below w.heap.size w w3 by refine Below.trans (b:=_) ?_ hb3;repeat (first|with_reducible exact Below.refl _ _|with_reducible refine Below.drew ?_));have j1:=(TD.out.cell (p:=⟨b,1,none⟩) hlt).trans c1;clear hb3))
 all_goals go_wp2_with fail
 all_goals go_ret
 all_goals exact⟨rfl,TD.out⟩
theorem lb_flag (y:Bool) (hlt:b<w.heap.size) (hs:0<KD.size) (e0:∀ h,(KD[0]'h).toNat=102) (c0:w.cell? ⟨b,0,none⟩=some (.string KD)) (c1:w.cell? ⟨b,1,none⟩=some (tx (if y then [121,101,115] else [110,111]))) :
  Calls Tryz.prog 30 #[ptr b] w fun e w'=>e=.returned (tx (if y then [1] else [0]))/\Below w.heap.size w w':=by
 have hcv:=run_convert_lit (P:=Tryz.prog) 22 9 5 Tryz.underlying22 Tryz.underlying5 Tryz.underlying9;cases y
 ·rw[if_neg (by simp)] at c1 ⊢
  obtain⟨T,hT⟩:∃ T:ByteArray,(⟨#[110,111]⟩:ByteArray)=T:=⟨_,rfl⟩;have c1:w.cell? ⟨b,1,none⟩=some (.string T):=by rw[<-hT];exact c1
  have hTs:(T.size:Int)=2:=by rw[<-hT];rfl
  clear hT;go_enter Tryz.func30,Tryz.ntmps30;go_wp2_with fail
  go_ret
  exact⟨rfl,(Below.refl _ _).alloc (Nat.le_refl _) _⟩
 ·rw[if_pos rfl] at c1 ⊢
  obtain⟨T,hT⟩:∃ T:ByteArray,(⟨#[121,101,115]⟩:ByteArray)=T:=⟨_,rfl⟩;have c1:w.cell? ⟨b,1,none⟩=some (.string T):=by rw[<-hT];exact c1
  have hTs:(T.size:Int)=3:=by rw[<-hT];rfl
  clear hT;go_enter Tryz.func30,Tryz.ntmps30;go_wp2_with fail
  go_ret
  exact⟨rfl,(Below.refl _ _).alloc (Nat.le_refl _) _⟩
theorem lb_none (c:Nat) (a:Option Addr) (hlt:b<w.heap.size) (hs:0<KD.size) (e0:∀ h,(KD[0]'h).toNat=63) (c0:w.cell? ⟨b,0,none⟩=some (.string KD)) (c3:w.cell? ⟨b,3,none⟩=some (.slice a 0 c)) :
  Calls Tryz.prog 30 #[ptr b] w fun e w'=>e=.returned (tx [0])/\Below w.heap.size w w':=by
 have hcv:=run_convert_lit (P:=Tryz.prog) 22 9 5 Tryz.underlying22 Tryz.underlying5 Tryz.underlying9;go_enter Tryz.func30,Tryz.ntmps30;go_wp2_with fail
 go_ret
 exact⟨rfl,(Below.refl _ _).alloc (Nat.le_refl _) _⟩
theorem lb_some (kb o u c:Nat) (T:ByteArray) (hlt:b<w.heap.size) (hs:0<KD.size) (e0:∀ h,(KD[0]'h).toNat=63) (c0:w.cell? ⟨b,0,none⟩=some (.string KD)) (c3:w.cell? ⟨b,3,none⟩=some (.slice (some ⟨kb,o,none⟩) 1 c)) (hkb:kb<w.heap.size) (ck:w.cell? ⟨kb,o,none⟩=some (ptr u)) (h1:1<=c) (hc:c<=maxLen) (hT:T.size<=2000000)
  (hk:∀ wz,Below w.heap.size w wz->Calls Tryz.prog 30 #[ptr u] wz fun e w'=>e=.returned (.string T)/\Below wz.heap.size wz w') :
  Calls Tryz.prog 30 #[ptr b] w fun e w'=>e=.returned (tx (1::T.data.toList))/\Below w.heap.size w w':=by
 have HK:=hid hk;have HO:=hid (show(⟨#[1]⟩:ByteArray)++T=⟨(1::T.data.toList).toArray⟩ by rw[aR];simp);have hc1:=fun W a c=>run_convert_one (P:=Tryz.prog) 22 9 5 Tryz.underlying22 Tryz.underlying5 Tryz.underlying9 W a c 1;have a1:=fun wz=>run_string_add_sum (P:=Tryz.prog) (w:=wz) ⟨#[1]⟩ T (by show 1+T.size<=_;omega);unfold maxLen at hc;have F:=hid fun(wz:World) (hz:Below w.heap.size w wz)=>(show wz.cell? ⟨b,3,none⟩=some (.slice (some ⟨kb,o,none⟩) 1 c)/\wz.cell? ⟨kb,o,none⟩=some (ptr u) from⟨(hz.cell (p:=⟨b,3,none⟩) hlt).trans c3,(hz.cell (p:=⟨kb,o,none⟩) hkb).trans ck⟩);clear hk;go_enter Tryz.func30,Tryz.ntmps30;go_wp2_with fail
 go_region_with (go_at_call 30;refine(HK.out _ (by repeat (first|with_reducible exact Below.refl _ _|with_reducible refine Below.drew ?_|with_reducible refine Below.alloc ?_ (by simp) _))).mono ?_;rintro e w2 ⟨rfl,hb2⟩;have TD:=hid (show Below w.heap.size w w2 by refine Below.trans (b:=_) ?_ (hb2.mono (by simp));repeat (first|with_reducible exact Below.refl _ _|with_reducible refine Below.drew ?_|with_reducible refine Below.alloc ?_ (by simp) _));have hc:=(bcell hb2).1;clear hb2)
 all_goals go_wp2_with fail
 all_goals go_ret
 all_goals first|exact⟨aV HO.out,TD.out⟩|exact⟨aV HO.out,TD.out.alloc TD.out.size _⟩
theorem lb_list (kb:Nat) (kv:Value) (bs:List Nat) (ps:List (List UInt8)) (hlt:b<w.heap.size) (hs:0<KD.size) (e0:∀ h,(KD[0]'h).toNat=91) (c0:w.cell? ⟨b,0,none⟩=some (.string KD)) (c3:w.cell? ⟨b,3,none⟩=some kv) (hrow:aH w kb kv (bs.map ptr)) (hl:bs.length=ps.length) (hn:ps.length<=1000) (hsz:ps.flatten.length<=2000000)
  (hk:∀ i (h1:i<bs.length) (h2:i<ps.length) wz,Below w.heap.size w wz->Calls Tryz.prog 30 #[ptr bs[i]] wz fun e w'=>e=.returned (tx ps[i])/\Below wz.heap.size wz w') :
  Calls Tryz.prog 30 #[ptr b] w fun e w'=>e=.returned (tx (Wf.putN ps.length++ps.flatten))/\Below w.heap.size w w':=by
 obtain⟨a,c,rfl,hnc,hcm⟩:=hrow.form;obtain⟨m,hm⟩:∃ m,(bs.map ptr).length=m:=⟨_,rfl⟩;have hbm:bs.length=m:=by rw[<-hm,List.length_map]
 have hpm:ps.length=m:=by omega
 have hm6:m<=1000:=by omega
 rw[hpm];obtain⟨B,hB⟩:∃ B:ByteArray,(⟨(Wf.putN m).toArray⟩:ByteArray)=B:=⟨_,rfl⟩;have hBs:B.size<=3:=by rw[<-hB];exact(Wf.cB m (by omega)).2
 have HBL:=hid (show B.data.toList=Wf.putN m by rw[<-hB]);have HP:=hid fun wz=>l1Put m (by omega) wz;simp only[tx,hB] at HP;have HBM:=hid hbm;have HPM:=hid hpm;have HMM:=hid hm;rw[hm] at c3 hrow hnc;have HROW:=hid hrow;have HK:=hid hk;have HSZ:=hid hsz;have HFT:=hid fun(i:Nat) (hi:i<ps.length)=>(show(ps.take (i+1)).flatten=(ps.take i).flatten++ps[i] by
  have e:ps.take (i+1)=ps.take i++[ps[i]]:=by rw[List.take_add_one,List.getElem?_eq_getElem hi];rfl
  rw[e,List.flatten_append,List.flatten_cons,List.flatten_nil,List.append_nil])
 have HFL:=hid fun(i:Nat)=>(show(ps.take i).flatten.length<=2000000 by
  refine Nat.le_trans ?_ hsz;conv=>rhs;rw[<-List.take_append_drop i ps,List.flatten_append,List.length_append]
  omega)
 unfold maxLen at hcm;clear hrow hk hl hsz hm hbm hpm hB;go_enter Tryz.func30,Tryz.ntmps30;go_wp2_with (go_at_call 53;refine(HP.out _).mono ?_;rintro e w2 ⟨rfl,hb2⟩;have HB2:=hid hb2;clear hb2)
 go_loopw [5,6] (fun s5 s6 wr=>∃ (i:Nat) (S:ByteArray),s5=.string S/\s6=.int .i64 i/\i<=m/\S.size<=2000003/\Hid (S.data.toList=Wf.putN m++(ps.take i).flatten/\Below w.heap.size w wr)) (fun _ s6 _=>m-(RowKit.intOf s6).toNat)
 case atStart=>exact⟨0,B,rfl,rfl,Nat.zero_le _,by omega,hid ⟨by rw[HBL.out];simp,HB2.out⟩⟩
 case round =>
  obtain⟨i,S,rfl,rfl,hi,hS,hh⟩:=hrel;have hbw:b<wr.heap.size:=Nat.lt_of_lt_of_le hlt hh.out.2.size;have y3:=(hh.out.2.cell (p:=⟨b,3,none⟩) hlt).trans c3;by_cases hlt2:i<m
  ·have hib:i<bs.length:=by rw[HBM.out];exact hlt2
   have hip:i<ps.length:=(by rw[HPM.out];exact hlt2);obtain⟨o,rfl,hkb,_,_,ck⟩:=HROW.out.get (i:=i) (by rw[HMM.out];exact hlt2);rw[List.getElem_map] at ck;obtain⟨u,hu⟩:∃ u,bs[i]=u:=⟨_,rfl⟩;obtain⟨T,hT⟩:∃ T:ByteArray,(⟨(ps[i]).toArray⟩:ByteArray)=T:=⟨_,rfl⟩;rw[hu] at ck;have hkw:kb<wr.heap.size:=Nat.lt_of_lt_of_le hkb hh.out.2.size;have yk:=(hh.out.2.cell (p:=⟨kb,o+i,none⟩) hkb).trans ck;have HC:=hid (show Calls Tryz.prog 30 #[ptr u] wr fun e w'=>e=.returned (.string T)/\Below wr.heap.size wr w' by
    have:=HK.out i hib hip wr hh.out.2;rw[hu] at this;simp only[tx,hT] at this;exact this)
   have hft:=HFT.out i hip;have hfl:=HFL.out (i+1);have hpl:(Wf.putN m).length<=3:=(Wf.cB m (by omega)).2;have HE:=hid (show(S++T).data.toList=Wf.putN m++(ps.take (i+1)).flatten by
    rw[hft,ByteArray.data_append,Array.toList_append,hh.out.1,<-hT,List.append_assoc])
   have hST:(S++T).size<=2000003:=by
    rw[<-aD,HE.out,List.length_append];omega
   have hTs:S.size+T.size<=2000003:=(by rw[<-ByteArray.size_append];exact hST);clear hu hT ck hft hfl;go_wp2_with (go_at_call 30;refine HC.out.mono ?_;rintro e w2 ⟨rfl,hb2⟩;have HB3:=hid hb2;clear hb2)
   go_roundw
   case rel=>exact⟨i+1,S++T,by rfl,by go_num,by omega,hST,hid ⟨HE.out,hh.out.2.trans (HB3.out.mono hh.out.2.size)⟩⟩
   case measure=>simp[RowKit.intOf];omega
  ·have him:i=m:=by omega
   subst him;have HE:=hid (show S=⟨(Wf.putN i++ps.flatten).toArray⟩ by
    rw[aR,hh.out.1,List.take_of_length_le (by rw[HPM.out];exact Nat.le_refl _)])
   go_wp2_with fail
   go_ret
   exact⟨aV HE.out,hh.out.2⟩
theorem lb_named (T O:ByteArray) (y:Bool) (hy:(T.toList==[82])=y) (tb kb:Nat) (tv kv:Value) (gs bs:List Nat) (ps Q:List (List UInt8)) (hlt:b<w.heap.size) (hs:0<KD.size) (e0:∀ h,(KD[0]'h).toNat=64) (c0:w.cell? ⟨b,0,none⟩=some (.string KD)) (c1:w.cell? ⟨b,1,none⟩=some (.string T)) (c2:w.cell? ⟨b,2,none⟩=some tv) (c3:w.cell? ⟨b,3,none⟩=some kv) (hrt:aH w tb tv (gs.map ix)) (hrow:aH w kb kv (bs.map ptr)) (hlp:bs.length=ps.length) (hgl:Q.length=gs.length) (hn:gs.length<=1000)
  (hg:∀ g∈gs,g<=999999) (hsz:Q.flatten.length<=2000000) (hO:O.data.toList=Q.flatten++(if y then [0] else []))
  (hQ:∀ i (h1:i<Q.length) (h2:i<gs.length),(∃ h3:i<ps.length,ps[i].length<=999999/\Q[i]=Wf.putN gs[i]++(Wf.putN ps[i].length++ps[i]))\/(ps.length<=i/\Q[i]=Wf.putN gs[i]))
  (hk:∀ i (h1:i<bs.length) (h2:i<ps.length) wz,Below w.heap.size w wz->Calls Tryz.prog 30 #[ptr bs[i]] wz fun e w'=>e=.returned (tx ps[i])/\Below wz.heap.size wz w') :
  Calls Tryz.prog 30 #[ptr b] w fun e w'=>e=.returned (.string O)/\Below w.heap.size w w':=by
 obtain⟨a,c,rfl,hnc,hcm⟩:=hrow.form;obtain⟨ta,tc,rfl,htc,htm⟩:=hrt.form;obtain⟨k,hkk⟩:∃ k,(bs.map ptr).length=k:=⟨_,rfl⟩;obtain⟨m,hm⟩:∃ m,(gs.map ix).length=m:=⟨_,rfl⟩;have hbk:bs.length=k:=by rw[<-hkk,List.length_map]
 have hpk:ps.length=k:=by omega
 have hgm:gs.length=m:=by rw[<-hm,List.length_map]
 have hqm:Q.length=m:=by omega
 have hm6:m<=1000:=by omega
 have HKK:=hid hkk;have HMM:=hid hm;have HBK:=hid hbk;have HPK:=hid hpk;have HGM:=hid hgm;have HQM:=hid hqm;rw[hkk] at c3 hrow hnc;rw[hm] at c2 hrt htc;have HROW:=hid hrow;have HRT:=hid hrt;have HK:=hid hk;have HG:=hid hg;have HQ:=hid hQ;have HO:=hid hO;have HFT:=hid fun(i:Nat) (hi:i<Q.length)=>(show(Q.take (i+1)).flatten=(Q.take i).flatten++Q[i] by
  have e:Q.take (i+1)=Q.take i++[Q[i]]:=by rw[List.take_add_one,List.getElem?_eq_getElem hi];rfl
  rw[e,List.flatten_append,List.flatten_cons,List.flatten_nil,List.append_nil])
 have HFL:=hid fun(i:Nat)=>(show(Q.take i).flatten.length<=2000000 by
  refine Nat.le_trans ?_ hsz;conv=>rhs;rw[<-List.take_append_drop i Q,List.flatten_append,List.length_append]
  omega)
 have hcv:=run_convert_lit (P:=Tryz.prog) 22 9 5 Tryz.underlying22 Tryz.underlying5 Tryz.underlying9;have HCV:=hid hcv;unfold maxLen at hcm htm;clear hrow hk hlp hsz hm hkk hbk hpk hrt hg hgm hqm hQ hgl hO hcv;go_enter Tryz.func30,Tryz.ntmps30;go_wp2_with fail
 go_loopw [7,8] (fun s7 s8 wr=>∃ (i:Nat) (S:ByteArray),s7=.string S/\s8=.int .i64 i/\i<=m/\S.size<=2000000/\Hid (S.data.toList=(Q.take i).flatten/\Below w.heap.size w wr)) (fun _ s8 _=>m-(RowKit.intOf s8).toNat)
 case atStart=>exact⟨0,⟨#[]⟩,rfl,rfl,Nat.zero_le _,by decide,hid ⟨rfl,Below.refl _ _⟩⟩
 case round =>
  obtain⟨i,S,rfl,rfl,hi,hS,hh⟩:=hrel;have hbw:b<wr.heap.size:=Nat.lt_of_lt_of_le hlt hh.out.2.size;have y2:=(hh.out.2.cell (p:=⟨b,2,none⟩) hlt).trans c2;by_cases hlt2:i<m
  ·have hig:i<gs.length:=by rw[HGM.out];exact hlt2
   have hiq:i<Q.length:=(by rw[HQM.out];exact hlt2);obtain⟨p,rfl,htb,_,_,ct⟩:=HRT.out.get (i:=i) (by rw[HMM.out];exact hlt2);rw[List.getElem_map] at ct;obtain⟨g,hgi⟩:∃ g,gs[i]=g:=⟨_,rfl⟩;have hg6:g<=999999:=(by rw[<-hgi];exact HG.out _ (List.getElem_mem hig));rw[hgi] at ct;have hct:ix g=.int .i64 g:=rfl;rw[hct] at ct;have htw:tb<wr.heap.size:=Nat.lt_of_lt_of_le htb hh.out.2.size;have yt:=(hh.out.2.cell (p:=⟨tb,p+i,none⟩) htb).trans ct;have HD:=hid fun wz=>l1Put g hg6 wz;obtain⟨D,hD⟩:∃ D:ByteArray,(⟨(Wf.putN g).toArray⟩:ByteArray)=D:=⟨_,rfl⟩;have hDl:D.data.toList=Wf.putN g:=(by rw[<-hD]);have hDs:D.size<=3:=(by rw[<-hD];exact(Wf.cB g hg6).2);simp only[tx,hD] at HD;have hft:=HFT.out i hiq;have hfl:=HFL.out (i+1);have a1:=fun wz=>run_string_add_sum (P:=Tryz.prog) (w:=wz) S D (by omega);have n1:(0:Int)<=(i:Int):=(by omega);have n2:(i:Int)<(m:Int):=(by omega);have hq:=HQ.out i hiq hig;rw[hgi] at hq;clear hct ct hgi hD;rcases hq with⟨hip,hpl,hqe⟩|⟨hip,hqe⟩
   ·have hik:i<k:=by rw[<-HPK.out];exact hip
    have hib:i<bs.length:=(by rw[HBK.out];exact hik);have n3:(i:Int)<(k:Int):=(by omega);have y3:=(hh.out.2.cell (p:=⟨b,3,none⟩) hlt).trans c3;obtain⟨o,rfl,hkb,_,_,ck⟩:=HROW.out.get (i:=i) (by rw[HKK.out];exact hik);rw[List.getElem_map] at ck;obtain⟨u,hu⟩:∃ u,bs[i]=u:=⟨_,rfl⟩;obtain⟨X,hX⟩:∃ X:ByteArray,(⟨(ps[i]).toArray⟩:ByteArray)=X:=⟨_,rfl⟩;have hXl:X.data.toList=ps[i]:=(by rw[<-hX]);have hXs:X.size=ps[i].length:=(by rw[<-hX];rfl);rw[hu] at ck;have hkw:kb<wr.heap.size:=Nat.lt_of_lt_of_le hkb hh.out.2.size;have yk:=(hh.out.2.cell (p:=⟨kb,o+i,none⟩) hkb).trans ck;have HC:=hid fun(wz:World) (hz:Below wr.heap.size wr wz)=>(show Calls Tryz.prog 30 #[ptr u] wz fun e w'=>e=.returned (.string X)/\Below wz.heap.size wz w' by
     have:=HK.out i hib hip wz (hh.out.2.trans (hz.mono hh.out.2.size));rw[hu] at this;simp only[tx,hX] at this;exact this)
    have HL:=hid fun wz=>l5Len X (by omega) wz;obtain⟨Z,hZ⟩:∃ Z:ByteArray,(⟨(Wf.putN X.data.toList.length++X.data.toList).toArray⟩:ByteArray)=Z:=⟨_,rfl⟩;have hZl:Z.data.toList=Wf.putN ps[i].length++ps[i]:=(by rw[<-hZ,<-hXl]);simp only[tx,hZ] at HL;have HE:=hid (show(S++D++Z).data.toList=(Q.take (i+1)).flatten by
     rw[hft,hqe,ByteArray.data_append,ByteArray.data_append,Array.toList_append,Array.toList_append,hh.out.1,hDl,hZl,List.append_assoc])
    have hSZ:(S++D++Z).size<=2000000:=(by rw[<-aD,HE.out];exact hfl);have a2:=fun wz=>run_string_add_sum (P:=Tryz.prog) (w:=wz) (S++D) Z (by rw[<-ByteArray.size_append];omega);clear hu hX ck hZ hZl hXl hXs hft hfl hqe hpl hDl;go_wp2_with (first|(go_at_call 54;have _u:=HB3;refine(HL.out _).mono ?_;rintro e w4 ⟨rfl,hb4⟩;have HB4:=hid (HB3.out.trans (hb4.mono HB3.out.size));clear hb4)|(go_at_call 30;have _u:=HB2;refine(HC.out _ HB2.out).mono ?_;rintro e w3 ⟨rfl,hb3⟩;have HB3:=hid (HB2.out.trans (hb3.mono HB2.out.size));clear hb3)|(go_at_call 53;refine(HD.out _).mono ?_;rintro e w2 ⟨rfl,hb2⟩;have HB2:=hid hb2;have z3:=(hb2.cell (p:=⟨b,3,none⟩) hbw).trans y3;have zk:=(hb2.cell (p:=⟨kb,o+i,none⟩) hkw).trans yk;have zl1:=Nat.lt_of_lt_of_le hbw hb2.size;have zl2:=Nat.lt_of_lt_of_le hkw hb2.size;clear hb2))
    go_roundw
    case rel=>exact⟨i+1,S++D++Z,by rfl,by go_num,by omega,hSZ,hid ⟨HE.out,hh.out.2.trans (HB4.out.mono hh.out.2.size)⟩⟩
    case measure=>simp[RowKit.intOf];omega
   ·have hik:k<=i:=by rw[<-HPK.out];exact hip
    have n3:¬ (i:Int)<(k:Int):=(by omega);have y3:=(hh.out.2.cell (p:=⟨b,3,none⟩) hlt).trans c3;have HE:=hid (show(S++D).data.toList=(Q.take (i+1)).flatten by
     rw[hft,hqe,ByteArray.data_append,Array.toList_append,hh.out.1,hDl])
    have hSZ:(S++D).size<=2000000:=(by rw[<-aD,HE.out];exact hfl);clear hft hfl hqe hDl;go_wp2_with (go_at_call 53;refine(HD.out _).mono ?_;rintro e w2 ⟨rfl,hb2⟩;have HB2:=hid hb2;have z3:=(hb2.cell (p:=⟨b,3,none⟩) hbw).trans y3;have zl1:=Nat.lt_of_lt_of_le hbw hb2.size;clear hb2)
    go_roundw
    case rel=>exact⟨i+1,S++D,by rfl,by go_num,by omega,hSZ,hid ⟨HE.out,hh.out.2.trans (HB2.out.mono hh.out.2.size)⟩⟩
    case measure=>simp[RowKit.intOf];omega
  ·have him:i=m:=by omega
   subst him;have y1:=(hh.out.2.cell (p:=⟨b,1,none⟩) hlt).trans c1;have hSl:=hh.out.1;rw[List.take_of_length_le (by rw[HQM.out];exact Nat.le_refl _)] at hSl;have hcv:=HCV.out;cases y with
   | true =>
    have HE:=hid (show S++(⟨#[0]⟩:ByteArray)=O from by
     have h1:(S++(⟨#[0]⟩:ByteArray)).data.toList=O.data.toList:=by
      rw[HO.out,if_pos rfl,ByteArray.data_append,Array.toList_append,hSl]
     rw[dT _ _ h1])
    clear hSl;go_wp2_with fail
    go_ret
    exact⟨aV HE.out,hh.out.2.alloc hh.out.2.size _⟩
   | false =>
    have HE:=hid (show S=O from by
     have h1:S.data.toList=O.data.toList:=(by rw[HO.out,if_neg (by simp),List.append_nil,hSl]);rw[dT _ _ h1])
    clear hSl hcv;go_wp2_with fail
    go_ret
    exact⟨aV HE.out,hh.out.2⟩
end

theorem flat_kid {l:List Wf.V} {v:Wf.V} (h:v∈l):v.print.length<=(Wf.commas (l.map Wf.V.print)).length:=Wf.eB (List.mem_map.2 ⟨v,h,rfl⟩)
theorem lbytes {x:Wf.Sc}:∀ (n:Nat) (k:Wf.K) (v:Wf.V),Wf.Typed x n k v->∀ (P:Nat->Prop) (b:Nat) (W w:World),LV W P v b->Below W.heap.size W w->v.print.length<=10000->Calls Tryz.prog 30 #[ptr b] w fun e w'=>e=.returned (tx v.bytes)/\Below w.heap.size w w':=by
 intro n;induction n with
 | zero=>intro k v h;exact h.elim
 | succ n ih =>
  intro k v h P b W w hL hW hlen;have hbl:=Wf.hM (n+1) k v h (by omega);obtain⟨hlt,kd,t,tv,kv,tb,kb,bs,c0,c1,c2,c3,r1,r2,hs,hk⟩:=hL.at (Wf.sL h) hW;cases k with
  | num =>
   obtain⟨m,hm,rfl⟩:=h;simp only[Wf.V.what,Wf.V.text,aZ] at hs;obtain⟨h1,h2⟩:=bE hs.1;rw[Wf.qU];exact lb_num b ⟨kd.toArray⟩ w ⟨t.toArray⟩ m hm hs.2 hlt h1 h2 c0 c1
  | txt =>
   obtain⟨d,_,hd,rfl⟩:=h;simp only[Wf.V.what,Wf.V.text,aZ] at hs;obtain⟨h1,h2⟩:=bE hs.1;rw[Wf.pN];exact lb_txt b ⟨kd.toArray⟩ w ⟨t.toArray⟩ ⟨d.toArray⟩ hs.2 hd hlt h1 h2 c0 c1
  | flag =>
   rcases h with rfl|rfl;all_goals simp only[Wf.V.what,Wf.V.text,aZ] at hs
   all_goals obtain⟨h1,h2⟩:=bE hs.1
   ·rw[Wf.nG]
    exact lb_flag b ⟨kd.toArray⟩ w true hlt h1 h2 c0 (by rw[c1];congr 1;rw[hs.2];rfl)
   ·rw[Wf.pK]
    exact lb_flag b ⟨kd.toArray⟩ w false hlt h1 h2 c0 (by rw[c1];congr 1;rw[hs.2];rfl)
  | list k =>
   obtain⟨l,h20,hl,rfl⟩:=h;simp only[Wf.V.what,Wf.V.text,Wf.V.kids,aZ] at hs hk;obtain⟨h1,h2⟩:=bE hs.1;rw[Wf.dG] at hlen;rw[Wf.dG,Wf.mL] at hbl;have hcl:(Wf.commas (l.map Wf.V.print)).length<=10000:=(by simp at hlen;omega);have:=lb_list b ⟨kd.toArray⟩ w kb kv bs (l.map Wf.V.bytes) hlt h1 h2 c0 c3 r2 (by rw[hk.len,List.length_map]) (by rw[List.length_map];omega) (by simp only[List.length_append,List.length_cons,List.length_nil] at hbl hlen;omega) fun i g1 g2 wz hz=>by
    have g3:i<l.length:=(by simpa using g2);rw[List.getElem_map];exact ih k l[i] (hl _ (List.getElem_mem g3)) P bs[i] W wz (hk.get i g3 g1) (hW.trans (hz.mono hW.size)) (Nat.le_trans (flat_kid (List.getElem_mem g3)) hcl)
   rw[Wf.mL];rw[List.length_map] at this;exact this
  | opt k =>
   rcases h with rfl|⟨u,hu,rfl⟩
   ·simp only[Wf.V.what,Wf.V.text,Wf.V.kids,aZ] at hs hk
    obtain⟨h1,h2⟩:=bE hs.1;obtain rfl:=hk.none;obtain⟨a,c,rfl,_,_⟩:=r2.form;rw[Wf.sZ];exact lb_none b ⟨kd.toArray⟩ w c a hlt h1 h2 c0 c3
   ·simp only[Wf.V.what,Wf.V.text,Wf.V.kids,aZ] at hs hk
    obtain⟨h1,h2⟩:=bE hs.1;obtain⟨ub,rfl,hu2⟩:=hk.one;obtain⟨a,c,rfl,hnc,hcm⟩:=r2.form;obtain⟨o,rfl,hkb,_,_,ck⟩:=r2.get (i:=0) (by simp);rw[Wf.dV] at hlen;rw[Wf.dV,Wf.mC] at hbl;simp only[List.length_cons] at hlen hbl;rw[Wf.mC];exact lb_some b ⟨kd.toArray⟩ w kb o ub c ⟨u.bytes.toArray⟩ hlt h1 h2 c0 c3 hkb ck hnc hcm (by show u.bytes.length<=_;omega) fun wz hz=>ih k u hu P ub W wz hu2 (hW.trans (hz.mono hW.size)) (by omega)
  | ref nm =>
   obtain⟨ty,hty,h⟩:=h;rcases h with⟨_,f,hf,hf2,rfl⟩|⟨_,_,f,u,hf,hf2,hu,rfl⟩|⟨_,_,l,hasc,hl,rfl⟩
   ·simp only[Wf.V.what,Wf.V.text,Wf.V.kids,Wf.V.tag,aZ] at hs hk r1
    obtain⟨h1,h2⟩:=bE hs.1;have htl:t=[69]:=hs.2;subst htl;obtain rfl:=hk.none;rw[Wf.tQ];have r1':aH w tb tv ([f.tag].map ix):=(by simpa[bG] using r1);refine lb_named b ⟨kd.toArray⟩ w ⟨[69].toArray⟩ ⟨(Wf.putN f.tag).toArray⟩ false (by rw[ByteArray.toList_eq];rfl) tb kb tv kv [f.tag] [] [] [Wf.putN f.tag] hlt h1 h2 c0 c1 c2 c3 r1' r2 rfl rfl (by simp) (by simp;omega) ?_ (by simp) ?_ ?_
    ·have:=(Wf.cB f.tag (by omega)).2;simp;omega
    ·intro i h1 h2
     obtain rfl:i=0:=by simp at h1;omega
     exact .inr ⟨by simp,rfl⟩
    ·intro i h1;simp at h1
   ·simp only[Wf.V.what,Wf.V.text,Wf.V.kids,Wf.V.tag,aZ] at hs hk r1
    obtain⟨h1,h2⟩:=bE hs.1;have htl:t=[85]:=hs.2;subst htl;obtain⟨ub,rfl,hu2⟩:=hk.one;rw[Wf.eK] at hlen;rw[Wf.nC] at hbl ⊢;have hul:u.print.length<=10000:=(by simp only[List.length_append,List.length_cons,List.length_nil] at hlen;omega);have hub:=Wf.hM n f.kind u hu (by omega);have r1':aH w tb tv ([f.tag].map ix):=(by simpa[bG] using r1);refine lb_named b ⟨kd.toArray⟩ w ⟨[85].toArray⟩ ⟨(Wf.putN f.tag++(Wf.putN u.bytes.length++u.bytes)).toArray⟩ false (by rw[ByteArray.toList_eq];rfl) tb kb tv kv [f.tag] [ub] [u.bytes] [Wf.putN f.tag++(Wf.putN u.bytes.length++u.bytes)] hlt h1 h2 c0 c1 c2 c3 r1' r2 rfl rfl (by simp) (by simp;omega) ?_ (by simp) ?_ ?_
    ·have:=(Wf.cB f.tag (by omega)).2
     have:=(Wf.cB u.bytes.length (by omega)).2;simp only[List.flatten_cons,List.flatten_nil,List.append_nil,List.length_append];omega
    ·intro i h1 h2
     obtain rfl:i=0:=by simp at h1;omega
     exact .inl ⟨by simp,by show u.bytes.length<=_;omega,rfl⟩
    ·intro i h1 h2 wz hz
     obtain rfl:i=0:=by simp at h1;omega
     exact ih f.kind u hu P ub W wz hu2 (hW.trans (hz.mono hW.size)) hul
   ·simp only[Wf.V.what,Wf.V.text,Wf.V.kids,Wf.V.tag,aZ] at hs hk r1
    obtain⟨h1,h2⟩:=bE hs.1;have htl:t=[82]:=hs.2;subst htl;rw[lT] at r1;have hk2:=hk.fields;have hbs:bs.length=l.length:=(by rw[hk2.len,List.length_map]);rw[Wf.cV] at hlen;rw[Wf.lC] at hbl ⊢;have hcl:(Wf.commas ((l.map fun e=>Wf.V.mk 61 [] e.1.tag [e.2]).map Wf.V.print)).length<=10000:=(by simp only[List.length_cons,List.length_append,List.length_nil] at hlen;omega);have hpr:∀ e∈l,e.2.print.length<=10000:=fun e he=>by
     have h3:=Wf.eB (l:=(l.map fun e=>Wf.V.mk 61 [] e.1.tag [e.2]).map Wf.V.print) (a:=(Wf.V.mk 61 [] e.1.tag [e.2]).print) (List.mem_map.2 ⟨_,List.mem_map.2 ⟨e,he,rfl⟩,rfl⟩);rw[Wf.eJ] at h3;simp only[List.length_append,List.length_cons] at h3;omega
    have hll:l.length<=1000:=by
     have:=(Wf.typed_bok (n+1) (.ref nm) _ ⟨ty,hty,.inr (.inr ⟨‹_›,‹_›,l,hasc,hl,rfl⟩)⟩);cases this with
     | mk _ _ _ _ _ h6 _ _=>simpa using h6
    refine lb_named b ⟨kd.toArray⟩ w ⟨[82].toArray⟩ ⟨(((l.map fun(e:Wf.Fd × Wf.V)=>Wf.V.mk 61 [] e.1.tag [e.2]).map Wf.V.bytes).flatten++[0]).toArray⟩ true (by rw[ByteArray.toList_eq];rfl) tb kb tv kv (l.map fun e=>e.1.tag) bs (l.map fun e=>e.2.bytes) ((l.map fun e=>Wf.V.mk 61 [] e.1.tag [e.2]).map Wf.V.bytes) hlt h1 h2 c0 c1 c2 c3 r1 r2 (by rw[List.length_map,hbs]) (by simp) (by simpa using hll) (fun g hg=>?_) ?_ rfl ?_ ?_
    ·obtain⟨e,he,rfl⟩:=List.mem_map.1 hg
     have:=(hl e he).2.2.1;omega
    ·rw[List.length_append] at hbl
     have hpl:(Wf.V.mk 82 [] 0 (l.map fun(e:Wf.Fd × Wf.V)=>Wf.V.mk 61 [] e.1.tag [e.2])).print.length<=10000:=(by rw[Wf.cV];exact hlen);omega
    ·intro i g1 g2
     have g3:i<l.length:=(by simpa using g2);have he:=List.getElem_mem g3;have:=Wf.hM n _ _ (hl _ he).2.2.2.1 (by have:=hpr _ he;omega);have:=hpr _ he;refine .inl ⟨by simpa using g3,by simp only[List.getElem_map];omega,?_⟩;simp only[List.getElem_map];exact Wf.jG _ _
    ·intro i g1 g2 wz hz
     have g3:i<l.length:=(by simpa using g2);have g4:i<(l.map (·.2)).length:=(by simpa using g3);have hv:=hk2.get i g4 g1;rw[List.getElem_map] at hv;rw[List.getElem_map];exact ih (l[i]).1.kind (l[i]).2 (hl _ (List.getElem_mem g3)).2.2.2.1 P bs[i] W wz hv (hW.trans (hz.mono hW.size)) (hpr _ (List.getElem_mem g3))
