/- Packed. -/
import Derived.Test.YtidjpalnmnehmaaGreatDoorG30
set_option maxRecDepth 99999
set_option maxHeartbeats 40000000
set_option linter.all false
namespace Go.Proofs.YtidjpalnmnehmaaGreatDoor
open Go.ChangeShapes Go.WideShapes Go.ChangeAt Go.RowKit Go.Lib
def RcOut (o:Option (List Wf.V × List Nat × List UInt8)) (s:List UInt8) (rb sb:Nat) (D:Nat) (w:World) (e:Ending) (w':World):Prop :=
 ∃ cs l r sk',e=.returned (.agg cs.toArray)/\VC w' (fun b=>w.heap.size<=b) (.mk 82 [] 0 l) cs/\aA rb w w'/\r.length<=s.length/\(D≠1->sk'=.slice none 0 0) /\
  ((∃ L,o=some (l,L,r)/\Br w' rb sb r false sk' D/\(D=1->w'.ownsRow w.heap.size 3 1 sk' L.length (L.map ix)))\/(o=none/\Br w' rb sb r true sk' D))
def Brel (x:Wf.Sc) (t:Wf.Ty) (p:Wf.K->Wf.Reads) (T:Option (List Wf.V × List Nat × List UInt8)) (last:Nat) (cur:List UInt8) (bad:Bool) (l:List Wf.V) (L:List Nat):Prop :=
 (bad=false/\T=(Wf.recB x t p last cur).map fun y=>(l++y.1,L++y.2.1,y.2.2))\/(bad=true/\T=none)
theorem Br.size {W:World} {rb sb:Nat} {s:List UInt8} {bad:Bool} {sk:Value} {d:Nat} (h:Br W rb sb s bad sk d):eY W rb=s.length:=by
 unfold eY;rw[h.c1];simp[ByteArray.size]
theorem owns_base {w:World} {b b':Nat} {e:TypeId} {size n:Nat} {v:Value} {xs:List Value} (h:w.ownsRow b e size v n xs) (hb:b'<=b):w.ownsRow b' e size v n xs:=by
 obtain⟨h1,h2|⟨g,cap,cur,h3,h4,h5,h6⟩⟩:=h
 ·exact⟨h1,.inl h2⟩
 ·exact⟨h1,.inr ⟨g,cap,cur,h3,zaI hb h4,h5,h6⟩⟩
theorem Rk.out {w wr W4:World} {rb sb:Nat} {cur:List UInt8} {bad:Bool} {sk:Value} {D:Nat} {a:Option Addr} {c m:Nat} {l:List Wf.V} {es:List (List Value)} {L M:List Nat} {s:List UInt8} {o:Option (List Wf.V × List Nat × List UInt8)} (h:Rk w wr rb sb cur bad sk D a c l es L) (hrb:rb<w.heap.size) (hm:es.length=m) (hb:aA w.heap.size wr W4) (hl:cur.length<=s.length) (hM:D=1->M=L) (ho:(o=some (l,M,cur)/\bad=false)\/(o=none/\bad=true)):RcOut o s rb sb D w (.returned (.agg #[.int .u8 82,.string ⟨#[]⟩,.int .i64 0,.slice a m c])) W4:=by
 obtain⟨hv,hf⟩:=h.bld.out hb (zaA) (by omega) hm 82 [] 0 ⟨by omega,fun _=>.inr (.inr (.inr (.inl rfl))),fun h=>absurd h (by decide)⟩;have hbr:=h.br.beside hb (by omega);refine⟨[.int .u8 82,.string ⟨#[]⟩,.int .i64 0,.slice a m c],l,cur,sk,rfl,hv,hf,hl,h.low,?_⟩;rcases ho with⟨h1,rfl⟩|⟨h1,rfl⟩
 ·exact .inl ⟨M,h1,hbr,fun hD=>by rw[hM hD];exact owns_base (cT h.own hb (by omega)) (by omega)⟩
 ·exact .inr ⟨h1,hbr⟩
theorem aR.ptr {W:World} {t:Wf.Ty} {g:Int} {e:Ending} (h:aR W t g e):∃ q,e=.returned (.pointer q):=by
 unfold aR at h;split at h
 ·obtain⟨fb,o,h,_⟩:=h
  exact⟨_,h⟩
 ·exact⟨_,h⟩
theorem brec (x:Wf.Sc) (hx:Wf.ScOk x) (t:Wf.Ty) (htx:t∈x) (n rb sb:Nat) (W:World) (s:List UInt8) (D:Nat) (w:World) (lo tb:Nat) (hW:Below W.heap.size W w) (hWr:W.heap.size<=rb) (hsc:ScL W lo sb x) (hT:TyL W lo tb t) (ht:t.fields.length<=1000) (h82:t.sort=82) (IH:∀ f∈t.fields,Rb x sb W n f.kind) (hs:s.length<=600) (hd:n+D=13) (hD1:1<=D) (H:Br w rb sb s false (.slice none 0 0) D) :
  Calls Tryz.prog 100 #[ptr rb,ptr tb] w fun e w'=>RcOut (Wf.recB x t (fun k' s'=>Wf.getB x n k' s') 0 s) s rb sb D w e w':=by
 have hrb:=H.lt;have h69:t.sort≠69:=by rw[h82];decide
 have HW:=hid hW;have HSC:=hid hsc;have HT:=hid hT;have HX:=hid hx;have HTX:=hid htx;have H69:=hid h69;have HIH:=hid IH;have HS6:=hid hs;have ST:=hid fun W1 h=>start_brec H W1 h;obtain⟨T,hTT⟩:∃ T,Wf.recB x t (fun k' s'=>Wf.getB x n k' s') 0 s=T:=⟨_,rfl⟩;have HTT:=hid hTT;rw[hTT];clear H hW hsc hT hx htx h69 h82 IH hs hTT;go_enter Tryz.func100,Tryz.ntmps100;go_wp2_with fail
 go_loopw [6] (fun s6 wr=>∃ (last:Nat) (cur:List UInt8) (bad:Bool) (sk:Value) (a:Option Addr) (c:Nat) (l:List Wf.V) (es:List (List Value)) (L M:List Nat),s6=.int .i64 last/\last<=999999/\Hid (Rk w wr rb sb cur bad sk D a c l es L/\es.length+L.length+cur.length<=s.length/\Brel x t (fun k' s'=>Wf.getB x n k' s') T last cur bad l M/\(D=1->M=L))) (fun _ wr=>eY wr rb)
 case atStart =>
  refine⟨0,s,false,.slice none 0 0,none,0,[],[],[],[],rfl,by omega,hid ⟨ST.out _ rfl,by simp,.inl ⟨rfl,?_⟩,fun _=>rfl⟩⟩;rw[<-HTT.out];cases Wf.recB x t (fun k' s'=>Wf.getB x n k' s') 0 s <;> rfl
 case round =>
  obtain⟨last,cur,bad,sk,a,c,l,es,L,M,rfl,hl6,hh⟩:=hrel;obtain⟨m,hm⟩:∃ m,es.length=m:=⟨_,rfl⟩;have HM:=hid hm;have hc2:=hh.out.1.br.c2;have hrw:=hh.out.1.br.lt;have v0:=hh.out.1.bld.v0;have v1:=hh.out.1.bld.v1;have v2:=hh.out.1.bld.v2;have v3:=hh.out.1.bld.v3;have vf3:=hh.out.1.bld.f3;rw[hm] at v3;have hvw:w.heap.size+1<wr.heap.size:=by have:=hh.out.1.bld.sz;omega
  have hm6:m<=600:=by have:=hh.out.2.1;have:=HS6.out;omega
  clear hm;cases bad with
  | true =>
   have HO:=hid (show T=none by
    rcases hh.out.2.2.1 with⟨h,_⟩|⟨_,h⟩
    ·cases h
    ·exact h)
   obtain⟨zl,zr0,zr1,zr2,zr3,zf0,zf1,zf2,zf3⟩:=hh.out.1.zero;go_wp2_with fail
   all_goals exact zbD (v:=.agg #[.int .u8 82,.string ⟨#[]⟩,.int .i64 0,.slice a m c]) (by simp[results,Tryz.results100,go_sem, *]) rfl (hh.out.1.out hrb HM.out (by repeat (first|with_reducible exact aA.refl _ _|with_reducible refine aA.drew ?_|with_reducible refine aA.trans ?_ (aA.set _ _ _ _))) (by have:=hh.out.2.1;omega) hh.out.2.2.2 (.inr ⟨HO.out,rfl⟩))
  | false =>
   have HB:=hid (show T=(Wf.recB x t (fun k' s'=>Wf.getB x n k' s') last cur).map fun y=>(l++y.1,M++y.2.1,y.2.2) by
    rcases hh.out.2.2.1 with⟨_,h⟩|⟨h,_⟩
    ·exact h
    ·cases h)
   obtain⟨tag,r1,b1,htag,hr1,hc1,hN⟩:=bnum_any cur (by have:=hh.out.2.1;have:=HS6.out;omega);have HN:=hid fun(wz:World) (h:Br wz rb sb cur false sk D)=>hN rb sb false sk D wz h;simp only[Bool.false_or] at HN;have HC1:=hid hc1;have HR1:=hid hr1;clear hN hc1 hr1;by_cases h0:tag=0
   ·subst h0
    have HO:=hid (show(T=some (l,M,r1)/\b1=false)\/(T=none/\b1=true) by
     rcases HC1.out with⟨h1,h2⟩|⟨h1,h2,_⟩
     ·exact .inl ⟨by rw[HB.out,Wf.recB_end h2];simp,h1⟩
     ·exact .inr ⟨by rw[HB.out,Wf.recB_none h2];rfl,h1⟩)
    go_wp2_with (go_at_call 45;refine(HN.out _ hh.out.1.br).mono ?_;rintro e w2 ⟨rfl,hs2,hb2⟩;have R2:=hid (hh.out.1.step hrb hb2 hs2);have u0:=R2.out.bld.v0;have u1:=R2.out.bld.v1;have u2:=R2.out.bld.v2;have u3:=R2.out.bld.v3;rw[HM.out] at u3;have hvw2:w.heap.size+1<w2.heap.size:=(by have:=R2.out.bld.sz;omega);obtain⟨zl,zr0,zr1,zr2,zr3,zf0,zf1,zf2,zf3⟩:=R2.out.zero;clear hs2 hb2)
    all_goals exact zbD (v:=.agg #[.int .u8 82,.string ⟨#[]⟩,.int .i64 0,.slice a m c]) (by simp[results,Tryz.results100,go_sem, *]) rfl (R2.out.out hrb HM.out (by repeat (first|with_reducible exact aA.refl _ _|with_reducible refine aA.drew ?_|with_reducible refine aA.trans ?_ (aA.set _ _ _ _))) (by have:=hh.out.2.1;have:=HR1.out;omega) hh.out.2.2.2 HO.out)
   ·obtain⟨hg,rfl⟩:Wf.getN cur=some (tag,r1)/\b1=false:=by
     rcases HC1.out with⟨h1,h2⟩|⟨_,_,h,_⟩
     ·exact⟨h2,h1⟩
     ·exact absurd h h0
    have HG:=hid hg;have hlen1:=(Wf.getN_len hg).2.1;obtain⟨m2,r2,b2,tt,r,b,hm2,hr2,htl,hrl,hc2',hN2,hT2⟩:=btk r1 (by have:=hh.out.2.1;have:=HS6.out;omega) false;have HN2:=hid fun(wz:World) (h:Br wz rb sb r1 false sk D)=>hN2 rb sb sk D wz h;obtain⟨TT,hTT⟩:∃ TT:ByteArray,(⟨tt.toArray⟩:ByteArray)=TT:=⟨_,rfl⟩;have HTTT:=hid hTT;have HT2:=hid fun(wz:World) (h:Br wz rb sb r2 b2 sk D)=>hT2 rb sb sk D wz h;simp only[tx,hTT] at HT2;have HC2:=hid hc2';have HLEN:=hid (show r.length<cur.length by omega);have HTL:=hid htl;have htag0:((tag:Int)==0)=false:=(by rw[zaJ];omega);have htag1:=h0;clear hg hN2 hT2 hc2' hTT hlen1 hr2 htl hrl h0;by_cases hlow:tag<=last
    ·have HO:=hid (show T=none by
      rw[HB.out];rcases HC2.out with⟨_,_,h⟩|⟨_,h,_⟩
      ·rw[Wf.recB_low HG.out htag1 h hlow];rfl
      ·rw[Wf.recB_cut HG.out htag1 (h.resolve_left (by simp))];rfl)
     have HFD:=hid fun(wz:World) (hb:Below W.heap.size W wz)=>(field t ht tag lo tb W wz hb HT.out).mono (R:=fun e w'=>aR W t tag e/\wz=w') (R':=fun e w'=>(∃ q,e=.returned (.pointer q))/\wz=w') fun e w' h=>⟨aR.ptr h.1,h.2⟩;have hlow2:(tag:Int)<=(last:Int):=(by omega);clear htag1 hlow;go_wp2_with (first|(go_at_call 40;have _u:=R4;refine(HFD.out _ (by first|exact aA.below HW.out HW.out.size hWr R4.out.bld.fr|exact(aA.below HW.out HW.out.size hWr (R4.out.bld.fr.trans (aA.set rb w4 2 (.bool true)))))).mono ?_;rintro e w5 ⟨⟨q5,rfl⟩,rfl⟩)|(go_at_call 46;have _u:=R3;refine(HT2.out _ R3.out.br).mono ?_;rintro e w4 ⟨rfl,hs4,hb4⟩;have R4:=hid (R3.out.step hrb hb4 hs4);have c42:=hs4.c2;have c43:=hs4.c3;have c44:=hs4.c4;have f42:=hs4.f2;have f43:=hs4.f3;have l4:=hs4.lt;clear hs4 hb4)|(go_at_call 45;have _u:=R2;refine(HN2.out _ R2.out.br).mono ?_;rintro e w3 ⟨rfl,hs3,hb3⟩;have R3:=hid (R2.out.step hrb hb3 hs3);clear hs3 hb3)|(go_at_call 45;refine(HN.out _ hh.out.1.br).mono ?_;rintro e w2 ⟨rfl,hs2,hb2⟩;have R2:=hid (hh.out.1.step hrb hb2 hs2);clear hs2 hb2))
     all_goals go_roundw
     all_goals first
     | exact⟨tag,r,true,sk,a,c,l,es,L,M,rfl,htag,hid ⟨R4.out.step hrb (aA.set rb w4 2 (.bool true)) R4.out.br.fail,by have:=hh.out.2.1;have:=HLEN.out;omega,.inr ⟨rfl,HO.out⟩,hh.out.2.2.2⟩⟩
     | (rw[R4.out.br.fail.size,hh.out.1.br.size];exact HLEN.out)
    ·have hlow2:¬ (tag:Int)<=(last:Int):=by omega
     rcases HC2.out with⟨rfl,_,htk⟩|⟨rfl,htk,_⟩
     ·have HTK:=hid htk
      clear htk;cases hfi:t.field tag with
      | none =>
       have HFD:=hid fun(wz:World) (hb:Below W.heap.size W wz)=>(field t ht tag lo tb W wz hb HT.out).mono (R:=fun e w'=>aR W t tag e/\wz=w') (R':=fun e w'=>e=.returned (.pointer none)/\wz=w') fun e w' h=>⟨aR.no (W:=W) (t:=t) (g:=tag) (e:=e) h.1 (by rw[cP];exact hfi),h.2⟩;have HO:=hid (show T=(Wf.recB x t (fun k' s'=>Wf.getB x n k' s') tag r).map fun y=>(l++y.1,(M++[tag])++y.2.1,y.2.2) by
        rw[HB.out,Wf.recB_skip HG.out htag1 HTK.out hlow hfi];cases Wf.recB x t (fun k' s'=>Wf.getB x n k' s') tag r <;> simp)
       clear htag1 hlow hfi;by_cases hD:D=1
       ·have HD1:=hid hD
        have hD2:((D:Int)==1)=true:=(by rw[hD];rfl);clear hD;have hLn:L.length<=600:=(by have:=hh.out.2.1;have:=HS6.out;omega);go_wp2_with (first|(at_builtin;have _u:=R4;refine app_skip (.tmp 84) (.tmp 86) rfl rfl (base:=w.heap.size+1+1) (v:=sk) (xs:=L.map ix) (m:=L.length) (G:=tag) (zb:=w4.heap.size) (by have:=R4.out.bld.sz;simp;omega) (cF R4.out.own ((zaB).alloc (zaA) _)) (by omega) (MapKept.heap_alloc w4 (.cells #[.int .i64 tag] 3)).1 (by simp[Act.eval,Act.put]) (by simp[Act.eval,Act.put]) ?_;intro g cap w6 hown6 hgrow6 hat6 hb6;have HO6:=hid hown6;have HG6:=hid hgrow6;have HA6:=hid hat6;have HB6:=hid hb6;have c63:w6.cell? ⟨rb,3,none⟩=some sk:=((hb6.cell (p:=⟨rb,3,none⟩) (by show rb<w.heap.size+1+1;omega)).trans ((zbB w4 _ ⟨rb,3,none⟩ l4).trans c43));have f63:w6.frozen? ⟨rb,3,none⟩=false:=((hb6.frozen (p:=⟨rb,3,none⟩) (by show rb<w.heap.size+1+1;omega)).trans ((((Below.refl w4.heap.size w4).alloc (zaA) _).frozen (p:=⟨rb,3,none⟩) l4).trans f43));clear hown6 hgrow6 hat6 hb6)|(go_at_call 40;have _u:=R4;refine(HFD.out _ (by first|exact aA.below HW.out HW.out.size hWr R4.out.bld.fr|exact(aA.below HW.out HW.out.size hWr (R4.out.bld.fr.trans (aA.set rb w4 2 (.bool true)))))).mono ?_;rintro e w5 ⟨rfl,rfl⟩)|(go_at_call 46;have _u:=R3;refine(HT2.out _ R3.out.br).mono ?_;rintro e w4 ⟨rfl,hs4,hb4⟩;have R4:=hid (R3.out.step hrb hb4 hs4);have c42:=hs4.c2;have c43:=hs4.c3;have c44:=hs4.c4;have f42:=hs4.f2;have f43:=hs4.f3;have l4:=hs4.lt;clear hs4 hb4)|(go_at_call 45;have _u:=R2;refine(HN2.out _ R2.out.br).mono ?_;rintro e w3 ⟨rfl,hs3,hb3⟩;have R3:=hid (R2.out.step hrb hb3 hs3);clear hs3 hb3)|(go_at_call 45;refine(HN.out _ hh.out.1.br).mono ?_;rintro e w2 ⟨rfl,hs2,hb2⟩;have R2:=hid (hh.out.1.step hrb hb2 hs2);clear hs2 hb2))
        all_goals go_roundw
        all_goals first
        | exact⟨tag,r,false,_,a,c,l,es,L++[tag],M++[tag],rfl,htag,hid ⟨Rk.skip R4.out hrb HD1.out ((zaB).alloc (zaA) _) HG6.out HO6.out (HA6.out.elim (fun h=>.inl h.symm) (fun h=>.inr (by rw[<-h];rfl))),by have:=hh.out.2.1;have:=HLEN.out;simp only[zaD,zaF,zaM];omega,.inl ⟨rfl,HO.out⟩,fun h=>by rw[hh.out.2.2.2 h]⟩⟩
        | (rw[(Rk.skip R4.out hrb HD1.out ((zaB).alloc (zaA) _) HG6.out HO6.out (HA6.out.elim (fun h=>.inl h.symm) (fun h=>.inr (by rw[<-h];rfl)))).br.size,hh.out.1.br.size];exact HLEN.out)
       ·have hD2:((D:Int)==1)=false:=by rw[zaJ];omega
        go_wp2_with (first|(go_at_call 40;have _u:=R4;refine(HFD.out _ (by first|exact aA.below HW.out HW.out.size hWr R4.out.bld.fr|exact(aA.below HW.out HW.out.size hWr (R4.out.bld.fr.trans (aA.set rb w4 2 (.bool true)))))).mono ?_;rintro e w5 ⟨rfl,rfl⟩)|(go_at_call 46;have _u:=R3;refine(HT2.out _ R3.out.br).mono ?_;rintro e w4 ⟨rfl,hs4,hb4⟩;have R4:=hid (R3.out.step hrb hb4 hs4);have c42:=hs4.c2;have c43:=hs4.c3;have c44:=hs4.c4;have f42:=hs4.f2;have f43:=hs4.f3;have l4:=hs4.lt;clear hs4 hb4)|(go_at_call 45;have _u:=R2;refine(HN2.out _ R2.out.br).mono ?_;rintro e w3 ⟨rfl,hs3,hb3⟩;have R3:=hid (R2.out.step hrb hb3 hs3);clear hs3 hb3)|(go_at_call 45;refine(HN.out _ hh.out.1.br).mono ?_;rintro e w2 ⟨rfl,hs2,hb2⟩;have R2:=hid (hh.out.1.step hrb hb2 hs2);clear hs2 hb2))
        all_goals go_roundw
        all_goals first
        | exact⟨tag,r,false,sk,a,c,l,es,L,M++[tag],rfl,htag,hid ⟨R4.out,by have:=hh.out.2.1;have:=HLEN.out;omega,.inl ⟨rfl,HO.out⟩,fun h=>absurd h hD⟩⟩
        | (rw[R4.out.br.size,hh.out.1.br.size];exact HLEN.out)
      | some f =>
       have hfm:=Wf.eK hfi;have HFD:=hid fun(wz:World) (hb:Below W.heap.size W wz)=>(field t ht tag lo tb W wz hb HT.out).mono (R:=fun e w'=>aR W t tag e/\wz=w') (R':=fun e w'=>(∃ fb o,e=.returned (.pointer (some ⟨fb,o,none⟩))/\FdAt W fb o t.sort f)/\wz=w') fun e w' h=>⟨aR.yes (W:=W) (t:=t) (g:=tag) (e:=e) (f:=f) h.1 (by rw[cP];exact hfi),h.2⟩;have FC:=hid (show fdC t.sort f=[.int .i64 f.tag,tx f.name,tx f.kind.signs,tx f.kind.base,tx f.kind.name,tx f.given] by unfold fdC;rw[if_neg H69.out]);obtain⟨SG,hSG⟩:∃ SG:ByteArray,(⟨f.kind.signs.toArray⟩:ByteArray)=SG:=⟨_,rfl⟩;obtain⟨BS,hBS⟩:∃ BS:ByteArray,(⟨f.kind.base.toArray⟩:ByteArray)=BS:=⟨_,rfl⟩;obtain⟨KN,hKN⟩:∃ KN:ByteArray,(⟨f.kind.name.toArray⟩:ByteArray)=KN:=⟨_,rfl⟩;have hkf:kV f.kind=.agg #[.string SG,.string BS,.string KN]:=(by simp only[kV,tx,hSG,hBS,hKN]);have htl6:tt.length<=600:=(by have:=HTL.out;have:=hh.out.2.1;have:=HR1.out;have:=HS6.out;omega);have hBP:=fun(wz:World) (hb:Below W.heap.size W wz) (h:Br wz rb sb r false sk D)=>bpart x n rb sb W f.kind tt r sk D wz hb (HIH.out f hfm.1) htl6 hd hD1 h;rw[hkf] at hBP;simp only[tx,HTTT.out] at hBP;have HBP:=hid hBP;simp only[tx,hSG,hBS,hKN] at FC;have HTL6:=hid htl6;have HFI:=hid hfi;have HLOW:=hid hlow;have HTAG1:=hid htag1;have HFM:=hid hfm;clear htag1 hlow hfi hSG hBS hKN hkf hBP htl6 hfm;go_wp2_with (first|(go_at_call 99;have _u:=BW4;refine(HBP.out _ BW4.out R4.out.br).mono ?_;rintro e w6 ⟨cs,v,rfl,hvc,hb6,ho⟩;obtain⟨u0,u1,u2,u3,T4,a4,rfl⟩:=hvc.bA;have HVC:=hid hvc;have HP:=hid ho;have Q6:=hid hb6;clear hvc ho hb6)|(go_at_call 40;have _u:=R4;refine(HFD.out _ (by first|exact aA.below HW.out HW.out.size hWr R4.out.bld.fr|exact(aA.below HW.out HW.out.size hWr (R4.out.bld.fr.trans (aA.set rb w4 2 (.bool true)))))).mono ?_;rintro e w5 ⟨⟨fb,o,rfl,hfd⟩,rfl⟩;have HFA:=hid hfd;rw[FdAt,FC.out] at hfd;have BW4:=hid (aA.below HW.out HW.out.size hWr R4.out.bld.fr);have g2:=(BW4.out.cell (p:=⟨fb,o+2,none⟩) hfd.1).trans (hfd.2 2 _ rfl);have g3:=(BW4.out.cell (p:=⟨fb,o+3,none⟩) hfd.1).trans (hfd.2 3 _ rfl);have g4:=(BW4.out.cell (p:=⟨fb,o+4,none⟩) hfd.1).trans (hfd.2 4 _ rfl);have gl:=zaC hfd.1 BW4.out.size;clear hfd)|(go_at_call 46;have _u:=R3;refine(HT2.out _ R3.out.br).mono ?_;rintro e w4 ⟨rfl,hs4,hb4⟩;have R4:=hid (R3.out.step hrb hb4 hs4);have c42:=hs4.c2;have c43:=hs4.c3;have c44:=hs4.c4;have f42:=hs4.f2;have f43:=hs4.f3;have l4:=hs4.lt;clear hs4 hb4)|(go_at_call 45;have _u:=R2;refine(HN2.out _ R2.out.br).mono ?_;rintro e w3 ⟨rfl,hs3,hb3⟩;have R3:=hid (R2.out.step hrb hb3 hs3);clear hs3 hb3)|(go_at_call 45;refine(HN.out _ hh.out.1.br).mono ?_;rintro e w2 ⟨rfl,hs2,hb2⟩;have R2:=hid (hh.out.1.step hrb hb2 hs2);clear hs2 hb2))
       have hrw6:rb<w6.heap.size:=zaC l4 Q6.out.size;have hv4:=R4.out.bld.sz;have hv46:w4.heap.size<=w6.heap.size:=Q6.out.size;rcases HP.out with⟨hw,hbr6⟩|⟨hw,hbr6⟩
       ·have hpl:v.print.length<=1000000:=by
         have:=Wf.whole_short (Wf.getB_short n f.kind) hw;have:=HTL6.out;omega
        have hfd:=(HX.out.tys t HTX.out).fds f HFM.out.1;have hk12:=eW hfd;have hhas:=HX.out.refs t HTX.out H69.out f HFM.out.1;have R6:=hid (R4.out.step hrb Q6.out hbr6);have c60:=hbr6.c0;have c62:=hbr6.c2;obtain⟨W3,hW3⟩:∃ W3,w6.alloc (.cells #[.int .u8 u0,.string T4,.int .i64 u1,.slice a4 u2 u3] 51)=W3:=⟨_,rfl⟩;have hal:Below w6.heap.size w6 W3:=(by rw[<-hW3];exact(zaB).alloc (zaA) _);have y0:W3.cell? ⟨w6.heap.size,0,none⟩=some (.int .u8 u0):=(by rw[<-hW3];simp[go_sem]);have y1:W3.cell? ⟨w6.heap.size,1,none⟩=some (.string T4):=(by rw[<-hW3];simp[go_sem]);have y2:W3.cell? ⟨w6.heap.size,2,none⟩=some (.int .i64 u1):=(by rw[<-hW3];simp[go_sem]);have y3:W3.cell? ⟨w6.heap.size,3,none⟩=some (.slice a4 u2 u3):=(by rw[<-hW3];simp[go_sem]);have yl:w6.heap.size<W3.heap.size:=(by rw[<-hW3];simp);have hrb3:rb<W3.heap.size:=(by omega);have z0:=(hal.cell (p:=⟨rb,0,none⟩) hrw6).trans c60;have z2:=(hal.cell (p:=⟨rb,2,none⟩) hrw6).trans c62;have BW3:=hid ((aA.below HW.out HW.out.size hWr R6.out.bld.fr).trans (hal.mono (by have:=HW.out.size;omega)));have HAL:=hid hal;have F:=hid fun(wz:World) (hz:Below W3.heap.size W3 wz)=>(show wz.cell? ⟨rb,0,none⟩=some (ptr sb)/\wz.cell? ⟨rb,2,none⟩=some (.bool false)/\wz.cell? ⟨w6.heap.size,0,none⟩=some (.int .u8 u0)/\wz.cell? ⟨w6.heap.size,1,none⟩=some (.string T4)/\wz.cell? ⟨w6.heap.size,2,none⟩=some (.int .i64 u1)/\wz.cell? ⟨w6.heap.size,3,none⟩=some (.slice a4 u2 u3) from⟨(hz.cell (p:=⟨rb,0,none⟩) hrb3).trans z0,(hz.cell (p:=⟨rb,2,none⟩) hrb3).trans z2,(hz.cell (p:=⟨w6.heap.size,0,none⟩) yl).trans y0,(hz.cell (p:=⟨w6.heap.size,1,none⟩) yl).trans y1,(hz.cell (p:=⟨w6.heap.size,2,none⟩) yl).trans y2,(hz.cell (p:=⟨w6.heap.size,3,none⟩) yl).trans y3⟩);obtain⟨PT,hPT⟩:∃ PT:ByteArray,(⟨v.print.toArray⟩:ByteArray)=PT:=⟨_,rfl⟩;obtain⟨SX,hSX⟩:∃ SX:ByteArray,(⟨(Wf.aO x f).toArray⟩:ByteArray)=SX:=⟨_,rfl⟩;have HPR:=hid fun(wz:World) (hz:Below W3.heap.size W3 wz)=>(show Calls Tryz.prog 33 #[.agg #[.int .u8 u0,.string T4,.int .i64 u1,.slice a4 u2 u3]] wz fun e w'=>e=.returned (.string PT)/\Below wz.heap.size wz w' by
         rw[<-hPT];exact print v _ _ w6 wz HVC.out (HAL.out.trans (hz.mono HAL.out.size)) hpl)
        have HOF:=hid fun(wz:World) (hz:Below W3.heap.size W3 wz)=>(show Calls Tryz.prog 42 #[ptr sb,.pointer (some ⟨fb,o,none⟩)] wz fun e w'=>e=.returned (.string SX)/\Below wz.heap.size wz w' by
         rw[<-hSX];exact of x HX.out lo sb fb o t.sort f W wz (BW3.out.trans (hz.mono BW3.out.size)) HSC.out H69.out HFA.out hk12 hhas)
        have HEQ:=hid (show(PT.toList==SX.toList)=decide (v.print=Wf.aO x f) by rw[<-hPT,<-hSX,zaZ,zaZ,Bool.beq_eq_decide_eq]);rw[hW3];have HWH:=hid hw;clear hbr6 hw hpl hfd hk12 hhas hal hW3 hPT hSX;go_cut [57] from 12 to 89 (fun s57 wx=>∃ B:Bool,s57=.bool B/\Hid (B = !decide (v.print=Wf.aO x f)/\Below W3.heap.size W3 wx))
        case first =>
         go_region_held3 (fun w'=>w'.cell? ⟨rb,0,none⟩=some (ptr sb)/\w'.cell? ⟨rb,2,none⟩=some (.bool false)/\w'.cell? ⟨w6.heap.size,0,none⟩=some (.int .u8 u0)/\w'.cell? ⟨w6.heap.size,1,none⟩=some (.string T4)/\w'.cell? ⟨w6.heap.size,2,none⟩=some (.int .i64 u1)/\w'.cell? ⟨w6.heap.size,3,none⟩=some (.slice a4 u2 u3)) (first|exact FD.out|exact FSx.out|go_keep) (first|(go_at_call 33;refine(HPR.out _ (by first|exact TS.out|(repeat (first|with_reducible exact zaB|with_reducible refine zbE ?_)))).mono ?_;rintro e w7 ⟨rfl,hb7⟩;have TD:=Lib.hid (show Below W3.heap.size W3 w7 by first|exact TS.out.trans (hb7.mono TS.out.size)|(refine Below.trans (b:=_) ?_ hb7;repeat (first|with_reducible exact zaB|with_reducible refine zbE ?_)));have FD:=Lib.hid (F.out _ TD.out);clear hb7)|(go_at_call 42;refine(HOF.out _ (by first|exact TD.out|(repeat (first|with_reducible exact zaB|with_reducible refine zbE ?_)))).mono ?_;rintro e w8 ⟨rfl,hb8⟩;have TS:=Lib.hid (show Below W3.heap.size W3 w8 by first|exact TD.out.trans (hb8.mono TD.out.size)|(refine Below.trans (b:=_) ?_ hb8;repeat (first|with_reducible exact zaB|with_reducible refine zbE ?_)));have FSx:=Lib.hid (F.out _ TS.out);clear hb8))
         all_goals (go_wp2_with fail;go_meet)
         all_goals exact⟨_,rfl,hid ⟨by rw[HEQ.out],by first|exact TS.out.trans (TD.out.mono TS.out.size)|exact TS.out|exact TD.out⟩⟩
        case rest =>
         obtain⟨B,rfl,hh2⟩:=hcut;have HAC:=hid (HAL.out.trans (hh2.out.2.mono HAL.out.size));have R9:=hid (R6.out.step hrb (aA.aF HAC.out (zaA)) (R6.out.br.below HAC.out));cases B with
         | false =>
          have HO:=hid (show T=(Wf.recB x t (fun k' s'=>Wf.getB x n k' s') tag r).map fun y=>(l++y.1,M++y.2.1,y.2.2) by
           have hsd:v.print=Wf.aO x f:=by
            have:=hh2.out.1;simpa using this
           rw[HB.out,Wf.recB_same HG.out HTAG1.out HTK.out HLOW.out HFI.out HWH.out hsd])
          go_wp2_with fail
          all_goals go_roundw
          all_goals first
          | exact⟨tag,r,false,sk,a,c,l,es,L,M,rfl,htag,hid ⟨R9.out,by have:=hh.out.2.1;have:=HLEN.out;omega,.inl ⟨rfl,HO.out⟩,hh.out.2.2.2⟩⟩
          | (rw[R9.out.br.size,hh.out.1.br.size];exact HLEN.out)
         | true =>
          have HO:=hid (show T=(Wf.recB x t (fun k' s'=>Wf.getB x n k' s') tag r).map fun y=>((l++[.mk 61 [] tag [v]])++y.1,M++y.2.1,y.2.2) by
           have hsd:v.print≠Wf.aO x f:=by
            have:=hh2.out.1;simpa using this
           rw[HB.out,Wf.recB_told HG.out HTAG1.out HTK.out HLOW.out HFI.out HWH.out hsd];cases Wf.recB x t (fun k' s'=>Wf.getB x n k' s') tag r <;> simp)
          obtain⟨p0,p2,q0,q1,q2,q3⟩:=F.out wc hh2.out.2;have w3c:=R9.out.bld.v3;have wf3:=R9.out.bld.f3;rw[HM.out] at w3c;have hvwc:w.heap.size+1<wc.heap.size:=(by have:=R9.out.bld.sz;omega);have hx6:w6.heap.size<wc.heap.size:=zaC yl hh2.out.2.size;have HOWN:=hid (show wc.ownsRow (w.heap.size+1+1) 51 4 (.slice a m c) m es.flatten by have h:=R9.out.bld.own;rw[HM.out] at h;exact h);have hbase:w.heap.size+1+1<=wc.heap.size:=R9.out.bld.sz;obtain⟨i0,hi0,hz0,hz1,hz2⟩:=info_parts jQ;have HI0:=hid hi0;have HZ0:=hid hz0;have HZ1:=hid hz1;have HZ2:=hid hz2;have HNEW:=hid (show ∀ j u,[Value.int .u8 61,Value.string ⟨#[]⟩,Value.int .i64 tag,Value.slice (some ⟨wc.heap.size,0,none⟩) 1 1][j]? = some u->((wc.alloc (.cells #[.int .u8 u0,.string T4,.int .i64 u1,.slice a4 u2 u3] 51)).alloc (.cells #[.int .u8 61,.string ⟨#[]⟩,.int .i64 tag,.slice (some ⟨wc.heap.size,0,none⟩) 1 1] 51)).cell? (Addr.add ⟨wc.heap.size+1,0,none⟩ j)=some u from by
           intro j u hu;rcases j with _|_|_|_|j <;> simp at hu <;> subst hu <;> simp[go_sem,Addr.add])
          clear hi0 hz0 hz1 hz2 y0 y1 y2 y3;go_wp2_with (at_builtin;refine wpList_append_lies _ rfl (.tmp 59) (.tmp 64) 49 rfl (w.heap.size+1+1) 51 i0 (.agg #[.int .u8 0,tx [],.int .i64 0,.slice none 0 0]) 4 56 Tryz.underlying49 HI0.out HZ0.out HZ1.out HZ2.out rfl (by decide) (.slice a m c) m _ (by rfl) ((HOWN.out.alloc _).alloc _) ⟨wc.heap.size+1,0,none⟩ 1 1 [.int .u8 61,.string ⟨#[]⟩,.int .i64 tag,.slice (some ⟨wc.heap.size,0,none⟩) 1 1] (by rfl) rfl HNEW.out (fP 61 tag 1 1 ⟨#[]⟩ _) (by decide) (by unfold maxLen;omega) (by omega) (by simp;omega) _ rfl ?_;intro g cap w8 hown8 hgrow8 hat8 hlt8;have B8:=hid (aV (base:=w.heap.size+1+1) hgrow8 (fun g hg=>(aQ HOWN.out g hg).1) (by simp;omega));have AL:=hid (((Below.refl wc.heap.size wc).alloc (zaA) (.cells #[.int .u8 u0,.string T4,.int .i64 u1,.slice a4 u2 u3] 51)).alloc (by simp) (.cells #[.int .u8 61,.string ⟨#[]⟩,.int .i64 tag,.slice (some ⟨wc.heap.size,0,none⟩) 1 1] 51));have e3:w8.cell? ⟨w.heap.size+1,3,none⟩=some (.slice a m c):=((B8.out.cell (p:=⟨w.heap.size+1,3,none⟩) (zaH _)).trans ((AL.out.cell (p:=⟨w.heap.size+1,3,none⟩) hvwc).trans w3c));have ef:w8.frozen? ⟨w.heap.size+1,3,none⟩=false:=((B8.out.frozen (p:=⟨w.heap.size+1,3,none⟩) (zaH _)).trans ((AL.out.frozen (p:=⟨w.heap.size+1,3,none⟩) hvwc).trans wf3));have HO8:=hid hown8;have HG8:=hid hgrow8;have HA8:=hid hat8;clear hown8 hgrow8 hat8)
          have HVA:=hid (show VC (wc.alloc (.cells #[.int .u8 u0,.string T4,.int .i64 u1,.slice a4 u2 u3] 51)) (fun b=>w4.heap.size<=b) (.mk 61 [] tag [v]) [.int .u8 61,.string ⟨#[]⟩,.int .i64 tag,.slice (some ⟨wc.heap.size,0,none⟩) 1 1] from
           VC.one (HVC.out.below (HAC.out.alloc HAC.out.size _)) (by show w4.heap.size<=wc.heap.size;omega) (by simp) (by
            intro j u hu;rcases j with _|_|_|_|j <;> simp at hu <;> subst hu <;> simp[go_sem]) 61 [] tag ⟨htag,fun _=>.inr (.inr (.inl rfl)),fun _=>rfl⟩)
          have HBA:=hid (show Below w6.heap.size w6 (wc.alloc (.cells #[.int .u8 u0,.string T4,.int .i64 u1,.slice a4 u2 u3] 51)) from HAC.out.alloc HAC.out.size _);have RP:=hid (Rk.put R4.out hrb (Q6.out.trans (aA.aF HBA.out (zaA))) HM.out HVA.out ((zaB).alloc (zaA) _) HG8.out HO8.out HA8.out (R6.out.br.below HBA.out));all_goals go_roundw
          all_goals first
          | exact⟨tag,r,false,sk,_,cap,l++[.mk 61 [] tag [v]],_,L,M,rfl,htag,hid ⟨RP.out,by have:=hh.out.2.1;have:=HLEN.out;simp only[zaD,zaF,zaM];omega,.inl ⟨rfl,HO.out⟩,hh.out.2.2.2⟩⟩
          | (rw[RP.out.br.size,hh.out.1.br.size];exact HLEN.out)
       ·have HO:=hid (show T=none by
         rw[HB.out,Wf.recB_bad HG.out HTAG1.out HTK.out HLOW.out HFI.out hw];rfl)
        have c62:=hbr6.c2;have R6:=hid (R4.out.step hrb Q6.out hbr6);have hal:=hid fun k=>(show Below w6.heap.size w6 ((w6.alloc (.cells #[.int .u8 u0,.string T4,.int .i64 u1,.slice a4 u2 u3] 51)).drewN k) from((Below.refl w6.heap.size w6).alloc (zaA) _).trans ⟨rfl,rfl,rfl,zaA,fun _ _=>rfl⟩);clear hbr6 hw;go_quiet (fail)
        go_wp2_with fail
        all_goals go_roundw
        all_goals first
        | exact⟨tag,r,true,sk,a,c,l,es,L,M,rfl,htag,hid ⟨R6.out.step hrb (aA.aF (hal.out _) (zaA)) (R6.out.br.below (hal.out _)),by have:=hh.out.2.1;have:=HLEN.out;omega,.inr ⟨rfl,HO.out⟩,hh.out.2.2.2⟩⟩
        | (rw[(R6.out.br.below (hal.out _)).size,hh.out.1.br.size];exact HLEN.out)
     ·have HO:=hid (show T=none by
       rw[HB.out,Wf.recB_cut HG.out htag1 (htk.resolve_left (by simp))];rfl)
      have HFD:=hid fun(wz:World) (hb:Below W.heap.size W wz)=>(field t ht tag lo tb W wz hb HT.out).mono (R:=fun e w'=>aR W t tag e/\wz=w') (R':=fun e w'=>(∃ q,e=.returned (.pointer q))/\wz=w') fun e w' h=>⟨aR.ptr h.1,h.2⟩;clear htag1 htk hlow;go_wp2_with (first|(go_at_call 40;have _u:=R4;refine(HFD.out _ (by first|exact aA.below HW.out HW.out.size hWr R4.out.bld.fr|exact(aA.below HW.out HW.out.size hWr (R4.out.bld.fr.trans (aA.set rb w4 2 (.bool true)))))).mono ?_;rintro e w5 ⟨⟨q5,rfl⟩,rfl⟩)|(go_at_call 46;have _u:=R3;refine(HT2.out _ R3.out.br).mono ?_;rintro e w4 ⟨rfl,hs4,hb4⟩;have R4:=hid (R3.out.step hrb hb4 hs4);have c42:=hs4.c2;have c43:=hs4.c3;have c44:=hs4.c4;have f42:=hs4.f2;have f43:=hs4.f3;have l4:=hs4.lt;clear hs4 hb4)|(go_at_call 45;have _u:=R2;refine(HN2.out _ R2.out.br).mono ?_;rintro e w3 ⟨rfl,hs3,hb3⟩;have R3:=hid (R2.out.step hrb hb3 hs3);clear hs3 hb3)|(go_at_call 45;refine(HN.out _ hh.out.1.br).mono ?_;rintro e w2 ⟨rfl,hs2,hb2⟩;have R2:=hid (hh.out.1.step hrb hb2 hs2);clear hs2 hb2))
      all_goals go_roundw
      all_goals first
      | exact⟨tag,r,true,sk,a,c,l,es,L,M,rfl,htag,hid ⟨R4.out,by have:=hh.out.2.1;have:=HLEN.out;omega,.inr ⟨rfl,HO.out⟩,hh.out.2.2.2⟩⟩
      | (rw[R4.out.br.size,hh.out.1.br.size];exact HLEN.out)

theorem bval_opt (x:Wf.Sc) (n rb sb:Nat) (W:World) (k:Wf.K) (s:List UInt8) (sk:Value) (d:Nat) (w:World) (hW:Below W.heap.size W w) (hWr:W.heap.size<=rb) (IH:Rb x sb W n k) (hsk:sk=.slice none 0 0) (hs:s.length<=600) (hd:n+1+d=13) (H:Br w rb sb s false sk d):Calls Tryz.prog 57 #[ptr rb,kV (.opt k)] w fun e w'=>BvOut (Wf.getB x (n+1) (.opt k) s) s rb sb sk d w e w':=by
 obtain⟨y,r,b,hrl,hc,hF⟩:=bflag_any s (by omega);cases y with
 | true =>
  rcases hc with⟨rfl,rfl⟩|⟨_,h,_⟩
  ·exact bval_opt_some x n rb sb W k r sk d w hW hWr IH hsk hs hd (fun wz h=>hF rb sb sk (d+1) wz h) H
  ·cases h
 | false =>
  exact bval_opt_no x n rb sb k s r b sk d w hs (by omega) hrl (hc.imp (fun h=>⟨h.1,h.2⟩) fun h=>⟨h.1,h.2.2⟩) (fun wz h=>hF rb sb sk (d+1) wz h) H
def BrOut (o:Option (List Wf.V × List Nat × List UInt8)) (s:List UInt8) (rb sb:Nat) (d:Nat) (w:World) (e:Ending) (w':World):Prop :=
 ∃ cs l r sk',e=.returned (.agg cs.toArray)/\VC w' (fun b=>w.heap.size<=b) (.mk 82 [] 0 l) cs/\aA rb w w'/\r.length<=s.length/\(d≠0->sk'=.slice none 0 0) /\
  ((∃ L,o=some (l,L,r)/\Br w' rb sb r false sk' d/\(d=0->w'.ownsRow w.heap.size 3 1 sk' L.length (L.map ix)))\/(o=none/\Br w' rb sb r true sk' d))
theorem bdoor_b {Q:Ending->World->Prop} {tmps:Array Value} {s r:List UInt8} {rb sb d:Nat} {sk:Value} {b:Bool} {w w3 W4:World} {SG BS NM:ByteArray} {x0 x1 x2 x3:Value} (E:Ent w w3 rb SG BS NM) (S:Br w3 rb sb r b sk (d+1)) (hrb:rb<w.heap.size) (hd:d<=12) (ht:tmps.getD 4 undef=ptr (w.heap.size+1+1))
  (hb4:aA (w.heap.size+1+1) w3 W4) (v0:W4.cell? ⟨w.heap.size+1+1,0,none⟩=some x0) (v1:W4.cell? ⟨w.heap.size+1+1,1,none⟩=some x1) (v2:W4.cell? ⟨w.heap.size+1+1,2,none⟩=some x2) (v3:W4.cell? ⟨w.heap.size+1+1,3,none⟩=some x3)
  (hQ:Q (.returned (.agg #[x0,x1,x2,x3])) (W4.setCell ⟨rb,4,none⟩ (.int .i64 d))) :
  bodyPostD Tryz.prog Tryz.f57 Q .ret { tmps:=tmps,defers:=[{ target:=.fn (.func 94) #[ptr w.heap.size],args:=#[] }] } W4:=by
 have hz:=E.z.lt;have S4:=S.beside hb4 (by omega);have q4:=(hb4.cell (p:=⟨w.heap.size,0,none⟩) (by show w.heap.size<_;omega) (by show w.heap.size≠_;omega)).trans E.q;have hs4:=hb4.size;exact bdoor w.heap.size rb (w.heap.size+1+1) d x0 x1 x2 x3 (by omega) ht (by omega) S4.lt q4 (by have:=S4.c4;simpa using this) S4.f4 (by omega) (by omega) v0 v1 v2 v3 hQ
theorem bval_rec (x:Wf.Sc) (n rb sb:Nat) (W:World) (nm:List UInt8) (s:List UInt8) (sk:Value) (d:Nat) (w:World) (lo mb tb:Nat) (t:Wf.Ty) (hf:x.find nm=some t) (ht:t.fields.length<=1000) (hW:Below W.heap.size W w) (hWr:W.heap.size<=rb) (hsb:sb<W.heap.size) (c1:W.cell? ⟨sb,1,none⟩=some (.map (some mb))) (look:∀ wz,Below W.heap.size W wz->(Instr.lookup 114 (.map (some mb)) (.string ⟨nm.toArray⟩) false).run Tryz.prog wz=.ok (ptr tb) wz) (hT:TyL W lo tb t) (hq:t.sort=82) (hs:s.length<=600) (hd:d<=12) (hsk:sk=.slice none 0 0) (T:Option (List Wf.V × List Nat × List UInt8)) (hR:∀ wz,Below W.heap.size W wz->Br wz rb sb s false (.slice none 0 0) (d+1)->Calls Tryz.prog 100 #[ptr rb,ptr tb] wz fun e w'=>RcOut T s rb sb (d+1) wz e w') (H:Br w rb sb s false sk d):Calls Tryz.prog 57 #[ptr rb,kV (.ref nm)] w fun e w'=>BrOut T s rb sb d w e w':=by
 subst hsk;have hrb:=H.lt;have hc0:=H.c0;have hc2:=H.c2;have hc4:=H.c4;have f2:=H.f2;have f4:=H.f4;have hrb1:rb<w.heap.size+1:=by omega
 have hrb2:rb<w.heap.size+1+1:=by omega
 have HW:=hid hW;have HLK:=hid look;have HC1:=hid c1;obtain⟨htb,hsc⟩:=hT.sort;rw[hq] at hsc;have HSC:=hid hsc;have HSG:=hid fun w2=>sign (.ref nm) w2;obtain⟨NM,hNM⟩:∃ NM:ByteArray,(⟨nm.toArray⟩:ByteArray)=NM:=⟨_,rfl⟩;have hkv:kV (.ref nm)=.agg #[.string ⟨#[]⟩,.string ⟨#[64]⟩,.string NM]:=by rw[<-hNM];rfl
 rw[hkv] at HSG ⊢;rw[hNM] at HLK;have hsn:bV (.ref nm)=0:=rfl;rw[hsn] at HSG;have ST:=hid fun W1 h=>start_bval H ⟨#[]⟩ ⟨#[64]⟩ NM W1 h;have hmf:∀ (fn:Fn) (first cap:Array Value) (w:World),(Instr.makeFunc fn first cap).run Tryz.prog w=.ok (.func fn first cap) w:=fun _ _ _ _=>rfl;have kd:IntKind.i64.wrap ((d:Int)+1)=(d:Int)+1:=zbI _ (by omega);have hsw:sb<w.heap.size:=zaC hsb hW.size;have htw:tb<w.heap.size:=zaC htb hW.size;have HR:=hid hR;clear H hkv hsn hs hNM hf hT look c1 hW hsc hR;go_enter_defers Tryz.func57,Tryz.ntmps57
 go_wp2_with (go_at_call 95;obtain⟨e0,s0⟩:=ST.out _ rfl;refine(HSG.out _).mono ?_;rintro e w1 ⟨rfl,hb1⟩;have S1:=hid (s0.below hb1);have E1:=hid (e0.step hrb (aA.aF hb1 (zaA)));have q1:=E1.out.q;have k1:=E1.out.k1;have k2:=E1.out.k2;have zl1:=E1.out.z.lt;have BW1:=hid (aA.below HW.out HW.out.size hWr E1.out.fr);have s10:=S1.out.c0;have m1:=(BW1.out.cell (p:=⟨sb,1,none⟩) hsb).trans HC1.out;have t1:=(BW1.out.cell (p:=⟨tb,0,none⟩) htb).trans HSC.out;have hs1:=S1.out.lt;have hsb1:=zaC hsw E1.out.fr.size;have htb1:=zaC htw E1.out.fr.size;have hz1:w.heap.size<w1.heap.size:=(by omega);have hz2:w.heap.size+1<w1.heap.size:=(by omega);have l0:=HLK.out w1 BW1.out;have l1:=HLK.out w1.drew BW1.out.drew;clear hb1 e0 s0)
 go_region_held3 (fun w'=>w'.cell? ⟨w.heap.size,0,none⟩=some (ptr rb)/\w'.cell? ⟨rb,0,none⟩=some (ptr sb)/\w'.cell? ⟨sb,1,none⟩=some (.map (some mb))/\w'.cell? ⟨w.heap.size+1,2,none⟩=some (.string NM)/\(Instr.lookup 114 (.map (some mb)) (.string NM) false).run Tryz.prog w'=.ok (ptr tb) w') (go_keep) (fail)
 go_wp2_with (go_at_call 100;refine(HR.out _ (by first|exact BW1.out.drew|exact BW1.out) (by first|exact S1.out.drewN 1|exact S1.out)).mono ?_;rintro e w2 ⟨cs,l,r,sk',rfl,hvc,hb2,hrl,hlow,ho⟩;obtain⟨u0,u1,u2,u3,T4,a4,rfl⟩:=hvc.bA;have HVC:=hid hvc;have HO:=hid ho;have HRL:=hid hrl;have HLOW:=hid hlow;have E2:=hid (E1.out.step hrb ((aA.drewN (aA.refl rb w1) 1).trans hb2));have Q2:=hid hb2;have q2:=E2.out.q;obtain⟨zl,zr0,zr1,zr2,zr3,zf0,zf1,zf2,zf3⟩:=E2.out.z;clear hvc ho hrl hlow hb2)
 all_goals
  obtain⟨b,S2,hob⟩:∃ b,Br w2 rb sb r b sk' (d+1)/\((∃ M,T=some (l,M,r)/\b=false/\(d+1=1->w2.ownsRow w1.heap.size 3 1 sk' M.length (M.map ix)))\/(T=none/\b=true)):=by
   rcases HO.out with⟨M,h1,h2,h3⟩|⟨h1,h2⟩
   ·exact⟨false,h2,.inl ⟨M,h1,rfl,h3⟩⟩
   ·exact⟨true,h2,.inr ⟨h1,rfl⟩⟩
  have hfin:∀ W4,aA (w.heap.size+1+1) w2 W4->BrOut T s rb sb d w (.returned (.agg #[.int .u8 u0,.string T4,.int .i64 u1,.slice a4 u2 u3])) (W4.setCell ⟨rb,4,none⟩ (.int .i64 d)):=fun W4 hb4=>by
   have S4:=(S2.beside hb4 (by omega)).dep d;have hset:=aA.set rb W4 4 (.int .i64 d);refine⟨[.int .u8 u0,.string T4,.int .i64 u1,.slice a4 u2 u3],l,r,sk',rfl,?_,(E2.out.fr.on hb4 (by omega)).trans hset,HRL.out,fun h=>HLOW.out (by omega),?_⟩
   ·exact VC.keep (P:=fun b=>w1.heap.size<=b) (fun b hp hlt=>⟨by have:w1.heap.size<=b:=hp;omega,(hset.block b (zaC hlt hb4.size) (by have:w1.heap.size<=b:=hp;omega)).trans (hb4.block b hlt (by have:w1.heap.size<=b:=hp;omega))⟩) (zaI hb4.size hset.size) _ _ HVC.out
   ·rcases hob with⟨M,h1,rfl,h3⟩|⟨h1,rfl⟩
    ·exact .inl ⟨M,h1,S4,fun hd0=>owns_base (cT (cT (h3 (by omega)) hb4 (by omega)) hset (by omega)) (by omega)⟩
    ·exact .inr ⟨h1,S4⟩
  have hb4:∀ W4,aA (w.heap.size+1+1) w2 W4->aA (w.heap.size+1+1) w2 W4:=fun _ h=>h;refine bdoor_b (s:=s) E2.out S2 hrb hd rfl ?_ (x0:=.int .u8 u0) (x1:=.string T4) (x2:=.int .i64 u1) (x3:=.slice a4 u2 u3) (by simp[go_sem, *]) (by simp[go_sem, *]) (by simp[go_sem, *]) (by simp[go_sem, *]) (hfin _ ?_);all_goals repeat (first|with_reducible exact aA.refl _ _|with_reducible refine aA.drew ?_|with_reducible refine aA.alloc ?_ _|with_reducible refine aA.trans ?_ (aA.set _ _ _ _))
theorem brOut_low {T:Option (List Wf.V × List Nat × List UInt8)} {o:Option (Wf.V × List UInt8)} {s:List UInt8} {rb sb d:Nat} {w w':World} {e:Ending} (h:BrOut T s rb sb d w e w') (hd:d≠0) (ho:o=T.map fun y=>(.mk 82 [] 0 y.1,y.2.2)):BvOut o s rb sb (.slice none 0 0) d w e w':=by
 obtain⟨cs,l,r,sk',he,hv,hb,hr,hl,hc⟩:=h;rw[hl hd] at hc;refine⟨cs,.mk 82 [] 0 l,r,he,hv,hb,hr,?_⟩;rcases hc with⟨L,h1,h2,_⟩|⟨h1,h2⟩
 ·exact .inl ⟨by rw[ho,h1];rfl,h2⟩
 ·exact .inr ⟨by rw[ho,h1];rfl,h2⟩
theorem ref_laid {x:Wf.Sc} {lo sb:Nat} {W:World} (hsc:ScL W lo sb x) {nm:List UInt8} (hk:KOk x (.ref nm)):∃ mb t tb,sb<W.heap.size/\W.cell? ⟨sb,1,none⟩=some (.map (some mb))/\x.find nm=some t/\t∈x/\TyL W lo tb t/\(∀ wz,Below W.heap.size W wz->(Instr.lookup 114 (.map (some mb)) (.string ⟨nm.toArray⟩) false).run Tryz.prog wz=.ok (ptr tb) wz):=by
 obtain⟨mb,hsz,hc1,hnm⟩:=hsc.named;obtain⟨t,ht⟩:=Option.isSome_iff_exists.1 (show(x.find nm).isSome=true by simpa[Wf.aL,Wf.K.base,Wf.K.name] using hk.ref);have hnl:nm.length<=12:=by have:=eZ (.ref nm);have h2:=hk.len;simp only[Wf.K.name] at this;omega
 rcases hnm ⟨nm.toArray⟩ (by rw[aW];omega) with⟨h0,_⟩|⟨t',b,h1,hT,hl⟩
 ·rw[show(⟨nm.toArray⟩:ByteArray).data.toList=nm from rfl,ht] at h0;cases h0
 rw[show(⟨nm.toArray⟩:ByteArray).data.toList=nm from rfl,ht] at h1;obtain rfl:t=t':=Option.some.inj h1;exact⟨mb,t,b,hsz,hc1,ht,(Wf.bK ht).1,hT,hl⟩
theorem bvalue (x:Wf.Sc) (hx:Wf.ScOk x) (lo sb:Nat) (W:World) (hsc:ScL W lo sb x):∀ (n:Nat) (k:Wf.K),KOk x k->Rb x sb W n k:=by
 intro n;induction n with
 | zero =>
  intro k hk rb s d w hWr hnd hd1 hW H hs;obtain rfl:d=13:=by omega
  refine(bval_deep rb sb s (.slice none 0 0) k w H).mono ?_;rintro e w' ⟨rfl,hb,hbr⟩;exact⟨_,.mk 0 [] 0 [],s,rfl,VC.leaf 0 [] 0 (by omega) (by decide),hb,zaA,.inr ⟨rfl,hbr⟩⟩
 | succ n ih =>
  intro k hk rb s d w hWr hnd hd1 hW H hs;cases k with
  | num=>exact bval_num x n rb sb s _ d w hs (by omega) H
  | txt=>exact bval_txt x n rb sb s _ d w hs (by omega) H
  | flag=>exact bval_flag x n rb sb s _ d w hs (by omega) H
  | list k=>exact bval_list_any x n rb sb W k s _ d w hW hWr (ih k hk.list) rfl hs hnd H
  | opt k=>exact bval_opt x n rb sb W k s _ d w hW hWr (ih k hk.opt) rfl hs hnd H
  | ref nm =>
   obtain⟨mb,t,tb,hsz,hc1,hf,hm,hT,hl⟩:=ref_laid hsc hk;have htok:=hx.tys t hm;have ht:t.fields.length<=1000:=(by have:=htok.len;omega);have hIH:t.sort≠69->∀ f∈t.fields,Rb x sb W n f.kind:=fun h69 f hf=>ih f.kind (KOk.fld hx hm h69 hf);rcases htok.sort with h|h|h
   ·refine(bval_rec x n rb sb W nm s _ d w lo mb tb t hf ht hW hWr hsz hc1 hl hT h hs (by omega) rfl (Wf.recB x t (fun k' s'=>Wf.getB x n k' s') 0 s) (fun wz hb hbr=>brec x hx t hm n rb sb W s (d+1) wz lo tb hb hWr hsc hT ht h (hIH (by rw[h];decide)) hs (by omega) (by omega) hbr) H).mono fun e w' h'=>brOut_low h' (by omega) (Wf.getB_rec hf h s)
   ·exact bval_uni x n rb sb W nm s _ d w lo mb tb t hf ht hW hWr hsz hc1 hl hT (Wf.gW hx) h hnd hs (hIH (by rw[h];decide)) H
   ·exact bval_enm x n rb sb W nm s _ d w lo mb tb t hf ht hW hWr hsz hc1 hl hT h hs (by omega) H
def skB (x:Wf.Sc) (n:Nat):Wf.K->List UInt8->List Nat
 | .ref nm,s=>match x.find nm with
  | some t=>if t.sort=82 then (match Wf.recB x t (fun k' s'=>Wf.getB x n k' s') 0 s with|some y=>y.2.1|none=>[]) else []
  | none=>[]
 | _,_=>[]
theorem bvalue_top (x:Wf.Sc) (hx:Wf.ScOk x) (lo sb rb:Nat) (W:World) (hsc:ScL W lo sb x) (hWr:W.heap.size<=rb) (k:Wf.K) (hk:KOk x k) (s:List UInt8) (w:World) (hW:Below W.heap.size W w) (H:Br w rb sb s false (.slice none 0 0) 0) (hs:s.length<=600):Calls Tryz.prog 57 #[ptr rb,kV k] w fun e w'=>∃ cs v r sk',e=.returned (.agg cs.toArray)/\VC w' (fun b=>w.heap.size<=b) v cs/\aA rb w w'/\r.length<=s.length/\((Wf.getB x 13 k s=some (v,r)/\Br w' rb sb r false sk' 0/\w'.ownsRow w.heap.size 3 1 sk' (skB x 12 k s).length ((skB x 12 k s).map ix))\/(Wf.getB x 13 k s=none/\Br w' rb sb r true sk' 0)):=by
 have ih:=fun k hk=>bvalue x hx lo sb W hsc 12 k hk;have low:skB x 12 k s=[]->∀ e w',BvOut (Wf.getB x 13 k s) s rb sb (.slice none 0 0) 0 w e w'->∃ cs v r sk',e=.returned (.agg cs.toArray)/\VC w' (fun b=>w.heap.size<=b) v cs/\aA rb w w'/\r.length<=s.length/\((Wf.getB x 13 k s=some (v,r)/\Br w' rb sb r false sk' 0/\w'.ownsRow w.heap.size 3 1 sk' (skB x 12 k s).length ((skB x 12 k s).map ix))\/(Wf.getB x 13 k s=none/\Br w' rb sb r true sk' 0)):=by
  rintro h0 e w' ⟨cs,v,r,he,hv,hb,hr,ho⟩;refine⟨cs,v,r,.slice none 0 0,he,hv,hb,hr,?_⟩;rcases ho with⟨h1,h2⟩|⟨h1,h2⟩
  ·exact .inl ⟨h1,h2,by rw[h0];exact World.ownsRow_nil _ _ _ _⟩
  ·exact .inr ⟨h1,h2⟩
 cases k with
 | num=>exact(bval_num x 12 rb sb s _ 0 w hs (by omega) H).mono (low rfl)
 | txt=>exact(bval_txt x 12 rb sb s _ 0 w hs (by omega) H).mono (low rfl)
 | flag=>exact(bval_flag x 12 rb sb s _ 0 w hs (by omega) H).mono (low rfl)
 | list k=>exact(bval_list_any x 12 rb sb W k s _ 0 w hW hWr (ih k hk.list) rfl hs (by omega) H).mono (low rfl)
 | opt k=>exact(bval_opt x 12 rb sb W k s _ 0 w hW hWr (ih k hk.opt) rfl hs (by omega) H).mono (low rfl)
 | ref nm =>
  obtain⟨mb,t,tb,hsz,hc1,hf,hm,hT,hl⟩:=ref_laid hsc hk;have htok:=hx.tys t hm;have ht:t.fields.length<=1000:=by have:=htok.len;omega
  have hIH:t.sort≠69->∀ f∈t.fields,Rb x sb W 12 f.kind:=fun h69 f hf=>ih f.kind (KOk.fld hx hm h69 hf);rcases htok.sort with h|h|h
  ·refine(bval_rec x 12 rb sb W nm s _ 0 w lo mb tb t hf ht hW hWr hsz hc1 hl hT h hs (by omega) rfl (Wf.recB x t (fun k' s'=>Wf.getB x 12 k' s') 0 s) (fun wz hb hbr=>brec x hx t hm 12 rb sb W s 1 wz lo tb hb hWr hsc hT ht h (hIH (by rw[h];decide)) hs (by omega) (by omega) hbr) H).mono ?_
   rintro e w' ⟨cs,l,r,sk',he,hv,hb,hr,_,ho⟩;have hG:=Wf.getB_rec (n:=12) hf h s;refine⟨cs,.mk 82 [] 0 l,r,sk',he,hv,hb,hr,?_⟩;rcases ho with⟨L,h1,h2,h3⟩|⟨h1,h2⟩
   ·have hs:skB x 12 (.ref nm) s=L:=by simp only[skB,hf];rw[if_pos h,h1]
    exact .inl ⟨by rw[hG,h1];rfl,h2,by rw[hs];exact h3 rfl⟩
   ·exact .inr ⟨by rw[hG,h1];rfl,h2⟩
  ·exact(bval_uni x 12 rb sb W nm s _ 0 w lo mb tb t hf ht hW hWr hsz hc1 hl hT (Wf.gW hx) h (by omega) hs (hIH (by rw[h];decide)) H).mono (low (by simp only[skB,hf];rw[if_neg (by rw[h];decide)]))
  ·exact(bval_enm x 12 rb sb W nm s _ 0 w lo mb tb t hf ht hW hWr hsz hc1 hl hT h hs (by omega) H).mono (low (by simp only[skB,hf];rw[if_neg (by rw[h];decide)]))

def bQ (x:Wf.Sc) (k:Wf.K) (s:List UInt8) (w:World) (e:Ending) (w':World):Prop:=match Wf.valIn x k s with
 | some v=>∃ cs,e=.returned (.tuple #[.agg cs.toArray,.bool true])/\VC w' (fun b=>w.heap.size<=b) v cs
 | none=>e=.returned (.tuple #[.agg #[.int .u8 0,.string ⟨#[]⟩,.int .i64 0,.slice none 0 0],.bool false])
theorem bQ.no {x:Wf.Sc} {k:Wf.K} {s:List UInt8} {w w':World} {e:Ending} (h:Wf.valIn x k s=none) (he:e=.returned (.tuple #[.agg #[.int .u8 0,.string ⟨#[]⟩,.int .i64 0,.slice none 0 0],.bool false])):bQ x k s w e w':=by
 unfold bQ;rw[h];exact he
theorem bQ.yes {x:Wf.Sc} {k:Wf.K} {s:List UInt8} {w w':World} {e:Ending} {v:Wf.V} {cs:List Value} (h:Wf.valIn x k s=some v) (he:e=.returned (.tuple #[.agg cs.toArray,.bool true])) (hv:VC w' (fun b=>w.heap.size<=b) v cs):bQ x k s w e w':=by
 unfold bQ;rw[h];exact⟨cs,he,hv⟩
theorem a0A (w:World) (SG BS NM S:ByteArray) (sb:Nat) (W1:World) (hW1:((w.alloc (.cells #[.string SG,.string BS,.string NM] 48)).alloc (.cells #[.int .u8 0,.string ⟨#[]⟩,.int .i64 0,.slice none 0 0] 51)).alloc (.cells #[ptr sb,.string S,.bool false] 132)=W1) :
  W1.cell? ⟨w.heap.size,0,none⟩=some (.string SG)/\W1.cell? ⟨w.heap.size,1,none⟩=some (.string BS)/\W1.cell? ⟨w.heap.size,2,none⟩=some (.string NM)/\Zero W1 (w.heap.size+1)/\Sn W1 (w.heap.size+1+1) sb S.data.toList false/\Below w.heap.size w W1:=by
 have hB:Below w.heap.size w W1:=by
  rw[<-hW1];exact((((zaB).alloc (zaA) _).alloc (by simp) _).alloc (by simp;omega) _)
 subst hW1;refine⟨?_,?_,?_,⟨?_,?_,?_,?_,?_,?_,?_,?_,?_⟩,⟨?_,?_,?_,?_,?_,?_⟩,hB⟩;all_goals first|(simp[go_sem];done)|(simp[go_sem];omega)
section
variable (x:Wf.Sc) (k:Wf.K) (sb:Nat) (s:List UInt8) (W w:World)
theorem a3H (hs:¬ s.length<=400) (hs2:s.length<=9000000000):Calls Tryz.prog 48 #[ptr sb,kV k,tx s] w fun e w'=>bQ x k s w e w'/\Below w.heap.size w w':=by
 have HV:=hid (Wf.sV (x:=x) (k:=k) hs);obtain⟨SG,hSG⟩:∃ SG:ByteArray,(⟨k.signs.toArray⟩:ByteArray)=SG:=⟨_,rfl⟩;obtain⟨BS,hBS⟩:∃ BS:ByteArray,(⟨k.base.toArray⟩:ByteArray)=BS:=⟨_,rfl⟩;obtain⟨NM,hNM⟩:∃ NM:ByteArray,(⟨k.name.toArray⟩:ByteArray)=NM:=⟨_,rfl⟩;obtain⟨S,hS⟩:∃ S:ByteArray,(⟨s.toArray⟩:ByteArray)=S:=⟨_,rfl⟩;have hsz:400<S.size:=by rw[<-hS];show 400<s.length;omega
 have hsz2:S.size<=9000000000:=by rw[<-hS];exact hs2
 simp only[kV,tx,hSG,hBS,hNM,hS];clear hSG hBS hNM hS hs hs2;go_enter Tryz.func48,Tryz.ntmps48;go_wp2_with fail
 exact zbD (v:=.tuple #[.agg #[.int .u8 0,.string ⟨#[]⟩,.int .i64 0,.slice none 0 0],.bool false]) (by simp[results,Tryz.results48,go_sem, *]) rfl ⟨bQ.no HV.out rfl,by repeat (first|with_reducible exact zaB|with_reducible refine zbE ?_|with_reducible refine zbF ?_ (by simp) _|with_reducible refine zbG ?_ (by first|exact zaA|simp) _)⟩
theorem yY (hx:Wf.ScOk x) (lo:Nat) (hsc:ScL W lo sb x) (hk:KOk x k) (hs:s.length<=400) (hW:Below W.heap.size W w):Calls Tryz.prog 48 #[ptr sb,kV k,tx s] w fun e w'=>bQ x k s w e w'/\Below w.heap.size w w':=by
 have HV:=hid (Wf.a2H (x:=x) (k:=k) hs);have hrd:=value x hx lo (w.heap.size+1+1) sb W hsc (by have:=hW.size;omega) 401 k hk;obtain⟨SG,hSG⟩:∃ SG:ByteArray,(⟨k.signs.toArray⟩:ByteArray)=SG:=⟨_,rfl⟩;obtain⟨BS,hBS⟩:∃ BS:ByteArray,(⟨k.base.toArray⟩:ByteArray)=BS:=⟨_,rfl⟩;obtain⟨NM,hNM⟩:∃ NM:ByteArray,(⟨k.name.toArray⟩:ByteArray)=NM:=⟨_,rfl⟩;obtain⟨S,hS⟩:∃ S:ByteArray,(⟨s.toArray⟩:ByteArray)=S:=⟨_,rfl⟩;have hsz:S.size<=400:=by rw[<-hS];exact hs
 have hsl:S.data.toList=s:=by rw[<-hS]
 have HSL:=hid hsl;have hkv:kV k=.agg #[.string SG,.string BS,.string NM]:=by simp only[kV,tx,hSG,hBS,hNM]
 have HRD:=hid fun(w2:World) (hb:Below W.heap.size W w2) (h:Sn w2 (w.heap.size+1+1) sb S.data.toList false)=>(by rw[hsl] at h;rw[<-hkv];exact hrd s w2 hb h (by omega) hs:Calls Tryz.prog 74 #[ptr (w.heap.size+1+1),.agg #[.string SG,.string BS,.string NM]] w2 fun e w'=>aP (Wf.parse x 401 k s) s (w.heap.size+1+1) sb w2 e w');have ST:=hid fun W1 h=>a0A w SG BS NM S sb W1 h;have HW:=hid hW;simp only[hkv,tx,hS];clear hkv hSG hBS hNM hS hsl hrd hs hW hsc hx hk;have hrb:w.heap.size+1<w.heap.size+1+1:=by omega
 cases hp:Wf.parse x 401 k s with
 | none =>
  have HP:=hid hp;rw[hp] at HRD HV;have HVN:=hid (show Wf.valIn x k s=none from HV.out);clear hp HV;go_enter Tryz.func48,Tryz.ntmps48;go_wp2_with (go_at_call 74;obtain⟨d0,d1,d2,z0,sn0,b0⟩:=ST.out _ rfl;refine(HRD.out _ (HW.out.trans (b0.mono HW.out.size)) sn0).mono ?_;rintro e w2 ⟨cs,v,r,rfl,hvc,hb2,ho⟩;obtain⟨q2,g2,n2,c2,T2,a2,rfl⟩:=hvc.bA;have hs2:Sn w2 (w.heap.size+1+1) sb r true:=(by rcases ho with⟨h,_⟩|⟨_,_,h⟩;(· cases h);(· exact h));have t1:=hs2.c1;have t2:=hs2.c2;have t3:=hs2.lt;have Z2:=hid (z0.step hb2 (by omega));obtain⟨zl,zr0,zr1,zr2,zr3,zf0,zf1,zf2,zf3⟩:=Z2.out;have BW2:=hid (aA.below (Below.refl w.heap.size w) (zaA) (by omega) ((aA.aF (rb:=w.heap.size+1+1) b0 (zaA)).trans hb2));have SZ0:=hid b0.size;have SZ1:=hid sn0.lt;have HVC:=hid hvc;clear hvc hb2 ho d0 d1 d2 z0 sn0 b0 hs2)
  all_goals exact zbD (v:=.tuple #[.agg #[.int .u8 0,.string ⟨#[]⟩,.int .i64 0,.slice none 0 0],.bool false]) (by simp[results,Tryz.results48,go_sem, *]) rfl ⟨bQ.no HVN.out rfl,by have B:=BW2.out;repeat (first|with_reducible exact B|with_reducible refine zbE ?_|with_reducible refine zbF ?_ (by simp) _|with_reducible refine zbG ?_ (by first|exact B.size|(simp;omega)) _)⟩
 | some y =>
  obtain⟨u,q⟩:=y;have htd:=(Wf.iE 401 k u (Wf.eH _ _ _ _ _ hp).1).2;obtain⟨Q,hQ⟩:∃ Q:ByteArray,(⟨q.toArray⟩:ByteArray)=Q:=⟨_,rfl⟩;have HQ:=hid hQ;rw[hp] at HRD HV;by_cases hq:q=[]
  ·have hqe:Q.toList.isEmpty=true:=by rw[<-hQ,zaZ,hq];rfl
   have hqe2:Q.toList=[]:=List.isEmpty_iff.1 hqe;obtain⟨D,hD⟩:∃ D,u.deep=D:=⟨_,rfl⟩;have hD6:D<=401:=(by rw[<-hD];exact htd);have HDP:=hid fun(P:Nat->Prop) (cs:List Value) (W2 w2:World) (hv:VC W2 P u cs) (hb:Below W2.heap.size W2 w2)=>(by rw[<-hD];exact deep u P cs W2 w2 hv hb (by omega):Calls Tryz.prog 75 #[.agg cs.toArray] w2 fun e w'=>e=.returned (.int .i64 D)/\Below w2.heap.size w2 w');by_cases hd:D<=12
   ·have HVY:=hid (show Wf.valIn x k s=some u by rw[HV.out];dsimp only;rw[if_pos ⟨hq,by omega⟩])
    clear hp HV hq hQ hD;go_enter Tryz.func48,Tryz.ntmps48;go_wp2_with (first|(go_at_call 75;have _u:=HVC;refine(HDP.out _ _ w2 _ HVC.out ((zaB).alloc (zaA) _)).mono ?_;rintro e w3 ⟨rfl,hb3⟩;have B3:=hid (aE ((Below.refl w2.heap.size w2).alloc (zaA) _) hb3);obtain⟨hc3,hf3⟩:=bcell hb3;have hz3:w2.heap.size<w3.heap.size:=(by have:=hb3.size;simp at this;omega);have Z3:=hid (Z2.out.below B3.out Z2.out.lt);obtain⟨yl,yr0,yr1,yr2,yr3,yf0,yf1,yf2,yf3⟩:=Z3.out;clear hb3)|(go_at_call 74;obtain⟨d0,d1,d2,z0,sn0,b0⟩:=ST.out _ rfl;refine(HRD.out _ (HW.out.trans (b0.mono HW.out.size)) sn0).mono ?_;rintro e w2 ⟨cs,v,r,rfl,hvc,hb2,ho⟩;obtain⟨q2,g2,n2,c2,T2,a2,rfl⟩:=hvc.bA;obtain⟨rfl,rfl,hs2⟩:v=u/\r=q/\Sn w2 (w.heap.size+1+1) sb r false:=(by rcases ho with⟨h,h2⟩|⟨h,_⟩;(· simp only[zaE,zaK] at h;obtain⟨rfl,rfl⟩:=h;exact⟨rfl,rfl,h2⟩);(· cases h));have t1:=hs2.c1;rw[tx,HQ.out] at t1;have t2:=hs2.c2;have t3:=hs2.lt;have Z2:=hid (z0.step hb2 (by omega));obtain⟨zl,zr0,zr1,zr2,zr3,zf0,zf1,zf2,zf3⟩:=Z2.out;have BW2:=hid (aA.below (Below.refl w.heap.size w) (zaA) (by omega) ((aA.aF (rb:=w.heap.size+1+1) b0 (zaA)).trans hb2));have SZ0:=hid b0.size;have SZ1:=hid sn0.lt;have HVC:=hid hvc;clear hvc hb2 ho d0 d1 d2 z0 sn0 b0 hs2))
    all_goals exact zbD (v:=.tuple #[.agg #[.int .u8 q2,.string T2,.int .i64 g2,.slice a2 n2 c2],.bool true]) (by simp[results,Tryz.results48,go_sem, *]) rfl (by
     have hR:∀ W4,aA (w.heap.size+1) w3 W4->(bQ x k s w (.returned (.tuple #[.agg #[.int .u8 q2,.string T2,.int .i64 g2,.slice a2 n2 c2],.bool true])) W4/\Below w.heap.size w W4):=fun W4 hb=>by
      refine⟨bQ.yes HVY.out (cs:=[.int .u8 q2,.string T2,.int .i64 g2,.slice a2 n2 c2]) rfl (VC.keep (fun b hp hlt=>⟨zaI SZ0.out hp,?_⟩) (zaI B3.out.size hb.size) _ _ HVC.out),aA.below (BW2.out.trans (B3.out.mono BW2.out.size)) (zaI BW2.out.size B3.out.size) (by omega) hb⟩;have h1:w.heap.size+1+1<b+0:=(by have:=SZ1.out;omega);exact(hb.block b (zaC hlt B3.out.size) (by omega)).trans (B3.out.block b hlt)
     refine hR _ ?_;repeat (first|with_reducible exact aA.refl _ _|with_reducible refine aA.drew ?_|with_reducible refine aA.trans ?_ (aA.set _ _ _ _)))
   ·have hd2:12<D:=by omega
    have HVN:=hid (show Wf.valIn x k s=none by rw[HV.out];dsimp only;rw[if_neg (by rintro⟨_,h⟩;omega)]);clear hp HV hq hQ hD hd;go_enter Tryz.func48,Tryz.ntmps48;go_wp2_with (first|(go_at_call 75;have _u:=HVC;refine(HDP.out _ _ w2 _ HVC.out ((zaB).alloc (zaA) _)).mono ?_;rintro e w3 ⟨rfl,hb3⟩;have B3:=hid (aE ((Below.refl w2.heap.size w2).alloc (zaA) _) hb3);obtain⟨hc3,hf3⟩:=bcell hb3;have hz3:w2.heap.size<w3.heap.size:=(by have:=hb3.size;simp at this;omega);have Z3:=hid (Z2.out.below B3.out Z2.out.lt);obtain⟨yl,yr0,yr1,yr2,yr3,yf0,yf1,yf2,yf3⟩:=Z3.out;clear hb3)|(go_at_call 74;obtain⟨d0,d1,d2,z0,sn0,b0⟩:=ST.out _ rfl;refine(HRD.out _ (HW.out.trans (b0.mono HW.out.size)) sn0).mono ?_;rintro e w2 ⟨cs,v,r,rfl,hvc,hb2,ho⟩;obtain⟨q2,g2,n2,c2,T2,a2,rfl⟩:=hvc.bA;obtain⟨rfl,rfl,hs2⟩:v=u/\r=q/\Sn w2 (w.heap.size+1+1) sb r false:=(by rcases ho with⟨h,h2⟩|⟨h,_⟩;(· simp only[zaE,zaK] at h;obtain⟨rfl,rfl⟩:=h;exact⟨rfl,rfl,h2⟩);(· cases h));have t1:=hs2.c1;rw[tx,HQ.out] at t1;have t2:=hs2.c2;have t3:=hs2.lt;have Z2:=hid (z0.step hb2 (by omega));obtain⟨zl,zr0,zr1,zr2,zr3,zf0,zf1,zf2,zf3⟩:=Z2.out;have BW2:=hid (aA.below (Below.refl w.heap.size w) (zaA) (by omega) ((aA.aF (rb:=w.heap.size+1+1) b0 (zaA)).trans hb2));have SZ0:=hid b0.size;have SZ1:=hid sn0.lt;have HVC:=hid hvc;clear hvc hb2 ho d0 d1 d2 z0 sn0 b0 hs2))
    all_goals exact zbD (v:=.tuple #[.agg #[.int .u8 0,.string ⟨#[]⟩,.int .i64 0,.slice none 0 0],.bool false]) (by simp[results,Tryz.results48,go_sem, *]) rfl ⟨bQ.no HVN.out rfl,by have B:=(BW2.out.trans (B3.out.mono BW2.out.size));repeat (first|with_reducible exact B|with_reducible refine zbE ?_|with_reducible refine zbF ?_ (by simp) _|with_reducible refine zbG ?_ (by first|exact B.size|(simp;omega)) _)⟩
  ·have hqe:Q.toList.isEmpty=false:=by rw[<-hQ,zaZ];cases q with|nil=>exact absurd rfl hq|cons a r=>rfl
   have hqe2:Q.toList≠[]:=(by rw[<-hQ,zaZ];exact hq);have HVN:=hid (show Wf.valIn x k s=none by rw[HV.out];dsimp only;rw[if_neg (fun h=>hq h.1)]);clear hp HV hq hQ;go_enter Tryz.func48,Tryz.ntmps48;go_wp2_with (go_at_call 74;obtain⟨d0,d1,d2,z0,sn0,b0⟩:=ST.out _ rfl;refine(HRD.out _ (HW.out.trans (b0.mono HW.out.size)) sn0).mono ?_;rintro e w2 ⟨cs,v,r,rfl,hvc,hb2,ho⟩;obtain⟨q2,g2,n2,c2,T2,a2,rfl⟩:=hvc.bA;obtain⟨rfl,rfl,hs2⟩:v=u/\r=q/\Sn w2 (w.heap.size+1+1) sb r false:=(by rcases ho with⟨h,h2⟩|⟨h,_⟩;(· simp only[zaE,zaK] at h;obtain⟨rfl,rfl⟩:=h;exact⟨rfl,rfl,h2⟩);(· cases h));have t1:=hs2.c1;rw[tx,HQ.out] at t1;have t2:=hs2.c2;have t3:=hs2.lt;have Z2:=hid (z0.step hb2 (by omega));obtain⟨zl,zr0,zr1,zr2,zr3,zf0,zf1,zf2,zf3⟩:=Z2.out;have BW2:=hid (aA.below (Below.refl w.heap.size w) (zaA) (by omega) ((aA.aF (rb:=w.heap.size+1+1) b0 (zaA)).trans hb2));have SZ0:=hid b0.size;have SZ1:=hid sn0.lt;have HVC:=hid hvc;clear hvc hb2 ho d0 d1 d2 z0 sn0 b0 hs2)
   all_goals exact zbD (v:=.tuple #[.agg #[.int .u8 0,.string ⟨#[]⟩,.int .i64 0,.slice none 0 0],.bool false]) (by simp[results,Tryz.results48,go_sem, *]) rfl ⟨bQ.no HVN.out rfl,by have B:=BW2.out;repeat (first|with_reducible exact B|with_reducible refine zbE ?_|with_reducible refine zbF ?_ (by simp) _|with_reducible refine zbG ?_ (by first|exact B.size|(simp;omega)) _)⟩
end
