/- Packed. -/
import Derived.Test.YtidjpalnmnehmaaGreatDoorK23
set_option maxRecDepth 99999
set_option maxHeartbeats 40000000
set_option linter.all false
namespace Go.Proofs.YtidjpalnmnehmaaGreatDoor
open Go.ChangeShapes Go.WideShapes Go.ChangeAt Go.RowKit Go.Lib
theorem VC.one {W:World} {P:Nat->Prop} {b o:Nat} {cs:List Value} {v:Wf.V} (hv:VC W P v cs) (hb:P b) (hlt:b<W.heap.size) (hc:∀ j u,cs[j]? = some u->W.cell? ⟨b,o+j,none⟩=some u) (what:UInt8) (text:List UInt8) (tag:Nat) (hs:gL what tag [v]):VC W P (.mk what text tag [v]) [.int .u8 what.toNat,tx text,.int .i64 tag,.slice (some ⟨b,o,none⟩) 1 1]:=by
 simp only[VC,VCs];exact⟨some ⟨b,o,none⟩,1,rfl,zaA,by unfold maxLen;omega,hs,.inr ⟨b,o,rfl,hb,hlt,⟨cs,hv,hc⟩,trivial⟩⟩
structure Zero (wr:World) (b:Nat):Prop where
 lt:b<wr.heap.size
 r0:wr.cell? ⟨b,0,none⟩=some (.int .u8 0)
 r1:wr.cell? ⟨b,1,none⟩=some (.string ⟨#[]⟩)
 r2:wr.cell? ⟨b,2,none⟩=some (.int .i64 0)
 r3:wr.cell? ⟨b,3,none⟩=some (.slice none 0 0)
 f0:wr.frozen? ⟨b,0,none⟩=false
 f1:wr.frozen? ⟨b,1,none⟩=false
 f2:wr.frozen? ⟨b,2,none⟩=false
 f3:wr.frozen? ⟨b,3,none⟩=false
theorem Zero.same {wr w2:World} {b:Nat} (h:Zero wr b) (hs:wr.heap.size<=w2.heap.size) (h1:w2.heap[b]? = wr.heap[b]?):Zero w2 b:=by
 have cd:=fun o=>zbJ (w:=wr) (w':=w2) (a:=⟨b,o,none⟩) h1;have cf:=fun o=>World.frozen?_of_block (w:=wr) (w':=w2) (a:=⟨b,o,none⟩) h1;exact⟨zaC h.lt hs,(cd 0).trans h.r0,(cd 1).trans h.r1,(cd 2).trans h.r2,(cd 3).trans h.r3,(cf 0).trans h.f0,(cf 1).trans h.f1,(cf 2).trans h.f2,(cf 3).trans h.f3⟩
theorem Zero.step {wr w2:World} {b rb:Nat} (h:Zero wr b) (hb:aA rb wr w2) (hr:b≠rb):Zero w2 b:=h.same hb.size (hb.block _ h.lt hr)
theorem Zero.below {wr w2:World} {b B:Nat} (h:Zero wr b) (hb:Below B wr w2) (hr:b<B):Zero w2 b:=h.same hb.size (hb.block _ hr)
theorem eE (w:World):Zero (w.alloc (.cells #[.int .u8 0,.string ⟨#[]⟩,.int .i64 0,.slice none 0 0] 51)) w.heap.size:=by
 refine⟨?_,?_,?_,?_,?_,?_,?_,?_,?_⟩ <;> simp[go_sem]
section
variable (x:Wf.Sc) (rb sb:Nat) (W:World) (n:Nat) (t:Wf.Ty) (s:List UInt8) (w:World)
theorem mA (bad:Bool) (ht:t.fields.length<=1000) (hs:s.length<=400) (lo tb:Nat) (hW:Below W.heap.size W w) (hT:TyL W lo tb t) (hWr:W.heap.size<=rb) (H:Sn w rb sb s bad) (hno:¬ (bad=false/\∃ g q f,Wf.aO 200 s=some (g,61::q)/\t.field g=some f)):Calls Tryz.prog 145 #[ptr rb,ptr tb] w fun e w'=>aA rb w w'/\∃ r,e=.returned (.tuple #[.agg #[.int .u8 0,.string ⟨#[]⟩,.int .i64 0,.slice none 0 0],.pointer none])/\r.length<=s.length/\Sn w' rb sb r true:=by
 obtain⟨m,hm⟩:∃ m,numV (s.takeWhile Wf.aD)=m:=⟨_,rfl⟩;obtain⟨s1,hs1⟩:∃ s1,s.dropWhile Wf.aD=s1:=⟨_,rfl⟩;obtain⟨b1,hb1⟩:∃ b1,(bad || !(Wf.aI (s.takeWhile Wf.aD) 200).isSome)=b1:=⟨_,rfl⟩;have HNUM:=hid fun w2 (h:Sn w2 rb sb s bad)=>number rb sb w2 s bad 200 (by omega) (by omega) h;rw[hm,hs1,hb1] at HNUM;have HFD:=hid fun(w2:World) (hb:Below W.heap.size W w2)=>field t ht m lo tb W w2 hb hT;have HLE:=hid (show s1.length<=s.length by rw[<-hs1];exact(List.dropWhile_suffix _).length_le);have hkey:b1=false->∀ q,s1=61::q->bJ t m=none:=fun h q hq=>by
  rw[h,Bool.or_eq_false_iff] at hb1;cases hp:Wf.aI (s.takeWhile Wf.aD) 200 with
  | none=>rw[hp] at hb1;simp at hb1
  | some g =>
   have hmg:m=g:=(by rw[<-hm];exact iB hp);have hnt:Wf.aO 200 s=some (g,61::q):=(by rw[Wf.aO,hp,hs1,hq];rfl);rw[hmg,cJ];cases hf:t.field g with
   | none=>rfl
   | some f=>exact absurd ⟨hb1.1,g,q,f,hnt,hf⟩ hno
 have HW:=hid hW;have HH:=hid H;have hrb:=H.lt;have hmle:m<=999999:=by rw[<-hm];exact fV _
 clear hno H hT hW hm hs1 hb1;by_cases hY:b1=false/\∃ q,s1=61::q
 ·obtain⟨rfl,q,rfl⟩:=hY
  have HFI:=hid (hkey rfl q rfl);have HL2:=hid (show q.length<=s.length by have:=HLE.out;simp at this;omega);clear hkey;have HFD2:=hid fun(w2:World) (hb:Below W.heap.size W w2)=>(HFD.out w2 hb).mono (R:=fun e w'=>aS W t m e/\w2=w') (R':=fun e w'=>e=.returned (.pointer none)/\w2=w') fun e w' h=>⟨aS.no (W:=W) (t:=t) (g:=m) (e:=e) h.1 HFI.out,h.2⟩;go_enter Tryz.func145,Tryz.ntmps145;go_wp2_with (first|(go_at_call 113;refine(bS rb sb _ [61] q S1.out).mono ?_;rintro e w3 ⟨rfl,hs3,hb3⟩;have HS3:=hid hs3;have HB3:=hid (HB1.out.trans hb3);have c2:=hs3.c2;have f2:=hs3.f2;have hlt:=hs3.lt;have ZZ3:=hid (ZZ.out.step hb3 (by omega));obtain⟨zl,zr0,zr1,zr2,zr3,zf0,zf1,zf2,zf3⟩:=ZZ3.out;clear hs3 hb3)|(go_at_call 40;refine(HFD2.out _ BW1.out).mono ?_;rintro e w2 ⟨rfl,rfl⟩)|(go_at_call 114;have b0:=(Below.refl w.heap.size w).alloc (zaA) (.cells #[.int .u8 0,.string ⟨#[]⟩,.int .i64 0,.slice none 0 0] 51);refine(HNUM.out _ (HH.out.below b0)).mono ?_;rintro e w1 ⟨rfl,hs1,hb1⟩;have B0:=hid b0;have S1:=hid hs1;have ZZ:=hid ((eE w).step hb1 (by omega));have HB1:=hid ((aA.aF b0 (zaA)).trans hb1);have HB1a:=hid hb1;have BW1:=hid (aA.below HW.out HW.out.size hWr HB1.out);clear b0 hs1 hb1))
  exact zbD (v:=.tuple #[.agg #[.int .u8 0,.string ⟨#[]⟩,.int .i64 0,.slice none 0 0],.pointer none]) (by simp[results,Tryz.results145,go_sem, *]) rfl (by
   refine(fun(wx W4:World) (sn:Sn wx rb sb q true) (hf:aA rb w wx) (hb:aA w.heap.size wx W4)=>⟨hf.on hb (zaA),q,rfl,HL2.out,sn.beside hb (by omega)⟩:∀ wx W4,Sn wx rb sb q true->aA rb w wx->aA w.heap.size wx W4->aA rb w W4/\∃ r,(Ending.returned (.tuple #[.agg #[.int .u8 0,.string ⟨#[]⟩,.int .i64 0,.slice none 0 0],.pointer none]))=.returned (.tuple #[.agg #[.int .u8 0,.string ⟨#[]⟩,.int .i64 0,.slice none 0 0],.pointer none])/\r.length<=s.length/\Sn W4 rb sb r true) (w3.setCell ⟨rb,2,none⟩ (.bool true)) _ HS3.out.fail (HB3.out.trans (aA.set _ _ _ _)) ?_;repeat (first|with_reducible exact aA.refl _ _|with_reducible refine aA.drew ?_|with_reducible refine aA.trans ?_ (aA.set _ _ _ _)))
 ·have HY:=hid (show b1=true\/¬ [61] <+: s1 by
   cases b1 with
   | true=>exact .inl rfl
   | false=>exact .inr fun⟨q,hq⟩=>hY ⟨rfl,q,hq.symm⟩)
  clear hkey hY;cases hfi:bJ t m with
  | none =>
   have HFI:=hid hfi;clear hfi;have HFD2:=hid fun(w2:World) (hb:Below W.heap.size W w2)=>(HFD.out w2 hb).mono (R:=fun e w'=>aS W t m e/\w2=w') (R':=fun e w'=>e=.returned (.pointer none)/\w2=w') fun e w' h=>⟨aS.no (W:=W) (t:=t) (g:=m) (e:=e) h.1 HFI.out,h.2⟩;go_enter Tryz.func145,Tryz.ntmps145;go_wp2_with (first|(go_at_call 113;refine(bQ rb sb _ s1 [61] b1 S1.out HY.out).mono ?_;rintro e w3 ⟨rfl,hs3,hb3⟩;have HS3:=hid hs3;have HB3:=hid (HB1.out.trans hb3);have c2:=hs3.c2;have f2:=hs3.f2;have hlt:=hs3.lt;have ZZ3:=hid (ZZ.out.step hb3 (by omega));obtain⟨zl,zr0,zr1,zr2,zr3,zf0,zf1,zf2,zf3⟩:=ZZ3.out;clear hs3 hb3)|(go_at_call 40;refine(HFD2.out _ BW1.out).mono ?_;rintro e w2 ⟨rfl,rfl⟩)|(go_at_call 114;have b0:=(Below.refl w.heap.size w).alloc (zaA) (.cells #[.int .u8 0,.string ⟨#[]⟩,.int .i64 0,.slice none 0 0] 51);refine(HNUM.out _ (HH.out.below b0)).mono ?_;rintro e w1 ⟨rfl,hs1,hb1⟩;have B0:=hid b0;have S1:=hid hs1;have ZZ:=hid ((eE w).step hb1 (by omega));have HB1:=hid ((aA.aF b0 (zaA)).trans hb1);have HB1a:=hid hb1;have BW1:=hid (aA.below HW.out HW.out.size hWr HB1.out);clear b0 hs1 hb1))
   exact zbD (v:=.tuple #[.agg #[.int .u8 0,.string ⟨#[]⟩,.int .i64 0,.slice none 0 0],.pointer none]) (by simp[results,Tryz.results145,go_sem, *]) rfl (by
    refine(fun(wx W4:World) (sn:Sn wx rb sb s1 true) (hf:aA rb w wx) (hb:aA w.heap.size wx W4)=>⟨hf.on hb (zaA),s1,rfl,HLE.out,sn.beside hb (by omega)⟩:∀ wx W4,Sn wx rb sb s1 true->aA rb w wx->aA w.heap.size wx W4->aA rb w W4/\∃ r,(Ending.returned (.tuple #[.agg #[.int .u8 0,.string ⟨#[]⟩,.int .i64 0,.slice none 0 0],.pointer none]))=.returned (.tuple #[.agg #[.int .u8 0,.string ⟨#[]⟩,.int .i64 0,.slice none 0 0],.pointer none])/\r.length<=s.length/\Sn W4 rb sb r true) (w3.setCell ⟨rb,2,none⟩ (.bool true)) _ HS3.out.fail (HB3.out.trans (aA.set _ _ _ _)) ?_;repeat (first|with_reducible exact aA.refl _ _|with_reducible refine aA.drew ?_|with_reducible refine aA.trans ?_ (aA.set _ _ _ _)))
  | some f =>
   have HFI:=hid hfi;clear hfi;have HFD2:=hid fun(w2:World) (hb:Below W.heap.size W w2)=>(HFD.out w2 hb).mono (R:=fun e w'=>aS W t m e/\w2=w') (R':=fun e w'=>(∃ fb o,e=.returned (.pointer (some ⟨fb,o,none⟩)))/\w2=w') fun e w' h=>⟨let ⟨fb,o,he,_⟩:=aS.yes (W:=W) (t:=t) (g:=m) (e:=e) h.1 HFI.out;⟨fb,o,he⟩,h.2⟩;go_enter Tryz.func145,Tryz.ntmps145;go_wp2_with (first|(go_at_call 113;refine(bQ rb sb _ s1 [61] b1 S1.out HY.out).mono ?_;rintro e w3 ⟨rfl,hs3,hb3⟩;have HS3:=hid hs3;have HB3:=hid (HB1.out.trans hb3);have c2:=hs3.c2;have f2:=hs3.f2;have hlt:=hs3.lt;have ZZ3:=hid (ZZ.out.step hb3 (by omega));obtain⟨zl,zr0,zr1,zr2,zr3,zf0,zf1,zf2,zf3⟩:=ZZ3.out;clear hs3 hb3)|(go_at_call 40;refine(HFD2.out _ BW1.out).mono ?_;rintro e w2 ⟨⟨fb,o,rfl⟩,rfl⟩)|(go_at_call 114;have b0:=(Below.refl w.heap.size w).alloc (zaA) (.cells #[.int .u8 0,.string ⟨#[]⟩,.int .i64 0,.slice none 0 0] 51);refine(HNUM.out _ (HH.out.below b0)).mono ?_;rintro e w1 ⟨rfl,hs1,hb1⟩;have B0:=hid b0;have S1:=hid hs1;have ZZ:=hid ((eE w).step hb1 (by omega));have HB1:=hid ((aA.aF b0 (zaA)).trans hb1);have HB1a:=hid hb1;have BW1:=hid (aA.below HW.out HW.out.size hWr HB1.out);clear b0 hs1 hb1))
   exact zbD (v:=.tuple #[.agg #[.int .u8 0,.string ⟨#[]⟩,.int .i64 0,.slice none 0 0],.pointer none]) (by simp[results,Tryz.results145,go_sem, *]) rfl (by
    refine(fun(wx W4:World) (sn:Sn wx rb sb s1 true) (hf:aA rb w wx) (hb:aA w.heap.size wx W4)=>⟨hf.on hb (zaA),s1,rfl,HLE.out,sn.beside hb (by omega)⟩:∀ wx W4,Sn wx rb sb s1 true->aA rb w wx->aA w.heap.size wx W4->aA rb w W4/\∃ r,(Ending.returned (.tuple #[.agg #[.int .u8 0,.string ⟨#[]⟩,.int .i64 0,.slice none 0 0],.pointer none]))=.returned (.tuple #[.agg #[.int .u8 0,.string ⟨#[]⟩,.int .i64 0,.slice none 0 0],.pointer none])/\r.length<=s.length/\Sn W4 rb sb r true) (w3.setCell ⟨rb,2,none⟩ (.bool true)) _ HS3.out.fail (HB3.out.trans (aA.set _ _ _ _)) ?_;repeat (first|with_reducible exact aA.refl _ _|with_reducible refine aA.drew ?_|with_reducible refine aA.trans ?_ (aA.set _ _ _ _)))
def sH (x:Wf.Sc) (n:Nat) (t:Wf.Ty) (s:List UInt8) (rb sb:Nat) (W w:World) (e:Ending) (w':World):Prop :=
 aA rb w w'/\∃ cs f v r fb o,e=.returned (.tuple #[.agg cs.toArray,.pointer (some ⟨fb,o,none⟩)])/\f∈t.fields/\f.tag<=200/\FdAt W fb o t.sort f/\VC w' (fun b=>w.heap.size<=b) (.mk 61 [] f.tag [v]) cs/\((Wf.fieldTok t (fun k s=>Wf.parse x n k s) s=some (f,v,r)/\Sn w' rb sb r false)\/(Wf.fieldTok t (fun k s=>Wf.parse x n k s) s=none/\(∃ q,q.length+2<=s.length/\Wf.Badv q r v)/\Sn w' rb sb r true))
theorem yJ {w w4 W7:World} (hb:aA w.heap.size w4 W7) {B:Nat} {v:Wf.V} {cs:List Value} (hvc:VC w4 (fun b=>B<=b) v cs) (h:w.heap.size<B) {blk:Nat} (hlt:blk<W7.heap.size) (hblk:w.heap.size<=blk) (hc:∀ j u,cs[j]? = some u->W7.cell? ⟨blk,0+j,none⟩=some u) {tag:Nat} (ht:tag<=999999):VC W7 (fun b=>w.heap.size<=b) (.mk 61 [] tag [v]) [.int .u8 61,tx [],.int .i64 tag,.slice (some ⟨blk,0,none⟩) 1 1] :=
 VC.one (VC.keep (P:=fun b=>B<=b) (fun b hp hlt=>⟨by omega,hb.block b hlt (by omega)⟩) hb.size _ _ hvc) hblk hlt hc 61 [] tag ⟨ht,fun _=>.inr (.inr (.inl rfl)),fun _=>rfl⟩
theorem oH (f:Wf.Fd) (g:Nat) (q:List UInt8) (hn:Wf.aO 200 s=some (g,61::q)) (hf:t.field g=some f) (ht:t.fields.length<=1000) (hs:s.length<=400) (lo tb:Nat) (hW:Below W.heap.size W w) (hT:TyL W lo tb t) (hWr:W.heap.size<=rb) (H:Sn w rb sb s false) (h69:t.sort≠69) (IH:Reads x rb sb W n f.kind) (hq:q.length<n):Calls Tryz.prog 145 #[ptr rb,ptr tb] w fun e w'=>sH x n t s rb sb W w e w':=by
 have hg:g<=200:=(Wf.gM hn).2.1;obtain⟨hfm,hft⟩:=Wf.dT hf;have hql:q.length+2<=s.length:=by have:=Wf.gU hn;simp at this;omega
 have HNUM:=hid fun w2 (h:Sn w2 rb sb s false)=>nU rb sb w2 s (61::q) false 200 g (by omega) (by omega) h hn;have HFD:=hid fun(w2:World) (hb:Below W.heap.size W w2)=>(field t ht g lo tb W w2 hb hT).mono (R':=fun e w'=>(∃ fb o,e=.returned (.pointer (some ⟨fb,o,none⟩))/\FdAt W fb o t.sort f)/\w2=w') fun e w' h=>⟨aS.yes (W:=W) (t:=t) (g:=g) (e:=e) h.1 (by rw[cJ];exact hf),h.2⟩;have HTK:=hid (show Wf.fieldTok t (fun k s=>Wf.parse x n k s) s=(Wf.parse x n f.kind q).map fun y=>(f,y.1,y.2) from Wf.rX t (fun k s=>Wf.parse x n k s) hn hf);obtain⟨SG,hSG⟩:∃ SG:ByteArray,(⟨f.kind.signs.toArray⟩:ByteArray)=SG:=⟨_,rfl⟩;obtain⟨BS,hBS⟩:∃ BS:ByteArray,(⟨f.kind.base.toArray⟩:ByteArray)=BS:=⟨_,rfl⟩;obtain⟨NM,hNM⟩:∃ NM:ByteArray,(⟨f.kind.name.toArray⟩:ByteArray)=NM:=⟨_,rfl⟩;have hkv:kV f.kind=.agg #[.string SG,.string BS,.string NM]:=by simp only[kV,tx,hSG,hBS,hNM]
 have hIH2:∀ (s:List UInt8) (w:World),Below W.heap.size W w->Sn w rb sb s false->s.length<n->s.length<=400->Calls Tryz.prog 74 #[ptr rb,.agg #[.string SG,.string BS,.string NM]] w fun e w'=>aP (Wf.parse x n f.kind s) s rb sb w e w':=by rw[<-hkv];exact IH
 have HIH2:=hid hIH2;have HCL:=hid fun(fb o:Nat) (w2:World) (hb:Below W.heap.size W w2) (h:FdAt W fb o t.sort f)=>(show fb<w2.heap.size/\w2.cell? ⟨fb,o,none⟩=some (.int .i64 g)/\w2.cell? ⟨fb,o+2,none⟩=some (.string SG)/\w2.cell? ⟨fb,o+2+1,none⟩=some (.string BS)/\w2.cell? ⟨fb,o+2+2,none⟩=some (.string NM) by
  have e:fdC t.sort f=[.int .i64 f.tag,tx f.name,.string SG,.string BS,.string NM,tx f.given]:=by
   unfold fdC;rw[if_neg h69,<-hSG,<-hBS,<-hNM]
  have hc:=fun j u (hu:(fdC t.sort f)[j]? = some u)=>(hb.cell (p:=⟨fb,o+j,none⟩) h.1).trans (h.2 j u hu);rw[e] at hc;exact⟨zaC h.1 hb.size,by rw[<-hft];exact hc 0 _ rfl,hc 2 _ rfl,hc 3 _ rfl,hc 4 _ rfl⟩)
 have HW:=hid hW;have HH:=hid H;have HF:=hid (And.intro hfm hft);have hrb:=H.lt;clear hn hf hfm hft H hT hW hSG hBS hNM hkv hIH2 IH h69;go_enter Tryz.func145,Tryz.ntmps145;go_wp2_with (first|(go_at_call 74;refine(HIH2.out q _ BW3.out HS3.out hq (by omega)).mono ?_;rintro e w4 ⟨cs,v,r2,rfl,hvc,hbs,ho⟩;obtain⟨q2,g2,n2,c2,T2,a2,rfl⟩:=hvc.aY;have HVC:=hid hvc;have HO:=hid ho;have HB4:=hid hbs;have ZZ4:=hid (ZZ3.out.step hbs (by omega));obtain⟨yl,yr0,yr1,yr2,yr3,yf0,yf1,yf2,yf3⟩:=ZZ4.out;have BW4:=hid (aA.below BW3.out BW3.out.size hWr hbs);obtain⟨x1,x2,x3,x4,x5⟩:=HCL.out fb o w4 BW4.out HFA.out;clear hvc ho hbs)|(go_at_call 113;refine(bS rb sb _ [61] q S1.out).mono ?_;rintro e w3 ⟨rfl,hs3,hb3⟩;have HS3:=hid hs3;have HB3:=hid (HB1.out.trans hb3);have BW3:=hid (aA.below BW1.out BW1.out.size hWr hb3);have c2:=hs3.c2;have f2:=hs3.f2;have hlt:=hs3.lt;have ZZ3:=hid (ZZ.out.step hb3 (by omega));obtain⟨zl,zr0,zr1,zr2,zr3,zf0,zf1,zf2,zf3⟩:=ZZ3.out;obtain⟨k1,k2,k3,k4,k5⟩:=HCL.out fb o w3 BW3.out HFA.out;clear hs3 hb3)|(go_at_call 40;refine(HFD.out _ BW1.out).mono ?_;rintro e w2 ⟨⟨fb,o,rfl,hfa⟩,rfl⟩;have HFA:=hid hfa;clear hfa)|(go_at_call 114;have b0:=(Below.refl w.heap.size w).alloc (zaA) (.cells #[.int .u8 0,.string ⟨#[]⟩,.int .i64 0,.slice none 0 0] 51);refine(HNUM.out _ (HH.out.below b0)).mono ?_;rintro e w1 ⟨rfl,hs1,hb1⟩;have B0:=hid b0;have S1:=hid hs1;have ZZ:=hid ((eE w).step hb1 (by omega));have HB1:=hid ((aA.aF b0 (zaA)).trans hb1);have HB1a:=hid hb1;have BW1:=hid (aA.below HW.out HW.out.size hWr HB1.out);clear b0 hs1 hb1))
 have hx1:fb<w4.heap.size+1:=Nat.lt_succ_of_lt x1;go_region
 all_goals (go_wp2_with fail)
 all_goals exact zbD (v:=.tuple #[.agg #[.int .u8 61,.string ⟨#[]⟩,.int .i64 g,.slice (some ⟨w4.heap.size+1,0,none⟩) 1 1],.pointer (some ⟨fb,o,none⟩)]) (by simp[results,Tryz.results145,go_sem, *]) rfl (by
  have hR:∀ W7,aA w.heap.size w4 W7->w4.heap.size+1<W7.heap.size->(∀ j u,[Value.int .u8 q2,Value.string T2,Value.int .i64 g2,Value.slice a2 n2 c2][j]? = some u->W7.cell? ⟨w4.heap.size+1,0+j,none⟩=some u)->sH x n t s rb sb W w (.returned (.tuple #[.agg #[.int .u8 61,.string ⟨#[]⟩,.int .i64 g,.slice (some ⟨w4.heap.size+1,0,none⟩) 1 1],.pointer (some ⟨fb,o,none⟩)])) W7:=fun W7 hb hl hc=>by
   refine⟨(HB3.out.trans HB4.out).on hb (zaA),⟨[.int .u8 61,.string ⟨#[]⟩,.int .i64 g,.slice (some ⟨w4.heap.size+1,0,none⟩) 1 1],f,v,r2,fb,o,rfl,HF.out.1,by rw[HF.out.2];exact hg,HFA.out,by rw[HF.out.2];exact yJ hb HVC.out zl hl (by omega) hc (by omega),?_⟩⟩;rcases HO.out with⟨hp,hs4⟩|⟨hp,hbv,hs4⟩
   ·exact .inl ⟨by rw[HTK.out,hp];rfl,hs4.beside hb (by omega)⟩
   ·exact .inr ⟨by rw[HTK.out,hp];rfl,⟨q,hql,hbv⟩,hs4.beside hb (by omega)⟩
  refine hR _ ?_ ?_ ?_
  ·repeat (first|with_reducible exact aA.refl _ _|with_reducible refine aA.drew ?_|with_reducible refine aA.alloc ?_ _|with_reducible refine aA.trans ?_ (aA.set _ _ _ _))
  ·simp
  ·intro j u hu
   rcases j with _|_|_|_|j <;> simp at hu <;> subst hu <;> simp[go_sem])
theorem oN (h:¬ ∃ g q f,Wf.aO 200 s=some (g,61::q)/\t.field g=some f):Wf.fieldTok t (fun k s=>Wf.parse x n k s) s=none:=by
 cases hn:Wf.aO 200 s with
 | none=>exact Wf.jP t _ hn
 | some y =>
  obtain⟨g,r⟩:=y;by_cases hr:r.head? = some 61
  ·cases r with
   | nil=>simp at hr
   | cons a q =>
    simp at hr;subst hr;cases hf:t.field g with
    | none=>exact Wf.oC t _ hn hf
    | some f=>exact absurd ⟨g,q,f,hn,hf⟩ h
  ·exact Wf.rO t _ hn hr
end

structure Blk (wr:World) (b q g:Nat):Prop where
 lt:b<wr.heap.size
 r0:wr.cell? ⟨b,0,none⟩=some (.int .u8 q)
 r1:wr.cell? ⟨b,1,none⟩=some (.string ⟨#[]⟩)
 r2:wr.cell? ⟨b,2,none⟩=some (.int .i64 g)
 r3:wr.cell? ⟨b,3,none⟩=some (.slice none 0 0)
 f2:wr.frozen? ⟨b,2,none⟩=false
 f3:wr.frozen? ⟨b,3,none⟩=false
theorem Blk.step {wr w2:World} {b rb q g:Nat} (h:Blk wr b q g) (hb:aA rb wr w2) (hr:b≠rb):Blk w2 b q g:=by
 have h1:=hb.block _ h.lt hr;have cd:=fun o=>zbJ (w:=wr) (w':=w2) (a:=⟨b,o,none⟩) h1;have cf:=fun o=>World.frozen?_of_block (w:=wr) (w':=w2) (a:=⟨b,o,none⟩) h1;exact⟨zaC h.lt hb.size,(cd 0).trans h.r0,(cd 1).trans h.r1,(cd 2).trans h.r2,(cd 3).trans h.r3,(cf 2).trans h.f2,(cf 3).trans h.f3⟩
theorem mJ (w:World) (q:Nat) (W1:World) (hW1:(w.alloc (.cells #[.int .u8 0,.string ⟨#[]⟩,.int .i64 0,.slice none 0 0] 51)).alloc (.cells #[.int .u8 q,.string ⟨#[]⟩,.int .i64 0,.slice none 0 0] 51)=W1) :
  Zero W1 w.heap.size/\Blk W1 (w.heap.size+1) q 0/\Below w.heap.size w W1:=by
 have hB:Below w.heap.size w W1:=by
  rw[<-hW1];exact(((zaB).alloc (zaA) _).alloc (by simp) _)
 subst hW1;refine⟨⟨?_,?_,?_,?_,?_,?_,?_,?_,?_⟩,⟨?_,?_,?_,?_,?_,?_,?_⟩,hB⟩;all_goals first|(simp[go_sem];done)|(simp[go_sem];omega)
section
variable (rb sb:Nat) (W:World) (t:Wf.Ty) (s:List UInt8) (w:World)
theorem lV (s1 s2:List UInt8) (b1 b2:Bool) (m:Nat) (hm:m<=999999) (hwant:∀ w2,Sn w2 rb sb s false->Calls Tryz.prog 113 #[ptr rb,tx [35]] w2 fun e w'=>e=.returned (.tuple #[])/\Sn w' rb sb s1 b1/\aA rb w2 w') (hnum:∀ w2,Sn w2 rb sb s1 b1->Calls Tryz.prog 114 #[ptr rb,.int .i64 (200:Nat)] w2 fun e w'=>e=.returned (.int .i64 m)/\Sn w' rb sb s2 b2/\aA rb w2 w') (ht:t.fields.length<=1000) (lo tb:Nat) (hW:Below W.heap.size W w) (hT:TyL W lo tb t) (h69:t.sort=69) (hWr:W.heap.size<=rb) (H:Sn w rb sb s false):Calls Tryz.prog 116 #[ptr rb,ptr tb] w fun e w'=>e=.returned (.agg #[.int .u8 69,.string ⟨#[]⟩,.int .i64 m,.slice none 0 0])/\aA rb w w'/\Sn w' rb sb s2 (b2 || (t.field m).isNone):=by
 obtain⟨htb,c0⟩:=hT.sort;rw[h69] at c0;have HFD:=hid fun(w2:World) (hb:Below W.heap.size W w2)=>field t ht m lo tb W w2 hb hT;have y0:w.cell? ⟨tb,0,none⟩=some (.int .u8 69):=(hW.cell (p:=⟨tb,0,none⟩) htb).trans c0;have htw:tb<w.heap.size:=zaC htb hW.size;have htw1:tb<w.heap.size+1:=by omega
 have HWANT:=hid hwant;have HNUM:=hid hnum;have HW:=hid hW;have HH:=hid H;have hrb:=H.lt;have ST:=hid fun W1 h=>mJ w 69 W1 h;clear hwant hnum hW H hT c0 h69;cases hfi:t.field m with
 | none =>
  have HFD2:=hid fun(w2:World) (hb:Below W.heap.size W w2)=>(HFD.out w2 hb).mono (R:=fun e w'=>aS W t m e/\w2=w') (R':=fun e w'=>e=.returned (.pointer none)/\w2=w') fun e w' h=>⟨aS.no (W:=W) (t:=t) (g:=m) (e:=e) h.1 (by rw[cJ];exact hfi),h.2⟩;clear hfi;go_enter Tryz.func116,Tryz.ntmps116;go_wp2_with (first|(go_at_call 40;refine(HFD2.out _ (zbF BW2.out (p:=⟨w.heap.size+1,2,none⟩) (by have:=HW.out.size;show W.heap.size<=w.heap.size+1;omega) _)).mono ?_;rintro e w3 ⟨rfl,rfl⟩)|(go_at_call 114;refine(HNUM.out _ S1.out).mono ?_;rintro e w2 ⟨rfl,hs2,hb2⟩;have S2:=hid hs2;have HB2:=hid (HB1.out.trans hb2);have BW2:=hid (aA.below HW.out HW.out.size hWr HB2.out);have Z2:=hid (Z1.out.step hb2 (by omega));have K2:=hid (K1.out.step hb2 (by omega));obtain⟨zl,zr0,zr1,zr2,zr3,zf0,zf1,zf2,zf3⟩:=Z2.out;obtain⟨kl,kr0,kr1,kr2,kr3,kf2,kf3⟩:=K2.out;have c2:=hs2.c2;have f2:=hs2.f2;have hlt:=hs2.lt;clear hs2 hb2)|(go_at_call 113;obtain⟨zz0,bk0,b0⟩:=ST.out _ rfl;refine(HWANT.out _ (HH.out.below b0)).mono ?_;rintro e w1 ⟨rfl,hs1,hb1⟩;have Z1:=hid (zz0.step hb1 (by omega));have K1:=hid (bk0.step hb1 (by omega));have S1:=hid hs1;have HB1:=hid ((aA.aF b0 (zaA)).trans hb1);clear zz0 bk0 b0 hs1 hb1))
  exact zbD (v:=.agg #[.int .u8 69,.string ⟨#[]⟩,.int .i64 m,.slice none 0 0]) (by simp[results,Tryz.results116,go_sem, *]) rfl (by
   have sA:Sn (w2.setCell ⟨w.heap.size+1,2,none⟩ (.int .i64 m)) rb sb s2 b2:=S2.out.beside (aA.set (w.heap.size+1) w2 2 _) (by omega);have hA:aA rb w (w2.setCell ⟨w.heap.size+1,2,none⟩ (.int .i64 m)):=HB2.out.on (aA.set (w.heap.size+1) w2 2 _) (by omega);have hR:∀ W4,aA w.heap.size ((w2.setCell ⟨w.heap.size+1,2,none⟩ (.int .i64 m)).setCell ⟨rb,2,none⟩ (.bool true)) W4->(Ending.returned (.agg #[.int .u8 69,.string ⟨#[]⟩,.int .i64 m,.slice none 0 0])=.returned (.agg #[.int .u8 69,.string ⟨#[]⟩,.int .i64 m,.slice none 0 0])/\aA rb w W4/\Sn W4 rb sb s2 (b2 || (none:Option Wf.Fd).isNone)):=fun W4 hb=>by
    refine⟨rfl,(hA.trans (aA.set rb _ 2 _)).on hb (zaA),?_⟩;rw[Option.isNone_none,Bool.or_true];exact sA.fail.beside hb (by omega)
   refine hR _ ?_;repeat (first|with_reducible exact aA.refl _ _|with_reducible refine aA.drew ?_|with_reducible refine aA.trans ?_ (aA.set _ _ _ _)))
 | some f =>
  have HFD2:=hid fun(w2:World) (hb:Below W.heap.size W w2)=>(HFD.out w2 hb).mono (R:=fun e w'=>aS W t m e/\w2=w') (R':=fun e w'=>(∃ fb o,e=.returned (.pointer (some ⟨fb,o,none⟩)))/\w2=w') fun e w' h=>⟨let ⟨fb,o,he,_⟩:=aS.yes (W:=W) (t:=t) (g:=m) (e:=e) (f:=f) h.1 (by rw[cJ];exact hfi);⟨fb,o,he⟩,h.2⟩;clear hfi;go_enter Tryz.func116,Tryz.ntmps116;go_wp2_with (first|(go_at_call 40;refine(HFD2.out _ (zbF BW2.out (p:=⟨w.heap.size+1,2,none⟩) (by have:=HW.out.size;show W.heap.size<=w.heap.size+1;omega) _)).mono ?_;rintro e w3 ⟨⟨fb,o,rfl⟩,rfl⟩)|(go_at_call 114;refine(HNUM.out _ S1.out).mono ?_;rintro e w2 ⟨rfl,hs2,hb2⟩;have S2:=hid hs2;have HB2:=hid (HB1.out.trans hb2);have BW2:=hid (aA.below HW.out HW.out.size hWr HB2.out);have Z2:=hid (Z1.out.step hb2 (by omega));have K2:=hid (K1.out.step hb2 (by omega));obtain⟨zl,zr0,zr1,zr2,zr3,zf0,zf1,zf2,zf3⟩:=Z2.out;obtain⟨kl,kr0,kr1,kr2,kr3,kf2,kf3⟩:=K2.out;have c2:=hs2.c2;have f2:=hs2.f2;have hlt:=hs2.lt;clear hs2 hb2)|(go_at_call 113;obtain⟨zz0,bk0,b0⟩:=ST.out _ rfl;refine(HWANT.out _ (HH.out.below b0)).mono ?_;rintro e w1 ⟨rfl,hs1,hb1⟩;have Z1:=hid (zz0.step hb1 (by omega));have K1:=hid (bk0.step hb1 (by omega));have S1:=hid hs1;have HB1:=hid ((aA.aF b0 (zaA)).trans hb1);clear zz0 bk0 b0 hs1 hb1))
  exact zbD (v:=.agg #[.int .u8 69,.string ⟨#[]⟩,.int .i64 m,.slice none 0 0]) (by simp[results,Tryz.results116,go_sem, *]) rfl (by
   have sA:Sn (w2.setCell ⟨w.heap.size+1,2,none⟩ (.int .i64 m)) rb sb s2 b2:=S2.out.beside (aA.set (w.heap.size+1) w2 2 _) (by omega);have hA:aA rb w (w2.setCell ⟨w.heap.size+1,2,none⟩ (.int .i64 m)):=HB2.out.on (aA.set (w.heap.size+1) w2 2 _) (by omega);have hR:∀ W4,aA w.heap.size (w2.setCell ⟨w.heap.size+1,2,none⟩ (.int .i64 m)) W4->(Ending.returned (.agg #[.int .u8 69,.string ⟨#[]⟩,.int .i64 m,.slice none 0 0])=.returned (.agg #[.int .u8 69,.string ⟨#[]⟩,.int .i64 m,.slice none 0 0])/\aA rb w W4/\Sn W4 rb sb s2 (b2 || (some f).isNone)):=fun W4 hb=>by
    refine⟨rfl,hA.on hb (zaA),?_⟩;rw[Option.isNone_some,Bool.or_false];exact sA.beside hb (by omega)
   refine hR _ ?_;repeat (first|with_reducible exact aA.refl _ _|with_reducible refine aA.drew ?_|with_reducible refine aA.trans ?_ (aA.set _ _ _ _)))
theorem uB (x:Wf.Sc) (n:Nat) (nm:List UInt8) (hs:s.length<=400) (hf:x.find nm=some t) (ht:t.fields.length<=1000) (lo tb:Nat) (hW:Below W.heap.size W w) (hT:TyL W lo tb t) (h69:t.sort=69) (hWr:W.heap.size<=rb) (H:Sn w rb sb s false):Calls Tryz.prog 116 #[ptr rb,ptr tb] w fun e w'=>aP (Wf.parse x (n+1) (.ref nm) s) s rb sb w e w':=by
 have fin:∀ (m:Nat) (s2:List UInt8) (bad:Bool),m<=999999->((bad=false/\Wf.parse x (n+1) (.ref nm) s=some (.mk 69 [] m [],s2))\/(bad=true/\Wf.parse x (n+1) (.ref nm) s=none/\s2.length<=s.length))->∀ e w',(e=.returned (.agg #[.int .u8 69,.string ⟨#[]⟩,.int .i64 m,.slice none 0 0])/\aA rb w w'/\Sn w' rb sb s2 bad)->aP (Wf.parse x (n+1) (.ref nm) s) s rb sb w e w':=by
  rintro m s2 bad hm h e w' ⟨rfl,hb,hsn⟩;refine⟨_,.mk 69 [] m [],s2,rfl,VC.leaf 69 [] m hm (by decide),hb,?_⟩;rcases h with⟨rfl,hp⟩|⟨rfl,hp,hl⟩
  ·exact .inl ⟨hp,hsn⟩
  ·exact .inr ⟨hp,Wf.wH hm hl,hsn⟩
 have dl:∀ r:List UInt8,(r.dropWhile Wf.aD).length<=r.length:=fun r=>(List.dropWhile_suffix _).length_le;by_cases h35:s.head? = some 35
 ·obtain⟨r,rfl⟩:∃ r,s=35::r:=by
   cases s with
   | nil=>simp at h35
   | cons a r=>simp at h35;exact⟨r,by rw[h35]⟩
  have hr4:r.length<=400:=by simp at hs;omega
  cases hn:Wf.aO 200 r with
  | none =>
   have h1:Wf.aI (r.takeWhile Wf.aD) 200=none:=(by simpa[Wf.aO] using hn);refine(lV rb sb W t _ w r (r.dropWhile Wf.aD) false true (numV (r.takeWhile Wf.aD)) (fV _) (fun w2 h=>bS rb sb w2 [35] r h) (fun w2 h=>(number rb sb w2 r false 200 (by omega) (by omega) h).mono fun e w' h=>by rw[h1] at h;exact h) ht lo tb hW hT h69 hWr H).mono fun e w' h=>?_;rw[Bool.true_or] at h;exact fin _ _ true (fV _) (.inr ⟨rfl,Wf.pD x n hf h69 hn,by have:=dl r;simp;omega⟩) e w' h
  | some y =>
   obtain⟨g,q⟩:=y;have hg:=(Wf.gM hn).2.1;have hp:=Wf.mI x n hf h69 hn;refine(lV rb sb W t _ w r q false false g (by omega) (fun w2 h=>bS rb sb w2 [35] r h) (fun w2 h=>nU rb sb w2 r q false 200 g (by omega) (by omega) h hn) ht lo tb hW hT h69 hWr H).mono fun e w' h=>?_;cases hfi:t.field g with
   | none =>
    rw[hfi] at h hp;exact fin g q true (by omega) (.inr ⟨rfl,by rw[hp];rfl,by have:=Wf.gU hn;simp;omega⟩) e w' h
   | some f =>
    rw[hfi] at h hp;exact fin g q false (by omega) (.inl ⟨rfl,by rw[hp];rfl⟩) e w' h
 ·refine(lV rb sb W t s w s (s.dropWhile Wf.aD) true true (numV (s.takeWhile Wf.aD)) (fV _) (fun w2 h=>bQ rb sb w2 s [35] false h (.inr fun hp=>h35 ((pre1 35 s).1 hp))) (fun w2 h=>(number rb sb w2 s true 200 (by omega) (by omega) h).mono fun e w' h=>by rw[Bool.true_or] at h;exact h) ht lo tb hW hT h69 hWr H).mono fun e w' h=>?_
  rw[Bool.true_or] at h;exact fin _ _ true (fV _) (.inr ⟨rfl,Wf.qU x n hf h69 h35,dl s⟩) e w' h
end

theorem xB (rb sb:Nat) (c:UInt8) (s:List UInt8) (bad:Bool):∃ s' b',(∀ w,Sn w rb sb s bad->Calls Tryz.prog 113 #[ptr rb,tx [c]] w fun e w'=>e=.returned (.tuple #[])/\Sn w' rb sb s' b'/\aA rb w w')/\((bad=false/\s=c::s'/\b'=false)\/((bad=true\/s.head? ≠ some c)/\s'=s/\b'=true)):=by
 by_cases h:bad=false/\s.head? = some c
 ·obtain⟨rfl,hc⟩:=h
  cases s with
  | nil=>simp at hc
  | cons a r =>
   simp at hc;subst hc;exact⟨r,false,fun w H=>bS rb sb w [a] r H,.inl ⟨rfl,rfl,rfl⟩⟩
 ·have h2:bad=true\/s.head? ≠ some c:=by
   cases bad with
   | true=>exact .inl rfl
   | false=>exact .inr fun hc=>h ⟨rfl,hc⟩
  exact⟨s,true,fun w H=>bQ rb sb w s [c] bad H (h2.imp id fun h=>fun hp=>h ((pre1 c s).1 hp)),.inr ⟨h2,rfl,rfl⟩⟩
theorem VC.vG {W:World} {P:Nat->Prop} {v:Wf.V} {g n c:Nat} {a:Option Addr} {T:ByteArray} (h:VC W P (.mk 61 [] g [v]) [.int .u8 61,.string T,.int .i64 g,.slice a n c]):VC W P (.mk 85 [] g [v]) [.int .u8 85,.string ⟨#[]⟩,.int .i64 g,.slice a n c]:=by
 simp only[VC] at h ⊢;obtain⟨a',c',e,h1,h2,h3,h4⟩:=h;simp only[List.cons.injEq,Value.slice.injEq,and_true,true_and] at e;obtain⟨_,_,rfl,rfl,rfl⟩:=e;exact⟨a,c,rfl,h1,h2,⟨h3.tag,fun _=>.inr (.inr (.inr (.inr rfl))),fun h=>absurd h (by decide)⟩,h4⟩
section
variable (rb sb:Nat) (W:World) (t:Wf.Ty) (s:List UInt8) (w:World)
theorem rQ (s1:List UInt8) (b1:Bool) (hwant:∀ w2,Sn w2 rb sb s false->Calls Tryz.prog 113 #[ptr rb,tx [60]] w2 fun e w'=>e=.returned (.tuple #[])/\Sn w' rb sb s1 b1/\aA rb w2 w') (lo tb:Nat)
  (hfld:∀ w2,Below W.heap.size W w2->Sn w2 rb sb s1 b1->Calls Tryz.prog 145 #[ptr rb,ptr tb] w2 fun e w'=>aA rb w2 w'/\∃ r,e=.returned (.tuple #[.agg #[.int .u8 0,.string ⟨#[]⟩,.int .i64 0,.slice none 0 0],.pointer none])/\r.length<=s1.length/\Sn w' rb sb r true) (hW:Below W.heap.size W w) (hT:TyL W lo tb t) (h85:t.sort=85) (hWr:W.heap.size<=rb) (H:Sn w rb sb s false):Calls Tryz.prog 116 #[ptr rb,ptr tb] w fun e w'=>e=.returned (.agg #[.int .u8 85,.string ⟨#[]⟩,.int .i64 0,.slice none 0 0])/\aA rb w w'/\∃ r,r.length<=s1.length/\Sn w' rb sb r true:=by
 obtain⟨htb,c0⟩:=hT.sort;rw[h85] at c0;have y0:w.cell? ⟨tb,0,none⟩=some (.int .u8 85):=(hW.cell (p:=⟨tb,0,none⟩) htb).trans c0;have htw:tb<w.heap.size:=zaC htb hW.size;have htw1:tb<w.heap.size+1:=by omega
 have HWANT:=hid hwant;have HFLD:=hid hfld;have HW:=hid hW;have HH:=hid H;have hrb:=H.lt;have ST:=hid fun W1 h=>mJ w 85 W1 h;clear hwant hfld hW H hT c0 h85;go_enter Tryz.func116,Tryz.ntmps116;go_wp2_with (first|(go_at_call 113;have _u:=S2;refine(bQ rb sb _ r [62] true (S2.out.below ((Below.refl w2.heap.size w2).alloc (zaA) _)) (.inl rfl)).mono ?_;rintro e w3 ⟨rfl,hs3,hb3⟩;have hb32:=(aA.aF ((Below.refl w2.heap.size w2).alloc (zaA) _) (zaA)).trans hb3;have S3:=hid hs3;have HB3:=hid (HB2.out.trans hb32);have Z3:=hid (Z2.out.step hb32 (by omega));have K3:=hid (K2.out.step hb32 (by omega));obtain⟨zl,zr0,zr1,zr2,zr3,zf0,zf1,zf2,zf3⟩:=Z3.out;obtain⟨kl,kr0,kr1,kr2,kr3,kf2,kf3⟩:=K3.out;clear hs3 hb3 hb32)|(go_at_call 145;refine(HFLD.out _ BW1.out S1.out).mono ?_;rintro e w2 ⟨hb2,r,rfl,hr,hs2⟩;have HR:=hid hr;have S2:=hid hs2;have HB2:=hid (HB1.out.trans hb2);have Z2:=hid (Z1.out.step hb2 (by omega));have K2:=hid (K1.out.step hb2 (by omega));clear hs2 hb2 hr)|(go_at_call 113;obtain⟨zz0,bk0,b0⟩:=ST.out _ rfl;refine(HWANT.out _ (HH.out.below b0)).mono ?_;rintro e w1 ⟨rfl,hs1,hb1⟩;have Z1:=hid (zz0.step hb1 (by omega));have K1:=hid (bk0.step hb1 (by omega));have S1:=hid hs1;have HB1:=hid ((aA.aF b0 (zaA)).trans hb1);have BW1:=hid (aA.below HW.out HW.out.size hWr HB1.out);clear zz0 bk0 b0 hs1 hb1))
 all_goals exact zbD (v:=.agg #[.int .u8 85,.string ⟨#[]⟩,.int .i64 0,.slice none 0 0]) (by simp[results,Tryz.results116,go_sem, *]) rfl (by
  have hR:∀ W4,aA w.heap.size w3 W4->(Ending.returned (.agg #[.int .u8 85,.string ⟨#[]⟩,.int .i64 0,.slice none 0 0])=.returned (.agg #[.int .u8 85,.string ⟨#[]⟩,.int .i64 0,.slice none 0 0])/\aA rb w W4/\∃ r,r.length<=s1.length/\Sn W4 rb sb r true):=fun W4 hb=>⟨rfl,HB3.out.on hb (zaA),r,HR.out,S3.out.beside hb (by omega)⟩;refine hR _ ?_;repeat (first|with_reducible exact aA.refl _ _|with_reducible refine aA.drew ?_|with_reducible refine aA.trans ?_ (aA.set _ _ _ _)))
theorem zF (s1:List UInt8) (Q:Wf.Fd->Wf.V->List UInt8->Bool->Prop) (hwant:∀ w2,Sn w2 rb sb s false->Calls Tryz.prog 113 #[ptr rb,tx [60]] w2 fun e w'=>e=.returned (.tuple #[])/\Sn w' rb sb s1 false/\aA rb w2 w') (lo tb:Nat)
  (hfld:∀ w2,Below W.heap.size W w2->Sn w2 rb sb s1 false->Calls Tryz.prog 145 #[ptr rb,ptr tb] w2 fun e w'=>aA rb w2 w'/\∃ cs f v r fb o bad,e=.returned (.tuple #[.agg cs.toArray,.pointer (some ⟨fb,o,none⟩)])/\FdAt W fb o t.sort f/\VC w' (fun b=>w2.heap.size<=b) (.mk 61 [] f.tag [v]) cs/\Sn w' rb sb r bad/\Q f v r bad) (hW:Below W.heap.size W w) (hT:TyL W lo tb t) (h85:t.sort=85) (hWr:W.heap.size<=rb) (H:Sn w rb sb s false):Calls Tryz.prog 116 #[ptr rb,ptr tb] w fun e w'=>∃ f v r bad a c r' b',Q f v r bad/\e=.returned (.agg #[.int .u8 85,.string ⟨#[]⟩,.int .i64 (f.tag:Nat),.slice a 1 c])/\VC w' (fun b=>w.heap.size<=b) (.mk 85 [] f.tag [v]) [.int .u8 85,.string ⟨#[]⟩,.int .i64 (f.tag:Nat),.slice a 1 c]/\aA rb w w'/\Sn w' rb sb r' b'/\((bad=false/\r=62::r'/\b'=false)\/((bad=true\/r.head? ≠ some 62)/\r'=r/\b'=true)):=by
 obtain⟨htb,c0⟩:=hT.sort;rw[h85] at c0;have y0:w.cell? ⟨tb,0,none⟩=some (.int .u8 85):=(hW.cell (p:=⟨tb,0,none⟩) htb).trans c0;have htw:tb<w.heap.size:=zaC htb hW.size;have htw1:tb<w.heap.size+1:=by omega
 have HWANT:=hid hwant;have HFLD:=hid hfld;have HW:=hid hW;have HH:=hid H;have hrb:=H.lt;have ST:=hid fun W1 h=>mJ w 85 W1 h;clear hwant hfld hW H hT c0 h85;go_enter Tryz.func116,Tryz.ntmps116;go_wp2_with (first|(go_at_call 113;have _u:=S2;refine(HWC.out _ (S2.out.below ((Below.refl w2.heap.size w2).alloc (zaA) _))).mono ?_;rintro e w3 ⟨rfl,hs3,hb3⟩;have hal:=(Below.refl w2.heap.size w2).alloc (zaA) (.cells #[.int .u8 61,.string ⟨#[]⟩,.int .i64 G,.slice a 1 c] 51);have hb32:=(aA.aF hal (zaA)).trans hb3;have x3:w3.cell? ⟨w2.heap.size,3,none⟩=some (.slice a 1 c):=((hb3.cell (p:=⟨w2.heap.size,3,none⟩) (by simp) (by show w2.heap.size≠rb;omega)).trans (by simp[go_sem]));have S3:=hid hs3;have HB3:=hid (HB2.out.trans hb32);have HB32:=hid hb32;have hxl:w2.heap.size<w3.heap.size:=zaC (by simp) hb3.size;have ft:=((aA.below HW.out HW.out.size hWr HB3.out).cell (p:=⟨fb,o,none⟩) HFA.out.1).trans HTG.out;have Z3:=hid (Z2.out.step hb32 (by omega));have K3:=hid (K2.out.step hb32 (by omega));obtain⟨zl,zr0,zr1,zr2,zr3,zf0,zf1,zf2,zf3⟩:=Z3.out;obtain⟨kl,kr0,kr1,kr2,kr3,kf2,kf3⟩:=K3.out;clear hs3 hb3 hb32 hal)|(go_at_call 145;refine(HFLD.out _ BW1.out S1.out).mono ?_;rintro e w2 ⟨hb2,cs,f,v,r,fb,o,bad,rfl,hfa,hvc,hs2,hq⟩;obtain⟨a,c,rfl,_⟩:=hvc.form;obtain⟨G,hG⟩:∃ G,f.tag=G:=⟨_,rfl⟩;obtain⟨r',b',hwc,hd⟩:=xB rb sb 62 r bad;have HWC:=hid hwc;have HD:=hid hd;have HQ:=hid hq;have HFA:=hid hfa;have HGG:=hid hG;have hr2:rb<w2.heap.size:=hs2.lt;have HTG:=hid (show W.cell? ⟨fb,o,none⟩=some (.int .i64 G) by(obtain⟨_,_,_,_,hc⟩:=eD t.sort f;rw[<-hG];exact hfa.2 0 _ (by rw[hc];rfl)));have HVC:=hid hvc;have S2:=hid hs2;have HB2:=hid (HB1.out.trans hb2);have Z2:=hid (Z1.out.step hb2 (by omega));have K2:=hid (K1.out.step hb2 (by omega));simp only[Wf.V.tag,Wf.V.what,Wf.V.text,Wf.V.kids,tx,hG,zaF,zaM];clear hs2 hb2 hwc hd hq hfa hvc hG)|(go_at_call 113;obtain⟨zz0,bk0,b0⟩:=ST.out _ rfl;refine(HWANT.out _ (HH.out.below b0)).mono ?_;rintro e w1 ⟨rfl,hs1,hb1⟩;have Z1:=hid (zz0.step hb1 (by omega));have K1:=hid (bk0.step hb1 (by omega));have S1:=hid hs1;have HB1:=hid ((aA.aF b0 (zaA)).trans hb1);have BW1:=hid (aA.below HW.out HW.out.size hWr HB1.out);clear zz0 bk0 b0 hs1 hb1))
 have hk2:=K2.out.lt;have hk1:=K1.out.lt;have hne:w2.heap.size≠w.heap.size+1:=by omega
 go_region
 all_goals (go_wp2_with fail)
 all_goals exact zbD (v:=.agg #[.int .u8 85,.string ⟨#[]⟩,.int .i64 G,.slice a 1 c]) (by simp[results,Tryz.results116,go_sem, *]) rfl (by
  have hR:∀ wx W4,aA (w.heap.size+1) w3 wx->aA w.heap.size wx W4->(∃ f v r bad a' c' r' b',Q f v r bad/\Ending.returned (.agg #[.int .u8 85,.string ⟨#[]⟩,.int .i64 G,.slice a 1 c])=.returned (.agg #[.int .u8 85,.string ⟨#[]⟩,.int .i64 (f.tag:Nat),.slice a' 1 c'])/\VC W4 (fun b=>w.heap.size<=b) (.mk 85 [] f.tag [v]) [.int .u8 85,.string ⟨#[]⟩,.int .i64 (f.tag:Nat),.slice a' 1 c']/\aA rb w W4/\Sn W4 rb sb r' b'/\((bad=false/\r=62::r'/\b'=false)\/((bad=true\/r.head? ≠ some 62)/\r'=r/\b'=true))):=fun wx W4 hx hb=>by
   have hv61:VC w2 (fun b=>w1.heap.size<=b) (.mk 61 [] f.tag [v]) [.int .u8 61,.string ⟨#[]⟩,.int .i64 f.tag,.slice a 1 c]:=HVC.out;refine⟨f,v,r,bad,a,c,r',b',HQ.out,by rw[HGG.out],VC.vG (VC.keep (P:=fun b=>w1.heap.size<=b) (fun b hp hlt=>⟨by omega,?_⟩) ?_ _ _ hv61),(HB3.out.on hx (by omega)).on hb (zaA),(S3.out.beside hx (by omega)).beside hb (by omega),HD.out⟩
   ·have h3:b<w3.heap.size:=zaC hlt HB32.out.size
    exact(hb.block b (zaC h3 hx.size) (by omega)).trans ((hx.block b h3 (by omega)).trans (HB32.out.block b hlt (by omega)))
   ·exact zaI HB32.out.size (zaI hx.size hb.size)
  first
  | (refine hR ((w3.setCell ⟨w.heap.size+1,2,none⟩ (.int .i64 G)).setCell ⟨w.heap.size+1,3,none⟩ (.slice a 1 c)) _ ((aA.set _ w3 2 _).trans (aA.set _ _ 3 _)) ?_;(repeat (first|with_reducible exact aA.refl _ _|with_reducible refine aA.drew ?_|with_reducible refine aA.trans ?_ (aA.set _ _ _ _)));done)
  | (refine hR ((w3.setCell ⟨w.heap.size+1,2,none⟩ (.int .i64 G)).setCell ⟨w.heap.size+1,3,none⟩ (.slice a 1 c)).drew _ ((aA.set _ w3 2 _).trans (aA.set _ _ 3 _)).drew ?_;(repeat (first|with_reducible exact aA.refl _ _|with_reducible refine aA.trans ?_ (aA.set _ _ _ _)));done))
theorem a0M (x:Wf.Sc) (n:Nat) (nm:List UInt8) (hs:s.length<=400) (hsn:s.length<n+1) (hf:x.find nm=some t) (ht:t.fields.length<=1000) (lo tb:Nat) (hW:Below W.heap.size W w) (hT:TyL W lo tb t) (h85:t.sort=85) (hWr:W.heap.size<=rb) (H:Sn w rb sb s false) (IH:∀ f∈t.fields,Reads x rb sb W n f.kind):Calls Tryz.prog 116 #[ptr rb,ptr tb] w fun e w'=>aP (Wf.parse x (n+1) (.ref nm) s) s rb sb w e w':=by
 have fin:∀ (s1:List UInt8),s1.length<=s.length->Wf.parse x (n+1) (.ref nm) s=none->∀ e w',(e=.returned (.agg #[.int .u8 85,.string ⟨#[]⟩,.int .i64 (0:Nat),.slice none 0 0])/\aA rb w w'/\∃ r,r.length<=s1.length/\Sn w' rb sb r true)->aP (Wf.parse x (n+1) (.ref nm) s) s rb sb w e w':=by
  rintro s1 hl hp e w' ⟨rfl,hb,r,hr,hsn⟩;exact⟨_,.mk 85 [] 0 [],r,rfl,VC.leaf 85 [] 0 (by omega) (by decide),hb,.inr ⟨hp,Wf.yX (by omega),hsn⟩⟩
 by_cases h60:s.head? = some 60
 ·obtain⟨r,rfl⟩:∃ r,s=60::r:=by
   cases s with
   | nil=>simp at h60
   | cons a r=>simp at h60;exact⟨r,by rw[h60]⟩
  have hr4:r.length+1<=400:=by simpa using hs
  have hrn:r.length<n:=by simp at hsn;omega
  by_cases h:∃ g q f,Wf.aO 200 r=some (g,61::q)/\t.field g=some f
  ·obtain⟨g,q,f,hn,hfd⟩:=h
   have hq:=Wf.gU hn;refine(zF rb sb W t _ w r (fun f v r' bad=>f.tag<=200/\((bad=false/\Wf.fieldTok t (fun k s=>Wf.parse x n k s) r=some (f,v,r'))\/(bad=true/\Wf.fieldTok t (fun k s=>Wf.parse x n k s) r=none/\∃ q,q.length+2<=r.length/\Wf.Badv q r' v))) (fun w2 h=>bS rb sb w2 [60] r h) lo tb (fun w2 hb h=>(oH x rb sb W n t r w2 f g q hn hfd ht (by omega) lo tb hb hT hWr h (by rw[h85];decide) (IH f (Wf.dT hfd).1) (by simp at hq;omega)).mono ?_) hW hT h85 hWr H).mono ?_
   ·rintro e w' ⟨hb,cs,f,v,r',fb,o,he,hm,h200,hfa,hvc,ho⟩
    rcases ho with⟨hp,hsn⟩|⟨hp,hq,hsn⟩
    ·exact⟨hb,cs,f,v,r',fb,o,false,he,hfa,hvc,hsn,h200,.inl ⟨rfl,hp⟩⟩
    ·exact⟨hb,cs,f,v,r',fb,o,true,he,hfa,hvc,hsn,h200,.inr ⟨rfl,hp,hq⟩⟩
   ·rintro e w' ⟨f,v,r1,bad,a,c,r',b',⟨h200,hQ⟩,rfl,hvc,hb,hsn,hD⟩
    refine⟨_,.mk 85 [] f.tag [v],r',rfl,hvc,hb,?_⟩;rcases hQ with⟨rfl,hp⟩|⟨rfl,hp,q,hq2,hbv⟩
    ·rcases hD with⟨_,rfl,rfl⟩|⟨hD,rfl,rfl⟩
     ·exact .inl ⟨Wf.pN x n hf h85 hp,hsn⟩
     ·have hD2:r'.head? ≠ some 62:=by
       rcases hD with h|h
       ·cases h
       ·exact h
      have hsay:=(Wf.jL (Q:=fun f v=>Wf.Typed x n f.kind v) (fun f s v r h=>Wf.dW n f.kind s v r h) hp).2.2.2;have hlen:=congrArg List.length hsay;have hdp:1<=(Wf.dec f.tag).length:=List.length_pos_iff.2 (Wf.eO _);simp at hlen;have hbv:Wf.Badv (v.print++r') r' v:=⟨by simp;omega,by simp⟩;exact .inr ⟨Wf.rZ x n hf h85 hp hD2,Wf.sD rfl (Wf.kJ h200 (by simp;omega) hbv),hsn⟩
    ·rcases hD with⟨h,_⟩|⟨_,rfl,rfl⟩
     ·cases h
     ·exact .inr ⟨Wf.kQ x n hf h85 hp,Wf.sD rfl (Wf.kJ h200 hq2 hbv),hsn⟩
  ·refine(rQ rb sb W t _ w r false (fun w2 h=>bS rb sb w2 [60] r h) lo tb (fun w2 hb h2=>mA rb sb W t r w2 false ht (by omega) lo tb hb hT hWr h2 (fun h3=>h h3.2)) hW hT h85 hWr H).mono ?_
   exact fin r (by simp) (Wf.kQ x n hf h85 (oN x n t r h))
 ·refine(rQ rb sb W t s w s true (fun w2 h=>bQ rb sb w2 s [60] false h (.inr fun hp=>h60 ((pre1 60 s).1 hp))) lo tb (fun w2 hb h2=>mA rb sb W t s w2 true ht hs lo tb hb hT hWr h2 (fun h3=>absurd h3.1 (by decide))) hW hT h85 hWr H).mono ?_
  exact fin s (zaA) (Wf.rE x n hf h85 h60)
end

theorem eI (w:World) (SG BS NM:ByteArray) (W1:World) (hW1:(w.alloc (.cells #[.string SG,.string BS,.string NM] 48)).alloc (.cells #[.int .u8 0,.string ⟨#[]⟩,.int .i64 0,.slice none 0 0] 51)=W1) :
  W1.cell? ⟨w.heap.size,0,none⟩=some (.string SG)/\W1.cell? ⟨w.heap.size,1,none⟩=some (.string BS)/\W1.cell? ⟨w.heap.size,2,none⟩=some (.string NM)/\Zero W1 (w.heap.size+1)/\Below w.heap.size w W1:=by
 have hB:Below w.heap.size w W1:=by
  rw[<-hW1];exact(((zaB).alloc (zaA) _).alloc (by simp) _)
 subst hW1;refine⟨?_,?_,?_,⟨?_,?_,?_,?_,?_,?_,?_,?_,?_⟩,hB⟩;all_goals first|(simp[go_sem];done)|(simp[go_sem];omega)
section
variable (rb sb:Nat) (W:World) (s:List UInt8) (w:World)
theorem a3G (k:Wf.K) (H:Sn w rb sb s true):Calls Tryz.prog 74 #[ptr rb,kV k] w fun e w'=>e=.returned (.agg #[.int .u8 0,.string ⟨#[]⟩,.int .i64 0,.slice none 0 0])/\aA rb w w'/\Sn w' rb sb s true:=by
 have hrb:=H.lt;have c2:=H.c2;have HH:=hid H;obtain⟨SG,hSG⟩:∃ SG:ByteArray,(⟨k.signs.toArray⟩:ByteArray)=SG:=⟨_,rfl⟩;obtain⟨BS,hBS⟩:∃ BS:ByteArray,(⟨k.base.toArray⟩:ByteArray)=BS:=⟨_,rfl⟩;obtain⟨NM,hNM⟩:∃ NM:ByteArray,(⟨k.name.toArray⟩:ByteArray)=NM:=⟨_,rfl⟩;simp only[kV,tx,hSG,hBS,hNM];clear H hSG hBS hNM;go_enter Tryz.func74,Tryz.ntmps74;go_wp2_with fail
 exact zbD (v:=.agg #[.int .u8 0,.string ⟨#[]⟩,.int .i64 0,.slice none 0 0]) (by simp[results,Tryz.results74,go_sem, *]) rfl (by
  have hB:∀ W4,Below w.heap.size w W4->(Ending.returned (.agg #[.int .u8 0,.string ⟨#[]⟩,.int .i64 0,.slice none 0 0])=.returned (.agg #[.int .u8 0,.string ⟨#[]⟩,.int .i64 0,.slice none 0 0])/\aA rb w W4/\Sn W4 rb sb s true):=fun W4 hb=>⟨rfl,aA.aF hb (zaA),HH.out.below hb⟩;refine hB _ ?_;repeat (first|with_reducible exact zaB|with_reducible refine zbE ?_|with_reducible refine zbF ?_ (by simp) _|with_reducible refine zbG ?_ (by simp) _))
theorem a2Y (x:Wf.Sc) (n:Nat) (hs:s.length<=400) (H:Sn w rb sb s false):Calls Tryz.prog 74 #[ptr rb,kV .num] w fun e w'=>aP (Wf.parse x (n+1) .num s) s rb sb w e w':=by
 obtain⟨m,hm⟩:∃ m,numV (s.takeWhile Wf.aD)=m:=⟨_,rfl⟩;obtain⟨s1,hs1⟩:∃ s1,s.dropWhile Wf.aD=s1:=⟨_,rfl⟩;obtain⟨b1,hb1⟩:∃ b1,(false || !(Wf.aI (s.takeWhile Wf.aD) 999999).isSome)=b1:=⟨_,rfl⟩;have HNUM:=hid fun w2 (h:Sn w2 rb sb s false)=>number rb sb w2 s false 999999 (by omega) (by omega) h;rw[hm,hs1,hb1] at HNUM;have hmle:m<=999999:=by rw[<-hm];exact fV _
 have HP:=hid (show(b1=false/\Wf.parse x (n+1) .num s=some (.mk 110 (Wf.dec m) 0 [],s1))\/(b1=true/\Wf.parse x (n+1) .num s=none) by
  rw[Bool.false_or] at hb1;cases hp:Wf.aI (s.takeWhile Wf.aD) 999999 with
  | none =>
   rw[hp] at hb1;exact .inr ⟨by rw[<-hb1];rfl,by rw[Wf.iK,Wf.aO,hp];rfl⟩
  | some g =>
   have hmg:m=g:=(by rw[<-hm];exact iB hp);rw[hp] at hb1;exact .inl ⟨by rw[<-hb1];rfl,by rw[Wf.iK,Wf.aO,hp,hs1,hmg];rfl⟩)
 have HLE:=hid (show s1.length<=s.length by rw[<-hs1];exact(List.dropWhile_suffix _).length_le);have hrb:=H.lt;have c2:=H.c2;have HH:=hid H;have ST:=hid fun W1 h=>eI w ⟨#[]⟩ ⟨#[110]⟩ ⟨#[]⟩ W1 h;have HSG:=hid fun w2=>iR ⟨#[]⟩ ⟨#[110]⟩ ⟨#[]⟩ 0 (.inl ⟨by rw[zaZ];rfl,rfl⟩) w2;have hkv:kV .num=.agg #[.string ⟨#[]⟩,.string ⟨#[110]⟩,.string ⟨#[]⟩]:=by rfl
 rw[hkv];clear H hm hs1 hb1 hkv;go_enter Tryz.func74,Tryz.ntmps74;go_wp2_with (first|(go_at_call 60;refine(gV m m _ (zaA) hmle).mono ?_;rintro e w3 ⟨rfl,hb3⟩;have S3:=hid (S2.out.below hb3);have HB3:=hid (HB2.out.trans (aA.aF hb3 (zaA)));have Z3:=hid (Z2.out.below hb3 Z2.out.lt);obtain⟨zl,zr0,zr1,zr2,zr3,zf0,zf1,zf2,zf3⟩:=Z3.out;clear hb3)|(go_at_call 114;refine(HNUM.out _ S1.out).mono ?_;rintro e w2 ⟨rfl,hs2,hb2⟩;have S2:=hid hs2;have HB2:=hid (HB1.out.trans hb2);have Z2:=hid (Z1.out.step hb2 (by omega));clear hs2 hb2)|(go_at_call 95;obtain⟨d0,d1,d2,z0,b0⟩:=ST.out _ rfl;refine(HSG.out _).mono ?_;rintro e w1 ⟨rfl,hb1⟩;have b01:=aC b0 hb1;have e1:=(hb1.cell (p:=⟨w.heap.size,1,none⟩) (zaC (zaH _) (Nat.le_of_lt z0.lt))).trans d1;have S1:=hid (HH.out.below b01);have HB1:=hid (aA.aF (rb:=rb) b01 (zaA));have Z1:=hid (z0.below hb1 z0.lt);clear hb1 b01 b0 d0 d1 d2 z0))
 all_goals exact zbD (v:=.agg #[.int .u8 110,tx (Wf.dec m),.int .i64 (0:Nat),.slice none 0 0]) (by simp[results,Tryz.results74,go_sem, *]) rfl (by
  have hR:∀ W4,aA (w.heap.size+1) w3 W4->aP (Wf.parse x (n+1) .num s) s rb sb w (.returned (.agg #[.int .u8 110,tx (Wf.dec m),.int .i64 (0:Nat),.slice none 0 0])) W4:=fun W4 hb=>by
   refine⟨_,.mk 110 (Wf.dec m) 0 [],s1,rfl,VC.leaf 110 (Wf.dec m) 0 (by omega) (by decide),HB3.out.on hb (by omega),?_⟩;have sn:=S3.out.beside hb (by omega);rcases HP.out with⟨rfl,hp⟩|⟨rfl,hp⟩
   ·exact .inl ⟨hp,sn⟩
   ·exact .inr ⟨hp,Wf.tG hmle HLE.out,sn⟩
  refine hR _ ?_;repeat (first|with_reducible exact aA.refl _ _|with_reducible refine aA.drew ?_|with_reducible refine aA.trans ?_ (aA.set _ _ _ _)))
theorem xS (x:Wf.Sc) (n:Nat) (hs:s.length<=400) (H:Sn w rb sb s false):Calls Tryz.prog 74 #[ptr rb,kV .txt] w fun e w'=>aP (Wf.parse x (n+1) .txt s) s rb sb w e w':=by
 have HQ:Hid (∀ w2,Sn w2 rb sb s false->Calls Tryz.prog 115 #[ptr rb] w2 fun e w'=>∃ t r bad,e=.returned (tx t)/\Sn w' rb sb r bad/\aA rb w2 w'/\((bad=false/\Wf.parse x (n+1) .txt s=some (.mk 116 t 0 [],r))\/(bad=true/\Wf.parse x (n+1) .txt s=none/\t.length+r.length<=s.length))):=by
  refine hid fun w2 h=>?_;have hno:Wf.parse x (n+1) .txt s=none->Calls Tryz.prog 115 #[ptr rb] w2 fun e w'=>∃ t r bad,e=.returned (tx t)/\Sn w' rb sb r bad/\aA rb w2 w'/\((bad=false/\Wf.parse x (n+1) .txt s=some (.mk 116 t 0 [],r))\/(bad=true/\Wf.parse x (n+1) .txt s=none/\t.length+r.length<=s.length)):=fun hp=>by
   refine(a2A rb sb w2 x n s (by omega) h hp).mono ?_;rintro e w' ⟨t,r,rfl,hl,hsn,hb⟩;exact⟨t,r,true,rfl,hsn,hb,.inr ⟨rfl,hp,hl⟩⟩
  by_cases h1:∃ r q,s=39::r/\r.dropWhile Wf.aG=39::q/\(r.takeWhile Wf.aG).length<=12
  ·obtain⟨r,q,h1,h2,h3⟩:=h1
   refine(wI rb sb w2 s r q (by omega) h h1 h2 h3).mono ?_;rintro e w' ⟨rfl,hsn,hb⟩;exact⟨_,q,false,rfl,hsn,hb,.inl ⟨rfl,Wf.kH x n h1 h2 h3⟩⟩
  ·apply hno
   by_cases h39:s.head? = some 39
   ·obtain⟨r,hr⟩:∃ r,s=39::r:=by
     cases s with
     | nil=>simp at h39
     | cons a r=>simp at h39;exact⟨r,by rw[h39]⟩
    by_cases h3:(r.takeWhile Wf.aG).length<=12
    ·refine Wf.kL x n hr fun h2=>?_
     obtain⟨q,hq⟩:∃ q,r.dropWhile Wf.aG=39::q:=by
      cases hd:r.dropWhile Wf.aG with
      | nil=>rw[hd] at h2;simp at h2
      | cons a q=>rw[hd] at h2;simp at h2;exact⟨q,by rw[h2]⟩
     exact h1 ⟨r,q,hr,hq,h3⟩
    ·exact Wf.oF x n hr h3
   ·exact Wf.lH x n h39
 have hrb:=H.lt;have c2:=H.c2;have HH:=hid H;have ST:=hid fun W1 h=>eI w ⟨#[]⟩ ⟨#[116]⟩ ⟨#[]⟩ W1 h;have HSG:=hid fun w2=>iR ⟨#[]⟩ ⟨#[116]⟩ ⟨#[]⟩ 0 (.inl ⟨by rw[zaZ];rfl,rfl⟩) w2;have hkv:kV .txt=.agg #[.string ⟨#[]⟩,.string ⟨#[116]⟩,.string ⟨#[]⟩]:=by rfl
 rw[hkv];clear H hkv;go_enter Tryz.func74,Tryz.ntmps74;go_wp2_with (first|(go_at_call 115;refine(HQ.out _ S1.out).mono ?_;rintro e w3 ⟨t,r,bad,rfl,hs3,hb3,hd⟩;have HD:=hid hd;have S3:=hid hs3;have HB3:=hid (HB1.out.trans hb3);have Z3:=hid (Z1.out.step hb3 (by omega));obtain⟨zl,zr0,zr1,zr2,zr3,zf0,zf1,zf2,zf3⟩:=Z3.out;clear hs3 hb3 hd)|(go_at_call 95;obtain⟨d0,d1,d2,z0,b0⟩:=ST.out _ rfl;refine(HSG.out _).mono ?_;rintro e w1 ⟨rfl,hb1⟩;have b01:=aC b0 hb1;have e1:=(hb1.cell (p:=⟨w.heap.size,1,none⟩) (zaC (zaH _) (Nat.le_of_lt z0.lt))).trans d1;have S1:=hid (HH.out.below b01);have c21:=S1.out.c2;have HB1:=hid (aA.aF (rb:=rb) b01 (zaA));have Z1:=hid (z0.below hb1 z0.lt);clear hb1 b01 b0 d0 d1 d2 z0))
 all_goals exact zbD (v:=.agg #[.int .u8 116,tx t,.int .i64 (0:Nat),.slice none 0 0]) (by simp[results,Tryz.results74,go_sem, *]) rfl (by
  have hR:∀ W4,aA (w.heap.size+1) w3 W4->aP (Wf.parse x (n+1) .txt s) s rb sb w (.returned (.agg #[.int .u8 116,tx t,.int .i64 (0:Nat),.slice none 0 0])) W4:=fun W4 hb=>by
   refine⟨_,.mk 116 t 0 [],r,rfl,VC.leaf 116 t 0 (by omega) (by decide),HB3.out.on hb (by omega),?_⟩;have sn:=S3.out.beside hb (by omega);rcases HD.out with⟨rfl,hp⟩|⟨rfl,hp,hl⟩
   ·exact .inl ⟨hp,sn⟩
   ·exact .inr ⟨hp,Wf.a3H hl,sn⟩
  refine hR _ ?_;repeat (first|with_reducible exact aA.refl _ _|with_reducible refine aA.drew ?_|with_reducible refine aA.trans ?_ (aA.set _ _ _ _)))
theorem a0U (x:Wf.Sc) (n:Nat) (H:Sn w rb sb s false):Calls Tryz.prog 74 #[ptr rb,kV .flag] w fun e w'=>aP (Wf.parse x (n+1) .flag s) s rb sb w e w':=by
 have hrb:=H.lt;have c2:=H.c2;have HH:=hid H;have ST:=hid fun W1 h=>eI w ⟨#[]⟩ ⟨#[102]⟩ ⟨#[]⟩ W1 h;have HSG:=hid fun w2=>iR ⟨#[]⟩ ⟨#[102]⟩ ⟨#[]⟩ 0 (.inl ⟨by rw[zaZ];rfl,rfl⟩) w2;have hkv:kV .flag=.agg #[.string ⟨#[]⟩,.string ⟨#[102]⟩,.string ⟨#[]⟩]:=by rfl
 rw[hkv];by_cases hy:[121,101,115] <+: s
 ·obtain⟨q,hq⟩:=hy
  have HP:=hid (show Wf.parse x (n+1) .flag s=some (.mk 102 [121,101,115] 0 [],q) by rw[<-hq];exact Wf.pQ x n q);have HT:=hid fun w2 (h:Sn w2 rb sb s false)=>eY rb sb w2 [121,101,115] q (by rw[hq];exact h);clear H hkv hq;go_enter Tryz.func74,Tryz.ntmps74;go_wp2_with (first|(go_at_call 112;refine(HT.out _ S1.out).mono ?_;rintro e w3 ⟨rfl,hs3,hb3⟩;have S3:=hid hs3;have HB3:=hid (HB1.out.trans hb3);have Z3:=hid (Z1.out.step hb3 (by omega));obtain⟨zl,zr0,zr1,zr2,zr3,zf0,zf1,zf2,zf3⟩:=Z3.out;clear hs3 hb3)|(go_at_call 95;obtain⟨d0,d1,d2,z0,b0⟩:=ST.out _ rfl;refine(HSG.out _).mono ?_;rintro e w1 ⟨rfl,hb1⟩;have b01:=aC b0 hb1;have e1:=(hb1.cell (p:=⟨w.heap.size,1,none⟩) (zaC (zaH _) (Nat.le_of_lt z0.lt))).trans d1;have S1:=hid (HH.out.below b01);have HB1:=hid (aA.aF (rb:=rb) b01 (zaA));have Z1:=hid (z0.below hb1 z0.lt);clear hb1 b01 b0 d0 d1 d2 z0))
  all_goals exact zbD (v:=.agg #[.int .u8 102,.string ⟨#[121,101,115]⟩,.int .i64 (0:Nat),.slice none 0 0]) (by simp[results,Tryz.results74,go_sem, *]) rfl (by
   have hR:∀ W4,aA (w.heap.size+1) w3 W4->aP (Wf.parse x (n+1) .flag s) s rb sb w (.returned (.agg #[.int .u8 102,.string ⟨#[121,101,115]⟩,.int .i64 (0:Nat),.slice none 0 0])) W4:=fun W4 hb=>by
    refine⟨_,.mk 102 [121,101,115] 0 [],q,rfl,VC.leaf 102 [121,101,115] 0 (by omega) (by decide),HB3.out.on hb (by omega),?_⟩;have sn:=S3.out.beside hb (by omega);exact .inl ⟨HP.out,sn⟩
   refine hR _ ?_;repeat (first|with_reducible exact aA.refl _ _|with_reducible refine aA.drew ?_|with_reducible refine aA.trans ?_ (aA.set _ _ _ _)))
 ·have HT:=hid fun w2 (h:Sn w2 rb sb s false)=>cR rb sb w2 s [121,101,115] false h (.inr hy)
  obtain⟨r,b,hwant,hp⟩:∃ r b,(∀ w2,Sn w2 rb sb s false->Calls Tryz.prog 113 #[ptr rb,tx [110,111]] w2 fun e w'=>e=.returned (.tuple #[])/\Sn w' rb sb r b/\aA rb w2 w')/\((b=false/\Wf.parse x (n+1) .flag s=some (.mk 102 [110,111] 0 [],r))\/(b=true/\Wf.parse x (n+1) .flag s=none/\r.length<=s.length)):=by
   by_cases hn:[110,111] <+: s
   ·obtain⟨q,rfl⟩:=hn
    exact⟨q,false,fun w2 h=>bS rb sb w2 [110,111] q h,.inl ⟨rfl,Wf.nP x n q⟩⟩
   ·exact⟨s,true,fun w2 h=>bQ rb sb w2 s [110,111] false h (.inr hn),.inr ⟨rfl,Wf.nC x n hy hn,zaA⟩⟩
  have HWANT:=hid hwant;have HP:=hid hp;clear H hkv hy hwant hp;go_enter Tryz.func74,Tryz.ntmps74;go_wp2_with (first|(go_at_call 113;refine(HWANT.out _ S1.out).mono ?_;rintro e w3 ⟨rfl,hs3,hb3⟩;have S3:=hid hs3;have HB3:=hid (HB1.out.trans hb3);have Z3:=hid (Z1.out.step hb3 (by omega));obtain⟨zl,zr0,zr1,zr2,zr3,zf0,zf1,zf2,zf3⟩:=Z3.out;clear hs3 hb3)|(go_at_call 112;refine(HT.out _ S1.out).mono ?_;rintro e w2 ⟨rfl,rfl⟩)|(go_at_call 95;obtain⟨d0,d1,d2,z0,b0⟩:=ST.out _ rfl;refine(HSG.out _).mono ?_;rintro e w1 ⟨rfl,hb1⟩;have b01:=aC b0 hb1;have e1:=(hb1.cell (p:=⟨w.heap.size,1,none⟩) (zaC (zaH _) (Nat.le_of_lt z0.lt))).trans d1;have S1:=hid (HH.out.below b01);have HB1:=hid (aA.aF (rb:=rb) b01 (zaA));have Z1:=hid (z0.below hb1 z0.lt);clear hb1 b01 b0 d0 d1 d2 z0))
  all_goals exact zbD (v:=.agg #[.int .u8 102,.string ⟨#[110,111]⟩,.int .i64 (0:Nat),.slice none 0 0]) (by simp[results,Tryz.results74,go_sem, *]) rfl (by
   have hR:∀ W4,aA (w.heap.size+1) w3 W4->aP (Wf.parse x (n+1) .flag s) s rb sb w (.returned (.agg #[.int .u8 102,.string ⟨#[110,111]⟩,.int .i64 (0:Nat),.slice none 0 0])) W4:=fun W4 hb=>by
    refine⟨_,.mk 102 [110,111] 0 [],r,rfl,VC.leaf 102 [110,111] 0 (by omega) (by decide),HB3.out.on hb (by omega),?_⟩;have sn:=S3.out.beside hb (by omega);rcases HP.out with⟨rfl,hp⟩|⟨rfl,hp,hl⟩
    ·exact .inl ⟨hp,sn⟩
    ·exact .inr ⟨hp,Wf.a2O (by decide) hl,sn⟩
   refine hR _ ?_;repeat (first|with_reducible exact aA.refl _ _|with_reducible refine aA.drew ?_|with_reducible refine aA.trans ?_ (aA.set _ _ _ _)))
end
