/- Packed. -/
import Derived.Test.YtidjpalnmnehmaaGreatDoorG24
set_option maxRecDepth 99999
set_option maxHeartbeats 40000000
set_option linter.all false
namespace Go.Proofs.YtidjpalnmnehmaaGreatDoor
open Go.ChangeShapes Go.WideShapes Go.ChangeAt Go.RowKit Go.Lib
theorem VC.one {W:World} {P:Nat->Prop} {b o:Nat} {cs:List Value} {v:Wf.V} (hv:VC W P v cs) (hb:P b) (hlt:b<W.heap.size) (hc:∀ j u,cs[j]? = some u->W.cell? ⟨b,o+j,none⟩=some u) (what:UInt8) (text:List UInt8) (tag:Nat) (hs:gO what tag [v]):VC W P (.mk what text tag [v]) [.int .u8 what.toNat,tx text,.int .i64 tag,.slice (some ⟨b,o,none⟩) 1 1]:=by
 simp only[VC,VCs];exact⟨some ⟨b,o,none⟩,1,rfl,zaA,by unfold maxLen;omega,hs,.inr ⟨b,o,rfl,hb,hlt,⟨cs,hv,hc⟩,trivial⟩⟩
structure Zero (wr:World) (b:Nat):Prop where
 lt:b<wr.heap.size
 r0:wr.cell? ⟨b,0,none⟩=some (.int .u8 0)
 r1:wr.cell? ⟨b,1,none⟩=some (.string ⟨#[]⟩)
 r2:wr.cell? ⟨b,2,none⟩=some (.int .i64 0)
 r3:wr.cell? ⟨b,3,none⟩=some (.slice none 0 0)
 f0:wr.frozen? ⟨b,0,none⟩=false
 f1:wr.frozen? ⟨b,1,none⟩=false
 f2:wr.frozen? ⟨b,2,none⟩=false
 f3:wr.frozen? ⟨b,3,none⟩=false
theorem Zero.same {wr w2:World} {b:Nat} (h:Zero wr b) (hs:wr.heap.size<=w2.heap.size) (h1:w2.heap[b]? = wr.heap[b]?):Zero w2 b:=by
 have cd:=fun o=>zbJ (w:=wr) (w':=w2) (a:=⟨b,o,none⟩) h1;have cf:=fun o=>World.frozen?_of_block (w:=wr) (w':=w2) (a:=⟨b,o,none⟩) h1;exact⟨zaC h.lt hs,(cd 0).trans h.r0,(cd 1).trans h.r1,(cd 2).trans h.r2,(cd 3).trans h.r3,(cf 0).trans h.f0,(cf 1).trans h.f1,(cf 2).trans h.f2,(cf 3).trans h.f3⟩
theorem Zero.step {wr w2:World} {b rb:Nat} (h:Zero wr b) (hb:aA rb wr w2) (hr:b≠rb):Zero w2 b:=h.same hb.size (hb.block _ h.lt hr)
theorem Zero.below {wr w2:World} {b B:Nat} (h:Zero wr b) (hb:Below B wr w2) (hr:b<B):Zero w2 b:=h.same hb.size (hb.block _ hr)
theorem iJ (w:World):Zero (w.alloc (.cells #[.int .u8 0,.string ⟨#[]⟩,.int .i64 0,.slice none 0 0] 51)) w.heap.size:=by
 refine⟨?_,?_,?_,?_,?_,?_,?_,?_,?_⟩ <;> simp[go_sem]
section
variable (x:Wf.Sc) (rb sb:Nat) (W:World) (n:Nat) (t:Wf.Ty) (s:List UInt8) (w:World)
theorem mC (bad:Bool) (ht:t.fields.length<=1000) (hs:s.length<=400) (lo tb:Nat) (hW:Below W.heap.size W w) (hT:TyL W lo tb t) (hWr:W.heap.size<=rb) (H:Sn w rb sb s bad) (hno:¬ (bad=false/\∃ g q f,Wf.aM 200 s=some (g,61::q)/\t.field g=some f)):Calls Tryz.prog 145 #[ptr rb,ptr tb] w fun e w'=>aA rb w w'/\∃ r,e=.returned (.tuple #[.agg #[.int .u8 0,.string ⟨#[]⟩,.int .i64 0,.slice none 0 0],.pointer none])/\r.length<=s.length/\Sn w' rb sb r true:=by
 obtain⟨m,hm⟩:∃ m,numV (s.takeWhile Wf.aB)=m:=⟨_,rfl⟩;obtain⟨s1,hs1⟩:∃ s1,s.dropWhile Wf.aB=s1:=⟨_,rfl⟩;obtain⟨b1,hb1⟩:∃ b1,(bad || !(Wf.aH (s.takeWhile Wf.aB) 200).isSome)=b1:=⟨_,rfl⟩;have HNUM:=hid fun w2 (h:Sn w2 rb sb s bad)=>number rb sb w2 s bad 200 (by omega) (by omega) h;rw[hm,hs1,hb1] at HNUM;have HFD:=hid fun(w2:World) (hb:Below W.heap.size W w2)=>field t ht m lo tb W w2 hb hT;have HLE:=hid (show s1.length<=s.length by rw[<-hs1];exact(List.dropWhile_suffix _).length_le);have hkey:b1=false->∀ q,s1=61::q->bZ t m=none:=fun h q hq=>by
  rw[h,Bool.or_eq_false_iff] at hb1;cases hp:Wf.aH (s.takeWhile Wf.aB) 200 with
  | none=>rw[hp] at hb1;simp at hb1
  | some g =>
   have hmg:m=g:=(by rw[<-hm];exact iN hp);have hnt:Wf.aM 200 s=some (g,61::q):=(by rw[Wf.aM,hp,hs1,hq];rfl);rw[hmg,cP];cases hf:t.field g with
   | none=>rfl
   | some f=>exact absurd ⟨hb1.1,g,q,f,hnt,hf⟩ hno
 have HW:=hid hW;have HH:=hid H;have hrb:=H.lt;have hmle:m<=999999:=by rw[<-hm];exact fZ _
 clear hno H hT hW hm hs1 hb1;by_cases hY:b1=false/\∃ q,s1=61::q
 ·obtain⟨rfl,q,rfl⟩:=hY
  have HFI:=hid (hkey rfl q rfl);have HL2:=hid (show q.length<=s.length by have:=HLE.out;simp at this;omega);clear hkey;have HFD2:=hid fun(w2:World) (hb:Below W.heap.size W w2)=>(HFD.out w2 hb).mono (R:=fun e w'=>aR W t m e/\w2=w') (R':=fun e w'=>e=.returned (.pointer none)/\w2=w') fun e w' h=>⟨aR.no (W:=W) (t:=t) (g:=m) (e:=e) h.1 HFI.out,h.2⟩;go_enter Tryz.func145,Tryz.ntmps145;go_wp2_with (first|(go_at_call 113;refine(bP rb sb _ [61] q S1.out).mono ?_;rintro e w3 ⟨rfl,hs3,hb3⟩;have HS3:=hid hs3;have HB3:=hid (HB1.out.trans hb3);have c2:=hs3.c2;have f2:=hs3.f2;have hlt:=hs3.lt;have ZZ3:=hid (ZZ.out.step hb3 (by omega));obtain⟨zl,zr0,zr1,zr2,zr3,zf0,zf1,zf2,zf3⟩:=ZZ3.out;clear hs3 hb3)|(go_at_call 40;refine(HFD2.out _ BW1.out).mono ?_;rintro e w2 ⟨rfl,rfl⟩)|(go_at_call 114;have b0:=(Below.refl w.heap.size w).alloc (zaA) (.cells #[.int .u8 0,.string ⟨#[]⟩,.int .i64 0,.slice none 0 0] 51);refine(HNUM.out _ (HH.out.below b0)).mono ?_;rintro e w1 ⟨rfl,hs1,hb1⟩;have B0:=hid b0;have S1:=hid hs1;have ZZ:=hid ((iJ w).step hb1 (by omega));have HB1:=hid ((aA.aF b0 (zaA)).trans hb1);have HB1a:=hid hb1;have BW1:=hid (aA.below HW.out HW.out.size hWr HB1.out);clear b0 hs1 hb1))
  exact zbD (v:=.tuple #[.agg #[.int .u8 0,.string ⟨#[]⟩,.int .i64 0,.slice none 0 0],.pointer none]) (by simp[results,Tryz.results145,go_sem, *]) rfl (by
   refine(fun(wx W4:World) (sn:Sn wx rb sb q true) (hf:aA rb w wx) (hb:aA w.heap.size wx W4)=>⟨hf.on hb (zaA),q,rfl,HL2.out,sn.beside hb (by omega)⟩:∀ wx W4,Sn wx rb sb q true->aA rb w wx->aA w.heap.size wx W4->aA rb w W4/\∃ r,(Ending.returned (.tuple #[.agg #[.int .u8 0,.string ⟨#[]⟩,.int .i64 0,.slice none 0 0],.pointer none]))=.returned (.tuple #[.agg #[.int .u8 0,.string ⟨#[]⟩,.int .i64 0,.slice none 0 0],.pointer none])/\r.length<=s.length/\Sn W4 rb sb r true) (w3.setCell ⟨rb,2,none⟩ (.bool true)) _ HS3.out.fail (HB3.out.trans (aA.set _ _ _ _)) ?_;repeat (first|with_reducible exact aA.refl _ _|with_reducible refine aA.drew ?_|with_reducible refine aA.trans ?_ (aA.set _ _ _ _)))
 ·have HY:=hid (show b1=true\/¬ [61] <+: s1 by
   cases b1 with
   | true=>exact .inl rfl
   | false=>exact .inr fun⟨q,hq⟩=>hY ⟨rfl,q,hq.symm⟩)
  clear hkey hY;cases hfi:bZ t m with
  | none =>
   have HFI:=hid hfi;clear hfi;have HFD2:=hid fun(w2:World) (hb:Below W.heap.size W w2)=>(HFD.out w2 hb).mono (R:=fun e w'=>aR W t m e/\w2=w') (R':=fun e w'=>e=.returned (.pointer none)/\w2=w') fun e w' h=>⟨aR.no (W:=W) (t:=t) (g:=m) (e:=e) h.1 HFI.out,h.2⟩;go_enter Tryz.func145,Tryz.ntmps145;go_wp2_with (first|(go_at_call 113;refine(bT rb sb _ s1 [61] b1 S1.out HY.out).mono ?_;rintro e w3 ⟨rfl,hs3,hb3⟩;have HS3:=hid hs3;have HB3:=hid (HB1.out.trans hb3);have c2:=hs3.c2;have f2:=hs3.f2;have hlt:=hs3.lt;have ZZ3:=hid (ZZ.out.step hb3 (by omega));obtain⟨zl,zr0,zr1,zr2,zr3,zf0,zf1,zf2,zf3⟩:=ZZ3.out;clear hs3 hb3)|(go_at_call 40;refine(HFD2.out _ BW1.out).mono ?_;rintro e w2 ⟨rfl,rfl⟩)|(go_at_call 114;have b0:=(Below.refl w.heap.size w).alloc (zaA) (.cells #[.int .u8 0,.string ⟨#[]⟩,.int .i64 0,.slice none 0 0] 51);refine(HNUM.out _ (HH.out.below b0)).mono ?_;rintro e w1 ⟨rfl,hs1,hb1⟩;have B0:=hid b0;have S1:=hid hs1;have ZZ:=hid ((iJ w).step hb1 (by omega));have HB1:=hid ((aA.aF b0 (zaA)).trans hb1);have HB1a:=hid hb1;have BW1:=hid (aA.below HW.out HW.out.size hWr HB1.out);clear b0 hs1 hb1))
   exact zbD (v:=.tuple #[.agg #[.int .u8 0,.string ⟨#[]⟩,.int .i64 0,.slice none 0 0],.pointer none]) (by simp[results,Tryz.results145,go_sem, *]) rfl (by
    refine(fun(wx W4:World) (sn:Sn wx rb sb s1 true) (hf:aA rb w wx) (hb:aA w.heap.size wx W4)=>⟨hf.on hb (zaA),s1,rfl,HLE.out,sn.beside hb (by omega)⟩:∀ wx W4,Sn wx rb sb s1 true->aA rb w wx->aA w.heap.size wx W4->aA rb w W4/\∃ r,(Ending.returned (.tuple #[.agg #[.int .u8 0,.string ⟨#[]⟩,.int .i64 0,.slice none 0 0],.pointer none]))=.returned (.tuple #[.agg #[.int .u8 0,.string ⟨#[]⟩,.int .i64 0,.slice none 0 0],.pointer none])/\r.length<=s.length/\Sn W4 rb sb r true) (w3.setCell ⟨rb,2,none⟩ (.bool true)) _ HS3.out.fail (HB3.out.trans (aA.set _ _ _ _)) ?_;repeat (first|with_reducible exact aA.refl _ _|with_reducible refine aA.drew ?_|with_reducible refine aA.trans ?_ (aA.set _ _ _ _)))
  | some f =>
   have HFI:=hid hfi;clear hfi;have HFD2:=hid fun(w2:World) (hb:Below W.heap.size W w2)=>(HFD.out w2 hb).mono (R:=fun e w'=>aR W t m e/\w2=w') (R':=fun e w'=>(∃ fb o,e=.returned (.pointer (some ⟨fb,o,none⟩)))/\w2=w') fun e w' h=>⟨let ⟨fb,o,he,_⟩:=aR.yes (W:=W) (t:=t) (g:=m) (e:=e) h.1 HFI.out;⟨fb,o,he⟩,h.2⟩;go_enter Tryz.func145,Tryz.ntmps145;go_wp2_with (first|(go_at_call 113;refine(bT rb sb _ s1 [61] b1 S1.out HY.out).mono ?_;rintro e w3 ⟨rfl,hs3,hb3⟩;have HS3:=hid hs3;have HB3:=hid (HB1.out.trans hb3);have c2:=hs3.c2;have f2:=hs3.f2;have hlt:=hs3.lt;have ZZ3:=hid (ZZ.out.step hb3 (by omega));obtain⟨zl,zr0,zr1,zr2,zr3,zf0,zf1,zf2,zf3⟩:=ZZ3.out;clear hs3 hb3)|(go_at_call 40;refine(HFD2.out _ BW1.out).mono ?_;rintro e w2 ⟨⟨fb,o,rfl⟩,rfl⟩)|(go_at_call 114;have b0:=(Below.refl w.heap.size w).alloc (zaA) (.cells #[.int .u8 0,.string ⟨#[]⟩,.int .i64 0,.slice none 0 0] 51);refine(HNUM.out _ (HH.out.below b0)).mono ?_;rintro e w1 ⟨rfl,hs1,hb1⟩;have B0:=hid b0;have S1:=hid hs1;have ZZ:=hid ((iJ w).step hb1 (by omega));have HB1:=hid ((aA.aF b0 (zaA)).trans hb1);have HB1a:=hid hb1;have BW1:=hid (aA.below HW.out HW.out.size hWr HB1.out);clear b0 hs1 hb1))
   exact zbD (v:=.tuple #[.agg #[.int .u8 0,.string ⟨#[]⟩,.int .i64 0,.slice none 0 0],.pointer none]) (by simp[results,Tryz.results145,go_sem, *]) rfl (by
    refine(fun(wx W4:World) (sn:Sn wx rb sb s1 true) (hf:aA rb w wx) (hb:aA w.heap.size wx W4)=>⟨hf.on hb (zaA),s1,rfl,HLE.out,sn.beside hb (by omega)⟩:∀ wx W4,Sn wx rb sb s1 true->aA rb w wx->aA w.heap.size wx W4->aA rb w W4/\∃ r,(Ending.returned (.tuple #[.agg #[.int .u8 0,.string ⟨#[]⟩,.int .i64 0,.slice none 0 0],.pointer none]))=.returned (.tuple #[.agg #[.int .u8 0,.string ⟨#[]⟩,.int .i64 0,.slice none 0 0],.pointer none])/\r.length<=s.length/\Sn W4 rb sb r true) (w3.setCell ⟨rb,2,none⟩ (.bool true)) _ HS3.out.fail (HB3.out.trans (aA.set _ _ _ _)) ?_;repeat (first|with_reducible exact aA.refl _ _|with_reducible refine aA.drew ?_|with_reducible refine aA.trans ?_ (aA.set _ _ _ _)))
def oG (x:Wf.Sc) (n:Nat) (t:Wf.Ty) (s:List UInt8) (rb sb:Nat) (W w:World) (e:Ending) (w':World):Prop :=
 aA rb w w'/\∃ cs f v r fb o,e=.returned (.tuple #[.agg cs.toArray,.pointer (some ⟨fb,o,none⟩)])/\f∈t.fields/\f.tag<=200/\FdAt W fb o t.sort f/\VC w' (fun b=>w.heap.size<=b) (.mk 61 [] f.tag [v]) cs/\((Wf.fieldTok t (fun k s=>Wf.parse x n k s) s=some (f,v,r)/\Sn w' rb sb r false)\/(Wf.fieldTok t (fun k s=>Wf.parse x n k s) s=none/\(∃ q,q.length+2<=s.length/\Wf.Badv q r v)/\Sn w' rb sb r true))
theorem a4A {w w4 W7:World} (hb:aA w.heap.size w4 W7) {B:Nat} {v:Wf.V} {cs:List Value} (hvc:VC w4 (fun b=>B<=b) v cs) (h:w.heap.size<B) {blk:Nat} (hlt:blk<W7.heap.size) (hblk:w.heap.size<=blk) (hc:∀ j u,cs[j]? = some u->W7.cell? ⟨blk,0+j,none⟩=some u) {tag:Nat} (ht:tag<=999999):VC W7 (fun b=>w.heap.size<=b) (.mk 61 [] tag [v]) [.int .u8 61,tx [],.int .i64 tag,.slice (some ⟨blk,0,none⟩) 1 1] :=
 VC.one (VC.keep (P:=fun b=>B<=b) (fun b hp hlt=>⟨by omega,hb.block b hlt (by omega)⟩) hb.size _ _ hvc) hblk hlt hc 61 [] tag ⟨ht,fun _=>.inr (.inr (.inl rfl)),fun _=>rfl⟩
theorem rN (f:Wf.Fd) (g:Nat) (q:List UInt8) (hn:Wf.aM 200 s=some (g,61::q)) (hf:t.field g=some f) (ht:t.fields.length<=1000) (hs:s.length<=400) (lo tb:Nat) (hW:Below W.heap.size W w) (hT:TyL W lo tb t) (hWr:W.heap.size<=rb) (H:Sn w rb sb s false) (h69:t.sort≠69) (IH:Reads x rb sb W n f.kind) (hq:q.length<n):Calls Tryz.prog 145 #[ptr rb,ptr tb] w fun e w'=>oG x n t s rb sb W w e w':=by
 have hg:g<=200:=(Wf.iA hn).2.1;obtain⟨hfm,hft⟩:=Wf.eK hf;have hql:q.length+2<=s.length:=by have:=Wf.iF hn;simp at this;omega
 have HNUM:=hid fun w2 (h:Sn w2 rb sb s false)=>tQ rb sb w2 s (61::q) false 200 g (by omega) (by omega) h hn;have HFD:=hid fun(w2:World) (hb:Below W.heap.size W w2)=>(field t ht g lo tb W w2 hb hT).mono (R':=fun e w'=>(∃ fb o,e=.returned (.pointer (some ⟨fb,o,none⟩))/\FdAt W fb o t.sort f)/\w2=w') fun e w' h=>⟨aR.yes (W:=W) (t:=t) (g:=g) (e:=e) h.1 (by rw[cP];exact hf),h.2⟩;have HTK:=hid (show Wf.fieldTok t (fun k s=>Wf.parse x n k s) s=(Wf.parse x n f.kind q).map fun y=>(f,y.1,y.2) from Wf.uD t (fun k s=>Wf.parse x n k s) hn hf);obtain⟨SG,hSG⟩:∃ SG:ByteArray,(⟨f.kind.signs.toArray⟩:ByteArray)=SG:=⟨_,rfl⟩;obtain⟨BS,hBS⟩:∃ BS:ByteArray,(⟨f.kind.base.toArray⟩:ByteArray)=BS:=⟨_,rfl⟩;obtain⟨NM,hNM⟩:∃ NM:ByteArray,(⟨f.kind.name.toArray⟩:ByteArray)=NM:=⟨_,rfl⟩;have hkv:kV f.kind=.agg #[.string SG,.string BS,.string NM]:=by simp only[kV,tx,hSG,hBS,hNM]
 have hIH2:∀ (s:List UInt8) (w:World),Below W.heap.size W w->Sn w rb sb s false->s.length<n->s.length<=400->Calls Tryz.prog 74 #[ptr rb,.agg #[.string SG,.string BS,.string NM]] w fun e w'=>aP (Wf.parse x n f.kind s) s rb sb w e w':=by rw[<-hkv];exact IH
 have HIH2:=hid hIH2;have HCL:=hid fun(fb o:Nat) (w2:World) (hb:Below W.heap.size W w2) (h:FdAt W fb o t.sort f)=>(show fb<w2.heap.size/\w2.cell? ⟨fb,o,none⟩=some (.int .i64 g)/\w2.cell? ⟨fb,o+2,none⟩=some (.string SG)/\w2.cell? ⟨fb,o+2+1,none⟩=some (.string BS)/\w2.cell? ⟨fb,o+2+2,none⟩=some (.string NM) by
  have e:fdC t.sort f=[.int .i64 f.tag,tx f.name,.string SG,.string BS,.string NM,tx f.given]:=by
   unfold fdC;rw[if_neg h69,<-hSG,<-hBS,<-hNM]
  have hc:=fun j u (hu:(fdC t.sort f)[j]? = some u)=>(hb.cell (p:=⟨fb,o+j,none⟩) h.1).trans (h.2 j u hu);rw[e] at hc;exact⟨zaC h.1 hb.size,by rw[<-hft];exact hc 0 _ rfl,hc 2 _ rfl,hc 3 _ rfl,hc 4 _ rfl⟩)
 have HW:=hid hW;have HH:=hid H;have HF:=hid (And.intro hfm hft);have hrb:=H.lt;clear hn hf hfm hft H hT hW hSG hBS hNM hkv hIH2 IH h69;go_enter Tryz.func145,Tryz.ntmps145;go_wp2_with (first|(go_at_call 74;refine(HIH2.out q _ BW3.out HS3.out hq (by omega)).mono ?_;rintro e w4 ⟨cs,v,r2,rfl,hvc,hbs,ho⟩;obtain⟨q2,g2,n2,c2,T2,a2,rfl⟩:=hvc.bA;have HVC:=hid hvc;have HO:=hid ho;have HB4:=hid hbs;have ZZ4:=hid (ZZ3.out.step hbs (by omega));obtain⟨yl,yr0,yr1,yr2,yr3,yf0,yf1,yf2,yf3⟩:=ZZ4.out;have BW4:=hid (aA.below BW3.out BW3.out.size hWr hbs);obtain⟨x1,x2,x3,x4,x5⟩:=HCL.out fb o w4 BW4.out HFA.out;clear hvc ho hbs)|(go_at_call 113;refine(bP rb sb _ [61] q S1.out).mono ?_;rintro e w3 ⟨rfl,hs3,hb3⟩;have HS3:=hid hs3;have HB3:=hid (HB1.out.trans hb3);have BW3:=hid (aA.below BW1.out BW1.out.size hWr hb3);have c2:=hs3.c2;have f2:=hs3.f2;have hlt:=hs3.lt;have ZZ3:=hid (ZZ.out.step hb3 (by omega));obtain⟨zl,zr0,zr1,zr2,zr3,zf0,zf1,zf2,zf3⟩:=ZZ3.out;obtain⟨k1,k2,k3,k4,k5⟩:=HCL.out fb o w3 BW3.out HFA.out;clear hs3 hb3)|(go_at_call 40;refine(HFD.out _ BW1.out).mono ?_;rintro e w2 ⟨⟨fb,o,rfl,hfa⟩,rfl⟩;have HFA:=hid hfa;clear hfa)|(go_at_call 114;have b0:=(Below.refl w.heap.size w).alloc (zaA) (.cells #[.int .u8 0,.string ⟨#[]⟩,.int .i64 0,.slice none 0 0] 51);refine(HNUM.out _ (HH.out.below b0)).mono ?_;rintro e w1 ⟨rfl,hs1,hb1⟩;have B0:=hid b0;have S1:=hid hs1;have ZZ:=hid ((iJ w).step hb1 (by omega));have HB1:=hid ((aA.aF b0 (zaA)).trans hb1);have HB1a:=hid hb1;have BW1:=hid (aA.below HW.out HW.out.size hWr HB1.out);clear b0 hs1 hb1))
 have hx1:fb<w4.heap.size+1:=Nat.lt_succ_of_lt x1;go_region
 all_goals (go_wp2_with fail)
 all_goals exact zbD (v:=.tuple #[.agg #[.int .u8 61,.string ⟨#[]⟩,.int .i64 g,.slice (some ⟨w4.heap.size+1,0,none⟩) 1 1],.pointer (some ⟨fb,o,none⟩)]) (by simp[results,Tryz.results145,go_sem, *]) rfl (by
  have hR:∀ W7,aA w.heap.size w4 W7->w4.heap.size+1<W7.heap.size->(∀ j u,[Value.int .u8 q2,Value.string T2,Value.int .i64 g2,Value.slice a2 n2 c2][j]? = some u->W7.cell? ⟨w4.heap.size+1,0+j,none⟩=some u)->oG x n t s rb sb W w (.returned (.tuple #[.agg #[.int .u8 61,.string ⟨#[]⟩,.int .i64 g,.slice (some ⟨w4.heap.size+1,0,none⟩) 1 1],.pointer (some ⟨fb,o,none⟩)])) W7:=fun W7 hb hl hc=>by
   refine⟨(HB3.out.trans HB4.out).on hb (zaA),⟨[.int .u8 61,.string ⟨#[]⟩,.int .i64 g,.slice (some ⟨w4.heap.size+1,0,none⟩) 1 1],f,v,r2,fb,o,rfl,HF.out.1,by rw[HF.out.2];exact hg,HFA.out,by rw[HF.out.2];exact a4A hb HVC.out zl hl (by omega) hc (by omega),?_⟩⟩;rcases HO.out with⟨hp,hs4⟩|⟨hp,hbv,hs4⟩
   ·exact .inl ⟨by rw[HTK.out,hp];rfl,hs4.beside hb (by omega)⟩
   ·exact .inr ⟨by rw[HTK.out,hp];rfl,⟨q,hql,hbv⟩,hs4.beside hb (by omega)⟩
  refine hR _ ?_ ?_ ?_
  ·repeat (first|with_reducible exact aA.refl _ _|with_reducible refine aA.drew ?_|with_reducible refine aA.alloc ?_ _|with_reducible refine aA.trans ?_ (aA.set _ _ _ _))
  ·simp
  ·intro j u hu
   rcases j with _|_|_|_|j <;> simp at hu <;> subst hu <;> simp[go_sem])
theorem tO (h:¬ ∃ g q f,Wf.aM 200 s=some (g,61::q)/\t.field g=some f):Wf.fieldTok t (fun k s=>Wf.parse x n k s) s=none:=by
 cases hn:Wf.aM 200 s with
 | none=>exact Wf.mN t _ hn
 | some y =>
  obtain⟨g,r⟩:=y;by_cases hr:r.head? = some 61
  ·cases r with
   | nil=>simp at hr
   | cons a q =>
    simp at hr;subst hr;cases hf:t.field g with
    | none=>exact Wf.nL t _ hn hf
    | some f=>exact absurd ⟨g,q,f,hn,hf⟩ h
  ·exact Wf.nI t _ hn hr
end

structure Blk (wr:World) (b q g:Nat):Prop where
 lt:b<wr.heap.size
 r0:wr.cell? ⟨b,0,none⟩=some (.int .u8 q)
 r1:wr.cell? ⟨b,1,none⟩=some (.string ⟨#[]⟩)
 r2:wr.cell? ⟨b,2,none⟩=some (.int .i64 g)
 r3:wr.cell? ⟨b,3,none⟩=some (.slice none 0 0)
 f2:wr.frozen? ⟨b,2,none⟩=false
 f3:wr.frozen? ⟨b,3,none⟩=false
theorem Blk.step {wr w2:World} {b rb q g:Nat} (h:Blk wr b q g) (hb:aA rb wr w2) (hr:b≠rb):Blk w2 b q g:=by
 have h1:=hb.block _ h.lt hr;have cd:=fun o=>zbJ (w:=wr) (w':=w2) (a:=⟨b,o,none⟩) h1;have cf:=fun o=>World.frozen?_of_block (w:=wr) (w':=w2) (a:=⟨b,o,none⟩) h1;exact⟨zaC h.lt hb.size,(cd 0).trans h.r0,(cd 1).trans h.r1,(cd 2).trans h.r2,(cd 3).trans h.r3,(cf 2).trans h.f2,(cf 3).trans h.f3⟩
theorem lF (w:World) (q:Nat) (W1:World) (hW1:(w.alloc (.cells #[.int .u8 0,.string ⟨#[]⟩,.int .i64 0,.slice none 0 0] 51)).alloc (.cells #[.int .u8 q,.string ⟨#[]⟩,.int .i64 0,.slice none 0 0] 51)=W1) :
  Zero W1 w.heap.size/\Blk W1 (w.heap.size+1) q 0/\Below w.heap.size w W1:=by
 have hB:Below w.heap.size w W1:=by
  rw[<-hW1];exact(((zaB).alloc (zaA) _).alloc (by simp) _)
 subst hW1;refine⟨⟨?_,?_,?_,?_,?_,?_,?_,?_,?_⟩,⟨?_,?_,?_,?_,?_,?_,?_⟩,hB⟩;all_goals first|(simp[go_sem];done)|(simp[go_sem];omega)
section
variable (rb sb:Nat) (W:World) (t:Wf.Ty) (s:List UInt8) (w:World)
theorem nB (s1 s2:List UInt8) (b1 b2:Bool) (m:Nat) (hm:m<=999999) (hwant:∀ w2,Sn w2 rb sb s false->Calls Tryz.prog 113 #[ptr rb,tx [35]] w2 fun e w'=>e=.returned (.tuple #[])/\Sn w' rb sb s1 b1/\aA rb w2 w') (hnum:∀ w2,Sn w2 rb sb s1 b1->Calls Tryz.prog 114 #[ptr rb,.int .i64 (200:Nat)] w2 fun e w'=>e=.returned (.int .i64 m)/\Sn w' rb sb s2 b2/\aA rb w2 w') (ht:t.fields.length<=1000) (lo tb:Nat) (hW:Below W.heap.size W w) (hT:TyL W lo tb t) (h69:t.sort=69) (hWr:W.heap.size<=rb) (H:Sn w rb sb s false):Calls Tryz.prog 116 #[ptr rb,ptr tb] w fun e w'=>e=.returned (.agg #[.int .u8 69,.string ⟨#[]⟩,.int .i64 m,.slice none 0 0])/\aA rb w w'/\Sn w' rb sb s2 (b2 || (t.field m).isNone):=by
 obtain⟨htb,c0⟩:=hT.sort;rw[h69] at c0;have HFD:=hid fun(w2:World) (hb:Below W.heap.size W w2)=>field t ht m lo tb W w2 hb hT;have y0:w.cell? ⟨tb,0,none⟩=some (.int .u8 69):=(hW.cell (p:=⟨tb,0,none⟩) htb).trans c0;have htw:tb<w.heap.size:=zaC htb hW.size;have htw1:tb<w.heap.size+1:=by omega
 have HWANT:=hid hwant;have HNUM:=hid hnum;have HW:=hid hW;have HH:=hid H;have hrb:=H.lt;have ST:=hid fun W1 h=>lF w 69 W1 h;clear hwant hnum hW H hT c0 h69;cases hfi:t.field m with
 | none =>
  have HFD2:=hid fun(w2:World) (hb:Below W.heap.size W w2)=>(HFD.out w2 hb).mono (R:=fun e w'=>aR W t m e/\w2=w') (R':=fun e w'=>e=.returned (.pointer none)/\w2=w') fun e w' h=>⟨aR.no (W:=W) (t:=t) (g:=m) (e:=e) h.1 (by rw[cP];exact hfi),h.2⟩;clear hfi;go_enter Tryz.func116,Tryz.ntmps116;go_wp2_with (first|(go_at_call 40;refine(HFD2.out _ (zbF BW2.out (p:=⟨w.heap.size+1,2,none⟩) (by have:=HW.out.size;show W.heap.size<=w.heap.size+1;omega) _)).mono ?_;rintro e w3 ⟨rfl,rfl⟩)|(go_at_call 114;refine(HNUM.out _ S1.out).mono ?_;rintro e w2 ⟨rfl,hs2,hb2⟩;have S2:=hid hs2;have HB2:=hid (HB1.out.trans hb2);have BW2:=hid (aA.below HW.out HW.out.size hWr HB2.out);have Z2:=hid (Z1.out.step hb2 (by omega));have K2:=hid (K1.out.step hb2 (by omega));obtain⟨zl,zr0,zr1,zr2,zr3,zf0,zf1,zf2,zf3⟩:=Z2.out;obtain⟨kl,kr0,kr1,kr2,kr3,kf2,kf3⟩:=K2.out;have c2:=hs2.c2;have f2:=hs2.f2;have hlt:=hs2.lt;clear hs2 hb2)|(go_at_call 113;obtain⟨zz0,bk0,b0⟩:=ST.out _ rfl;refine(HWANT.out _ (HH.out.below b0)).mono ?_;rintro e w1 ⟨rfl,hs1,hb1⟩;have Z1:=hid (zz0.step hb1 (by omega));have K1:=hid (bk0.step hb1 (by omega));have S1:=hid hs1;have HB1:=hid ((aA.aF b0 (zaA)).trans hb1);clear zz0 bk0 b0 hs1 hb1))
  exact zbD (v:=.agg #[.int .u8 69,.string ⟨#[]⟩,.int .i64 m,.slice none 0 0]) (by simp[results,Tryz.results116,go_sem, *]) rfl (by
   have sA:Sn (w2.setCell ⟨w.heap.size+1,2,none⟩ (.int .i64 m)) rb sb s2 b2:=S2.out.beside (aA.set (w.heap.size+1) w2 2 _) (by omega);have hA:aA rb w (w2.setCell ⟨w.heap.size+1,2,none⟩ (.int .i64 m)):=HB2.out.on (aA.set (w.heap.size+1) w2 2 _) (by omega);have hR:∀ W4,aA w.heap.size ((w2.setCell ⟨w.heap.size+1,2,none⟩ (.int .i64 m)).setCell ⟨rb,2,none⟩ (.bool true)) W4->(Ending.returned (.agg #[.int .u8 69,.string ⟨#[]⟩,.int .i64 m,.slice none 0 0])=.returned (.agg #[.int .u8 69,.string ⟨#[]⟩,.int .i64 m,.slice none 0 0])/\aA rb w W4/\Sn W4 rb sb s2 (b2 || (none:Option Wf.Fd).isNone)):=fun W4 hb=>by
    refine⟨rfl,(hA.trans (aA.set rb _ 2 _)).on hb (zaA),?_⟩;rw[Option.isNone_none,Bool.or_true];exact sA.fail.beside hb (by omega)
   refine hR _ ?_;repeat (first|with_reducible exact aA.refl _ _|with_reducible refine aA.drew ?_|with_reducible refine aA.trans ?_ (aA.set _ _ _ _)))
 | some f =>
  have HFD2:=hid fun(w2:World) (hb:Below W.heap.size W w2)=>(HFD.out w2 hb).mono (R:=fun e w'=>aR W t m e/\w2=w') (R':=fun e w'=>(∃ fb o,e=.returned (.pointer (some ⟨fb,o,none⟩)))/\w2=w') fun e w' h=>⟨let ⟨fb,o,he,_⟩:=aR.yes (W:=W) (t:=t) (g:=m) (e:=e) (f:=f) h.1 (by rw[cP];exact hfi);⟨fb,o,he⟩,h.2⟩;clear hfi;go_enter Tryz.func116,Tryz.ntmps116;go_wp2_with (first|(go_at_call 40;refine(HFD2.out _ (zbF BW2.out (p:=⟨w.heap.size+1,2,none⟩) (by have:=HW.out.size;show W.heap.size<=w.heap.size+1;omega) _)).mono ?_;rintro e w3 ⟨⟨fb,o,rfl⟩,rfl⟩)|(go_at_call 114;refine(HNUM.out _ S1.out).mono ?_;rintro e w2 ⟨rfl,hs2,hb2⟩;have S2:=hid hs2;have HB2:=hid (HB1.out.trans hb2);have BW2:=hid (aA.below HW.out HW.out.size hWr HB2.out);have Z2:=hid (Z1.out.step hb2 (by omega));have K2:=hid (K1.out.step hb2 (by omega));obtain⟨zl,zr0,zr1,zr2,zr3,zf0,zf1,zf2,zf3⟩:=Z2.out;obtain⟨kl,kr0,kr1,kr2,kr3,kf2,kf3⟩:=K2.out;have c2:=hs2.c2;have f2:=hs2.f2;have hlt:=hs2.lt;clear hs2 hb2)|(go_at_call 113;obtain⟨zz0,bk0,b0⟩:=ST.out _ rfl;refine(HWANT.out _ (HH.out.below b0)).mono ?_;rintro e w1 ⟨rfl,hs1,hb1⟩;have Z1:=hid (zz0.step hb1 (by omega));have K1:=hid (bk0.step hb1 (by omega));have S1:=hid hs1;have HB1:=hid ((aA.aF b0 (zaA)).trans hb1);clear zz0 bk0 b0 hs1 hb1))
  exact zbD (v:=.agg #[.int .u8 69,.string ⟨#[]⟩,.int .i64 m,.slice none 0 0]) (by simp[results,Tryz.results116,go_sem, *]) rfl (by
   have sA:Sn (w2.setCell ⟨w.heap.size+1,2,none⟩ (.int .i64 m)) rb sb s2 b2:=S2.out.beside (aA.set (w.heap.size+1) w2 2 _) (by omega);have hA:aA rb w (w2.setCell ⟨w.heap.size+1,2,none⟩ (.int .i64 m)):=HB2.out.on (aA.set (w.heap.size+1) w2 2 _) (by omega);have hR:∀ W4,aA w.heap.size (w2.setCell ⟨w.heap.size+1,2,none⟩ (.int .i64 m)) W4->(Ending.returned (.agg #[.int .u8 69,.string ⟨#[]⟩,.int .i64 m,.slice none 0 0])=.returned (.agg #[.int .u8 69,.string ⟨#[]⟩,.int .i64 m,.slice none 0 0])/\aA rb w W4/\Sn W4 rb sb s2 (b2 || (some f).isNone)):=fun W4 hb=>by
    refine⟨rfl,hA.on hb (zaA),?_⟩;rw[Option.isNone_some,Bool.or_false];exact sA.beside hb (by omega)
   refine hR _ ?_;repeat (first|with_reducible exact aA.refl _ _|with_reducible refine aA.drew ?_|with_reducible refine aA.trans ?_ (aA.set _ _ _ _)))
theorem a4X (x:Wf.Sc) (n:Nat) (nm:List UInt8) (hs:s.length<=400) (hf:x.find nm=some t) (ht:t.fields.length<=1000) (lo tb:Nat) (hW:Below W.heap.size W w) (hT:TyL W lo tb t) (h69:t.sort=69) (hWr:W.heap.size<=rb) (H:Sn w rb sb s false):Calls Tryz.prog 116 #[ptr rb,ptr tb] w fun e w'=>aP (Wf.parse x (n+1) (.ref nm) s) s rb sb w e w':=by
 have fin:∀ (m:Nat) (s2:List UInt8) (bad:Bool),m<=999999->((bad=false/\Wf.parse x (n+1) (.ref nm) s=some (.mk 69 [] m [],s2))\/(bad=true/\Wf.parse x (n+1) (.ref nm) s=none/\s2.length<=s.length))->∀ e w',(e=.returned (.agg #[.int .u8 69,.string ⟨#[]⟩,.int .i64 m,.slice none 0 0])/\aA rb w w'/\Sn w' rb sb s2 bad)->aP (Wf.parse x (n+1) (.ref nm) s) s rb sb w e w':=by
  rintro m s2 bad hm h e w' ⟨rfl,hb,hsn⟩;refine⟨_,.mk 69 [] m [],s2,rfl,VC.leaf 69 [] m hm (by decide),hb,?_⟩;rcases h with⟨rfl,hp⟩|⟨rfl,hp,hl⟩
  ·exact .inl ⟨hp,hsn⟩
  ·exact .inr ⟨hp,Wf.a5H hm hl,hsn⟩
 have dl:∀ r:List UInt8,(r.dropWhile Wf.aB).length<=r.length:=fun r=>(List.dropWhile_suffix _).length_le;by_cases h35:s.head? = some 35
 ·obtain⟨r,rfl⟩:∃ r,s=35::r:=by
   cases s with
   | nil=>simp at h35
   | cons a r=>simp at h35;exact⟨r,by rw[h35]⟩
  have hr4:r.length<=400:=by simp at hs;omega
  cases hn:Wf.aM 200 r with
  | none =>
   have h1:Wf.aH (r.takeWhile Wf.aB) 200=none:=(by simpa[Wf.aM] using hn);refine(nB rb sb W t _ w r (r.dropWhile Wf.aB) false true (numV (r.takeWhile Wf.aB)) (fZ _) (fun w2 h=>bP rb sb w2 [35] r h) (fun w2 h=>(number rb sb w2 r false 200 (by omega) (by omega) h).mono fun e w' h=>by rw[h1] at h;exact h) ht lo tb hW hT h69 hWr H).mono fun e w' h=>?_;rw[Bool.true_or] at h;exact fin _ _ true (fZ _) (.inr ⟨rfl,Wf.sU x n hf h69 hn,by have:=dl r;simp;omega⟩) e w' h
  | some y =>
   obtain⟨g,q⟩:=y;have hg:=(Wf.iA hn).2.1;have hp:=Wf.mU x n hf h69 hn;refine(nB rb sb W t _ w r q false false g (by omega) (fun w2 h=>bP rb sb w2 [35] r h) (fun w2 h=>tQ rb sb w2 r q false 200 g (by omega) (by omega) h hn) ht lo tb hW hT h69 hWr H).mono fun e w' h=>?_;cases hfi:t.field g with
   | none =>
    rw[hfi] at h hp;exact fin g q true (by omega) (.inr ⟨rfl,by rw[hp];rfl,by have:=Wf.iF hn;simp;omega⟩) e w' h
   | some f =>
    rw[hfi] at h hp;exact fin g q false (by omega) (.inl ⟨rfl,by rw[hp];rfl⟩) e w' h
 ·refine(nB rb sb W t s w s (s.dropWhile Wf.aB) true true (numV (s.takeWhile Wf.aB)) (fZ _) (fun w2 h=>bT rb sb w2 s [35] false h (.inr fun hp=>h35 ((pre1 35 s).1 hp))) (fun w2 h=>(number rb sb w2 s true 200 (by omega) (by omega) h).mono fun e w' h=>by rw[Bool.true_or] at h;exact h) ht lo tb hW hT h69 hWr H).mono fun e w' h=>?_
  rw[Bool.true_or] at h;exact fin _ _ true (fZ _) (.inr ⟨rfl,Wf.tW x n hf h69 h35,dl s⟩) e w' h
end
