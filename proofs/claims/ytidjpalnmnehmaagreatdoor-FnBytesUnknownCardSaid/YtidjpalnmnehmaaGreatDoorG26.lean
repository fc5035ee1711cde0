/- Packed. -/
import Derived.Test.YtidjpalnmnehmaaGreatDoorG25
set_option maxRecDepth 99999
set_option maxHeartbeats 40000000
set_option linter.all false
namespace Go.Proofs.YtidjpalnmnehmaaGreatDoor
open Go.ChangeShapes Go.WideShapes Go.ChangeAt Go.RowKit Go.Lib
theorem zD (rb sb:Nat) (c:UInt8) (s:List UInt8) (bad:Bool):∃ s' b',(∀ w,Sn w rb sb s bad->Calls Tryz.prog 113 #[ptr rb,tx [c]] w fun e w'=>e=.returned (.tuple #[])/\Sn w' rb sb s' b'/\aA rb w w')/\((bad=false/\s=c::s'/\b'=false)\/((bad=true\/s.head? ≠ some c)/\s'=s/\b'=true)):=by
 by_cases h:bad=false/\s.head? = some c
 ·obtain⟨rfl,hc⟩:=h
  cases s with
  | nil=>simp at hc
  | cons a r =>
   simp at hc;subst hc;exact⟨r,false,fun w H=>bP rb sb w [a] r H,.inl ⟨rfl,rfl,rfl⟩⟩
 ·have h2:bad=true\/s.head? ≠ some c:=by
   cases bad with
   | true=>exact .inl rfl
   | false=>exact .inr fun hc=>h ⟨rfl,hc⟩
  exact⟨s,true,fun w H=>bT rb sb w s [c] bad H (h2.imp id fun h=>fun hp=>h ((pre1 c s).1 hp)),.inr ⟨h2,rfl,rfl⟩⟩
theorem VC.a1T {W:World} {P:Nat->Prop} {v:Wf.V} {g n c:Nat} {a:Option Addr} {T:ByteArray} (h:VC W P (.mk 61 [] g [v]) [.int .u8 61,.string T,.int .i64 g,.slice a n c]):VC W P (.mk 85 [] g [v]) [.int .u8 85,.string ⟨#[]⟩,.int .i64 g,.slice a n c]:=by
 simp only[VC] at h ⊢;obtain⟨a',c',e,h1,h2,h3,h4⟩:=h;simp only[List.cons.injEq,Value.slice.injEq,and_true,true_and] at e;obtain⟨_,_,rfl,rfl,rfl⟩:=e;exact⟨a,c,rfl,h1,h2,⟨h3.tag,fun _=>.inr (.inr (.inr (.inr rfl))),fun h=>absurd h (by decide)⟩,h4⟩
section
variable (rb sb:Nat) (W:World) (t:Wf.Ty) (s:List UInt8) (w:World)
theorem tD (s1:List UInt8) (b1:Bool) (hwant:∀ w2,Sn w2 rb sb s false->Calls Tryz.prog 113 #[ptr rb,tx [60]] w2 fun e w'=>e=.returned (.tuple #[])/\Sn w' rb sb s1 b1/\aA rb w2 w') (lo tb:Nat)
  (hfld:∀ w2,Below W.heap.size W w2->Sn w2 rb sb s1 b1->Calls Tryz.prog 145 #[ptr rb,ptr tb] w2 fun e w'=>aA rb w2 w'/\∃ r,e=.returned (.tuple #[.agg #[.int .u8 0,.string ⟨#[]⟩,.int .i64 0,.slice none 0 0],.pointer none])/\r.length<=s1.length/\Sn w' rb sb r true) (hW:Below W.heap.size W w) (hT:TyL W lo tb t) (h85:t.sort=85) (hWr:W.heap.size<=rb) (H:Sn w rb sb s false):Calls Tryz.prog 116 #[ptr rb,ptr tb] w fun e w'=>e=.returned (.agg #[.int .u8 85,.string ⟨#[]⟩,.int .i64 0,.slice none 0 0])/\aA rb w w'/\∃ r,r.length<=s1.length/\Sn w' rb sb r true:=by
 obtain⟨htb,c0⟩:=hT.sort;rw[h85] at c0;have y0:w.cell? ⟨tb,0,none⟩=some (.int .u8 85):=(hW.cell (p:=⟨tb,0,none⟩) htb).trans c0;have htw:tb<w.heap.size:=zaC htb hW.size;have htw1:tb<w.heap.size+1:=by omega
 have HWANT:=hid hwant;have HFLD:=hid hfld;have HW:=hid hW;have HH:=hid H;have hrb:=H.lt;have ST:=hid fun W1 h=>lF w 85 W1 h;clear hwant hfld hW H hT c0 h85;go_enter Tryz.func116,Tryz.ntmps116;go_wp2_with (first|(go_at_call 113;have _u:=S2;refine(bT rb sb _ r [62] true (S2.out.below ((Below.refl w2.heap.size w2).alloc (zaA) _)) (.inl rfl)).mono ?_;rintro e w3 ⟨rfl,hs3,hb3⟩;have hb32:=(aA.aF ((Below.refl w2.heap.size w2).alloc (zaA) _) (zaA)).trans hb3;have S3:=hid hs3;have HB3:=hid (HB2.out.trans hb32);have Z3:=hid (Z2.out.step hb32 (by omega));have K3:=hid (K2.out.step hb32 (by omega));obtain⟨zl,zr0,zr1,zr2,zr3,zf0,zf1,zf2,zf3⟩:=Z3.out;obtain⟨kl,kr0,kr1,kr2,kr3,kf2,kf3⟩:=K3.out;clear hs3 hb3 hb32)|(go_at_call 145;refine(HFLD.out _ BW1.out S1.out).mono ?_;rintro e w2 ⟨hb2,r,rfl,hr,hs2⟩;have HR:=hid hr;have S2:=hid hs2;have HB2:=hid (HB1.out.trans hb2);have Z2:=hid (Z1.out.step hb2 (by omega));have K2:=hid (K1.out.step hb2 (by omega));clear hs2 hb2 hr)|(go_at_call 113;obtain⟨zz0,bk0,b0⟩:=ST.out _ rfl;refine(HWANT.out _ (HH.out.below b0)).mono ?_;rintro e w1 ⟨rfl,hs1,hb1⟩;have Z1:=hid (zz0.step hb1 (by omega));have K1:=hid (bk0.step hb1 (by omega));have S1:=hid hs1;have HB1:=hid ((aA.aF b0 (zaA)).trans hb1);have BW1:=hid (aA.below HW.out HW.out.size hWr HB1.out);clear zz0 bk0 b0 hs1 hb1))
 all_goals exact zbD (v:=.agg #[.int .u8 85,.string ⟨#[]⟩,.int .i64 0,.slice none 0 0]) (by simp[results,Tryz.results116,go_sem, *]) rfl (by
  have hR:∀ W4,aA w.heap.size w3 W4->(Ending.returned (.agg #[.int .u8 85,.string ⟨#[]⟩,.int .i64 0,.slice none 0 0])=.returned (.agg #[.int .u8 85,.string ⟨#[]⟩,.int .i64 0,.slice none 0 0])/\aA rb w W4/\∃ r,r.length<=s1.length/\Sn W4 rb sb r true):=fun W4 hb=>⟨rfl,HB3.out.on hb (zaA),r,HR.out,S3.out.beside hb (by omega)⟩;refine hR _ ?_;repeat (first|with_reducible exact aA.refl _ _|with_reducible refine aA.drew ?_|with_reducible refine aA.trans ?_ (aA.set _ _ _ _)))
theorem a3L (s1:List UInt8) (Q:Wf.Fd->Wf.V->List UInt8->Bool->Prop) (hwant:∀ w2,Sn w2 rb sb s false->Calls Tryz.prog 113 #[ptr rb,tx [60]] w2 fun e w'=>e=.returned (.tuple #[])/\Sn w' rb sb s1 false/\aA rb w2 w') (lo tb:Nat)
  (hfld:∀ w2,Below W.heap.size W w2->Sn w2 rb sb s1 false->Calls Tryz.prog 145 #[ptr rb,ptr tb] w2 fun e w'=>aA rb w2 w'/\∃ cs f v r fb o bad,e=.returned (.tuple #[.agg cs.toArray,.pointer (some ⟨fb,o,none⟩)])/\FdAt W fb o t.sort f/\VC w' (fun b=>w2.heap.size<=b) (.mk 61 [] f.tag [v]) cs/\Sn w' rb sb r bad/\Q f v r bad) (hW:Below W.heap.size W w) (hT:TyL W lo tb t) (h85:t.sort=85) (hWr:W.heap.size<=rb) (H:Sn w rb sb s false):Calls Tryz.prog 116 #[ptr rb,ptr tb] w fun e w'=>∃ f v r bad a c r' b',Q f v r bad/\e=.returned (.agg #[.int .u8 85,.string ⟨#[]⟩,.int .i64 (f.tag:Nat),.slice a 1 c])/\VC w' (fun b=>w.heap.size<=b) (.mk 85 [] f.tag [v]) [.int .u8 85,.string ⟨#[]⟩,.int .i64 (f.tag:Nat),.slice a 1 c]/\aA rb w w'/\Sn w' rb sb r' b'/\((bad=false/\r=62::r'/\b'=false)\/((bad=true\/r.head? ≠ some 62)/\r'=r/\b'=true)):=by
 obtain⟨htb,c0⟩:=hT.sort;rw[h85] at c0;have y0:w.cell? ⟨tb,0,none⟩=some (.int .u8 85):=(hW.cell (p:=⟨tb,0,none⟩) htb).trans c0;have htw:tb<w.heap.size:=zaC htb hW.size;have htw1:tb<w.heap.size+1:=by omega
 have HWANT:=hid hwant;have HFLD:=hid hfld;have HW:=hid hW;have HH:=hid H;have hrb:=H.lt;have ST:=hid fun W1 h=>lF w 85 W1 h;clear hwant hfld hW H hT c0 h85;go_enter Tryz.func116,Tryz.ntmps116;go_wp2_with (first|(go_at_call 113;have _u:=S2;refine(HWC.out _ (S2.out.below ((Below.refl w2.heap.size w2).alloc (zaA) _))).mono ?_;rintro e w3 ⟨rfl,hs3,hb3⟩;have hal:=(Below.refl w2.heap.size w2).alloc (zaA) (.cells #[.int .u8 61,.string ⟨#[]⟩,.int .i64 G,.slice a 1 c] 51);have hb32:=(aA.aF hal (zaA)).trans hb3;have x3:w3.cell? ⟨w2.heap.size,3,none⟩=some (.slice a 1 c):=((hb3.cell (p:=⟨w2.heap.size,3,none⟩) (by simp) (by show w2.heap.size≠rb;omega)).trans (by simp[go_sem]));have S3:=hid hs3;have HB3:=hid (HB2.out.trans hb32);have HB32:=hid hb32;have hxl:w2.heap.size<w3.heap.size:=zaC (by simp) hb3.size;have ft:=((aA.below HW.out HW.out.size hWr HB3.out).cell (p:=⟨fb,o,none⟩) HFA.out.1).trans HTG.out;have Z3:=hid (Z2.out.step hb32 (by omega));have K3:=hid (K2.out.step hb32 (by omega));obtain⟨zl,zr0,zr1,zr2,zr3,zf0,zf1,zf2,zf3⟩:=Z3.out;obtain⟨kl,kr0,kr1,kr2,kr3,kf2,kf3⟩:=K3.out;clear hs3 hb3 hb32 hal)|(go_at_call 145;refine(HFLD.out _ BW1.out S1.out).mono ?_;rintro e w2 ⟨hb2,cs,f,v,r,fb,o,bad,rfl,hfa,hvc,hs2,hq⟩;obtain⟨a,c,rfl,_⟩:=hvc.form;obtain⟨G,hG⟩:∃ G,f.tag=G:=⟨_,rfl⟩;obtain⟨r',b',hwc,hd⟩:=zD rb sb 62 r bad;have HWC:=hid hwc;have HD:=hid hd;have HQ:=hid hq;have HFA:=hid hfa;have HGG:=hid hG;have hr2:rb<w2.heap.size:=hs2.lt;have HTG:=hid (show W.cell? ⟨fb,o,none⟩=some (.int .i64 G) by(obtain⟨_,_,_,_,hc⟩:=fK t.sort f;rw[<-hG];exact hfa.2 0 _ (by rw[hc];rfl)));have HVC:=hid hvc;have S2:=hid hs2;have HB2:=hid (HB1.out.trans hb2);have Z2:=hid (Z1.out.step hb2 (by omega));have K2:=hid (K1.out.step hb2 (by omega));simp only[Wf.V.tag,Wf.V.what,Wf.V.text,Wf.V.kids,tx,hG,zaF,zaM];clear hs2 hb2 hwc hd hq hfa hvc hG)|(go_at_call 113;obtain⟨zz0,bk0,b0⟩:=ST.out _ rfl;refine(HWANT.out _ (HH.out.below b0)).mono ?_;rintro e w1 ⟨rfl,hs1,hb1⟩;have Z1:=hid (zz0.step hb1 (by omega));have K1:=hid (bk0.step hb1 (by omega));have S1:=hid hs1;have HB1:=hid ((aA.aF b0 (zaA)).trans hb1);have BW1:=hid (aA.below HW.out HW.out.size hWr HB1.out);clear zz0 bk0 b0 hs1 hb1))
 have hk2:=K2.out.lt;have hk1:=K1.out.lt;have hne:w2.heap.size≠w.heap.size+1:=by omega
 go_region
 all_goals (go_wp2_with fail)
 all_goals exact zbD (v:=.agg #[.int .u8 85,.string ⟨#[]⟩,.int .i64 G,.slice a 1 c]) (by simp[results,Tryz.results116,go_sem, *]) rfl (by
  have hR:∀ wx W4,aA (w.heap.size+1) w3 wx->aA w.heap.size wx W4->(∃ f v r bad a' c' r' b',Q f v r bad/\Ending.returned (.agg #[.int .u8 85,.string ⟨#[]⟩,.int .i64 G,.slice a 1 c])=.returned (.agg #[.int .u8 85,.string ⟨#[]⟩,.int .i64 (f.tag:Nat),.slice a' 1 c'])/\VC W4 (fun b=>w.heap.size<=b) (.mk 85 [] f.tag [v]) [.int .u8 85,.string ⟨#[]⟩,.int .i64 (f.tag:Nat),.slice a' 1 c']/\aA rb w W4/\Sn W4 rb sb r' b'/\((bad=false/\r=62::r'/\b'=false)\/((bad=true\/r.head? ≠ some 62)/\r'=r/\b'=true))):=fun wx W4 hx hb=>by
   have hv61:VC w2 (fun b=>w1.heap.size<=b) (.mk 61 [] f.tag [v]) [.int .u8 61,.string ⟨#[]⟩,.int .i64 f.tag,.slice a 1 c]:=HVC.out;refine⟨f,v,r,bad,a,c,r',b',HQ.out,by rw[HGG.out],VC.a1T (VC.keep (P:=fun b=>w1.heap.size<=b) (fun b hp hlt=>⟨by omega,?_⟩) ?_ _ _ hv61),(HB3.out.on hx (by omega)).on hb (zaA),(S3.out.beside hx (by omega)).beside hb (by omega),HD.out⟩
   ·have h3:b<w3.heap.size:=zaC hlt HB32.out.size
    exact(hb.block b (zaC h3 hx.size) (by omega)).trans ((hx.block b h3 (by omega)).trans (HB32.out.block b hlt (by omega)))
   ·exact zaI HB32.out.size (zaI hx.size hb.size)
  first
  | (refine hR ((w3.setCell ⟨w.heap.size+1,2,none⟩ (.int .i64 G)).setCell ⟨w.heap.size+1,3,none⟩ (.slice a 1 c)) _ ((aA.set _ w3 2 _).trans (aA.set _ _ 3 _)) ?_;(repeat (first|with_reducible exact aA.refl _ _|with_reducible refine aA.drew ?_|with_reducible refine aA.trans ?_ (aA.set _ _ _ _)));done)
  | (refine hR ((w3.setCell ⟨w.heap.size+1,2,none⟩ (.int .i64 G)).setCell ⟨w.heap.size+1,3,none⟩ (.slice a 1 c)).drew _ ((aA.set _ w3 2 _).trans (aA.set _ _ 3 _)).drew ?_;(repeat (first|with_reducible exact aA.refl _ _|with_reducible refine aA.trans ?_ (aA.set _ _ _ _)));done))
theorem uJ (x:Wf.Sc) (n:Nat) (nm:List UInt8) (hs:s.length<=400) (hsn:s.length<n+1) (hf:x.find nm=some t) (ht:t.fields.length<=1000) (lo tb:Nat) (hW:Below W.heap.size W w) (hT:TyL W lo tb t) (h85:t.sort=85) (hWr:W.heap.size<=rb) (H:Sn w rb sb s false) (IH:∀ f∈t.fields,Reads x rb sb W n f.kind):Calls Tryz.prog 116 #[ptr rb,ptr tb] w fun e w'=>aP (Wf.parse x (n+1) (.ref nm) s) s rb sb w e w':=by
 have fin:∀ (s1:List UInt8),s1.length<=s.length->Wf.parse x (n+1) (.ref nm) s=none->∀ e w',(e=.returned (.agg #[.int .u8 85,.string ⟨#[]⟩,.int .i64 (0:Nat),.slice none 0 0])/\aA rb w w'/\∃ r,r.length<=s1.length/\Sn w' rb sb r true)->aP (Wf.parse x (n+1) (.ref nm) s) s rb sb w e w':=by
  rintro s1 hl hp e w' ⟨rfl,hb,r,hr,hsn⟩;exact⟨_,.mk 85 [] 0 [],r,rfl,VC.leaf 85 [] 0 (by omega) (by decide),hb,.inr ⟨hp,Wf.a3O (by omega),hsn⟩⟩
 by_cases h60:s.head? = some 60
 ·obtain⟨r,rfl⟩:∃ r,s=60::r:=by
   cases s with
   | nil=>simp at h60
   | cons a r=>simp at h60;exact⟨r,by rw[h60]⟩
  have hr4:r.length+1<=400:=by simpa using hs
  have hrn:r.length<n:=by simp at hsn;omega
  by_cases h:∃ g q f,Wf.aM 200 r=some (g,61::q)/\t.field g=some f
  ·obtain⟨g,q,f,hn,hfd⟩:=h
   have hq:=Wf.iF hn;refine(a3L rb sb W t _ w r (fun f v r' bad=>f.tag<=200/\((bad=false/\Wf.fieldTok t (fun k s=>Wf.parse x n k s) r=some (f,v,r'))\/(bad=true/\Wf.fieldTok t (fun k s=>Wf.parse x n k s) r=none/\∃ q,q.length+2<=r.length/\Wf.Badv q r' v))) (fun w2 h=>bP rb sb w2 [60] r h) lo tb (fun w2 hb h=>(rN x rb sb W n t r w2 f g q hn hfd ht (by omega) lo tb hb hT hWr h (by rw[h85];decide) (IH f (Wf.eK hfd).1) (by simp at hq;omega)).mono ?_) hW hT h85 hWr H).mono ?_
   ·rintro e w' ⟨hb,cs,f,v,r',fb,o,he,hm,h200,hfa,hvc,ho⟩
    rcases ho with⟨hp,hsn⟩|⟨hp,hq,hsn⟩
    ·exact⟨hb,cs,f,v,r',fb,o,false,he,hfa,hvc,hsn,h200,.inl ⟨rfl,hp⟩⟩
    ·exact⟨hb,cs,f,v,r',fb,o,true,he,hfa,hvc,hsn,h200,.inr ⟨rfl,hp,hq⟩⟩
   ·rintro e w' ⟨f,v,r1,bad,a,c,r',b',⟨h200,hQ⟩,rfl,hvc,hb,hsn,hD⟩
    refine⟨_,.mk 85 [] f.tag [v],r',rfl,hvc,hb,?_⟩;rcases hQ with⟨rfl,hp⟩|⟨rfl,hp,q,hq2,hbv⟩
    ·rcases hD with⟨_,rfl,rfl⟩|⟨hD,rfl,rfl⟩
     ·exact .inl ⟨Wf.rP x n hf h85 hp,hsn⟩
     ·have hD2:r'.head? ≠ some 62:=by
       rcases hD with h|h
       ·cases h
       ·exact h
      have hsay:=(Wf.jL (Q:=fun f v=>Wf.Typed x n f.kind v) (fun f s v r h=>Wf.eH n f.kind s v r h) hp).2.2.2;have hlen:=congrArg List.length hsay;have hdp:1<=(Wf.dec f.tag).length:=List.length_pos_iff.2 (Wf.fD _);simp at hlen;have hbv:Wf.Badv (v.print++r') r' v:=⟨by simp;omega,by simp⟩;exact .inr ⟨Wf.pF x n hf h85 hp hD2,Wf.oS rfl (Wf.mR h200 (by simp;omega) hbv),hsn⟩
    ·rcases hD with⟨h,_⟩|⟨_,rfl,rfl⟩
     ·cases h
     ·exact .inr ⟨Wf.kN x n hf h85 hp,Wf.oS rfl (Wf.mR h200 hq2 hbv),hsn⟩
  ·refine(tD rb sb W t _ w r false (fun w2 h=>bP rb sb w2 [60] r h) lo tb (fun w2 hb h2=>mC rb sb W t r w2 false ht (by omega) lo tb hb hT hWr h2 (fun h3=>h h3.2)) hW hT h85 hWr H).mono ?_
   exact fin r (by simp) (Wf.kN x n hf h85 (tO x n t r h))
 ·refine(tD rb sb W t s w s true (fun w2 h=>bT rb sb w2 s [60] false h (.inr fun hp=>h60 ((pre1 60 s).1 hp))) lo tb (fun w2 hb h2=>mC rb sb W t s w2 true ht hs lo tb hb hT hWr h2 (fun h3=>absurd h3.1 (by decide))) hW hT h85 hWr H).mono ?_
  exact fin s (zaA) (Wf.pV x n hf h85 h60)
end
