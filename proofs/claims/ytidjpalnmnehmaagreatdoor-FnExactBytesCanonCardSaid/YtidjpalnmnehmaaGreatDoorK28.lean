/- Packed. -/
import Derived.Test.YtidjpalnmnehmaaGreatDoorK27
set_option maxRecDepth 99999
set_option maxHeartbeats 40000000
set_option linter.all false
namespace Go.Proofs.YtidjpalnmnehmaaGreatDoor
open Go.ChangeShapes Go.WideShapes Go.ChangeAt Go.RowKit Go.Lib
def BpOut (o:Option Wf.V) (cur:List UInt8) (rb sb:Nat) (sk:Value) (D:Nat) (w:World) (e:Ending) (w':World):Prop :=
 ∃ cs v,e=.returned (.agg cs.toArray)/\VC w' (fun b=>w.heap.size<=b) v cs/\aA rb w w'/\((o=some v/\Br w' rb sb cur false sk D)\/(o=none/\Br w' rb sb cur true sk D))
theorem start_part (w:World) (sb D:Nat) (s:List UInt8) (SG BS NM S:ByteArray) (hS:(⟨s.toArray⟩:ByteArray)=S) (W1:World) (hW1:((w.alloc (.cells #[.string SG,.string BS,.string NM] 48)).alloc (.cells #[.int .u8 0,.string ⟨#[]⟩,.int .i64 0,.slice none 0 0] 51)).alloc (.cells #[ptr sb,.string S,.bool false,.slice none 0 0,.int .i64 D] 88)=W1) :
  W1.cell? ⟨w.heap.size,0,none⟩=some (.string SG)/\W1.cell? ⟨w.heap.size,1,none⟩=some (.string BS)/\W1.cell? ⟨w.heap.size,2,none⟩=some (.string NM)/\Zero W1 (w.heap.size+1)/\Br W1 (w.heap.size+1+1) sb s false (.slice none 0 0) D/\Below w.heap.size w W1:=by
 have hB:Below w.heap.size w W1:=by
  rw[<-hW1];exact((((zaB).alloc (zaA) _).alloc (by simp) _).alloc (by simp;omega) _)
 subst hW1;subst hS;refine⟨?_,?_,?_,⟨?_,?_,?_,?_,?_,?_,?_,?_,?_⟩,⟨?_,?_,?_,?_,?_,?_,?_,?_,?_,?_⟩,hB⟩;all_goals first|(simp[go_sem];done)|(simp[go_sem];omega)
theorem bp_cases {p:Wf.Reads} {s r2:List UInt8} {v:Wf.V} {w2:World} {ib sb D:Nat} {sk:Value} (h:(p s=some (v,r2)/\Br w2 ib sb r2 false sk D)\/(p s=none/\Br w2 ib sb r2 true sk D)) :
  (Br w2 ib sb [] false sk D/\Wf.whole p s=some v)\/(∃ R:ByteArray,Br w2 ib sb R.data.toList false sk D/\(R.toList==[])=false/\Wf.whole p s=none)\/(Br w2 ib sb r2 true sk D/\Wf.whole p s=none):=by
 rcases h with⟨h1,h2⟩|⟨h1,h2⟩
 ·by_cases hr:r2=[]
  ·subst hr
   exact .inl ⟨h2,by unfold Wf.whole;rw[h1];simp⟩
  ·refine .inr (.inl ⟨⟨r2.toArray⟩,h2,by rw[zaZ,zaJ];exact hr,?_⟩)
   unfold Wf.whole;rw[h1];dsimp only;rw[if_neg hr]
 ·exact .inr (.inr ⟨h2,by unfold Wf.whole;rw[h1]⟩)
theorem bpart (x:Wf.Sc) (n rb sb:Nat) (W:World) (k:Wf.K) (s cur:List UInt8) (sk:Value) (D:Nat) (w:World) (hW:Below W.heap.size W w) (IH:Rb x sb W n k) (hs:s.length<=600) (hd:n+D=13) (hD1:1<=D) (H:Br w rb sb cur false sk D):Calls Tryz.prog 99 #[ptr rb,kV k,tx s] w fun e w'=>BpOut (Wf.whole (Wf.getB x n k) s) cur rb sb sk D w e w':=by
 have hrb:=H.lt;have hc0:=H.c0;have hc2:=H.c2;have hc4:=H.c4;have f2:=H.f2;have hrb1:rb<w.heap.size+1:=by omega
 have hrb2:rb<w.heap.size+1+1:=by omega
 have HW:=hid hW;have HH:=hid H;have hIH:=fun(wz:World) (hb:Below W.heap.size W wz) (h:Br wz (w.heap.size+1+1) sb s false (.slice none 0 0) D)=>IH (w.heap.size+1+1) s D wz (by have:=hW.size;omega) hd hD1 hb h hs;obtain⟨SG,hSG⟩:∃ SG:ByteArray,(⟨k.signs.toArray⟩:ByteArray)=SG:=⟨_,rfl⟩;obtain⟨BS,hBS⟩:∃ BS:ByteArray,(⟨k.base.toArray⟩:ByteArray)=BS:=⟨_,rfl⟩;obtain⟨NM,hNM⟩:∃ NM:ByteArray,(⟨k.name.toArray⟩:ByteArray)=NM:=⟨_,rfl⟩;have hkv:kV k=.agg #[.string SG,.string BS,.string NM]:=by simp only[kV,tx,hSG,hBS,hNM]
 obtain⟨S,hS⟩:∃ S:ByteArray,(⟨s.toArray⟩:ByteArray)=S:=⟨_,rfl⟩;rw[hkv] at hIH ⊢;rw[tx,hS];have HIH:=hid hIH;have ST:=hid fun W1 h=>start_part w sb D s SG BS NM S hS W1 h;clear H hkv hSG hBS hNM hIH IH hW hS;go_enter Tryz.func99,Tryz.ntmps99;go_wp2_with fail
 go_region
 go_wp2_with (go_at_call 57;obtain⟨k0,k1,k2,z0,s0,b0⟩:=ST.out _ rfl;refine(HIH.out _ (HW.out.trans (b0.drew.mono HW.out.size)) (s0.drewN 1)).mono ?_;rintro e w2 ⟨cs,v,r2,rfl,hvc,hb2,hrl,ho⟩;obtain⟨u0,u1,u2,u3,T4,a4,rfl⟩:=hvc.aY;have HVC:=hid hvc;have B2:=hid (((aA.aF (rb:=rb) b0 (zaA)).drew).on hb2 (by omega));have BI:=hid hb2;have Z2:=hid ((z0.below (zaB).drew z0.lt).step hb2 (by omega));have HO2:=hid ((HH.out.below b0.drew).beside hb2 (by omega));have hsz2:w.heap.size+1+1<w2.heap.size:=zaC s0.lt hb2.size;have hw12:=(show w.heap.size+1+1<w2.heap.size from hsz2);have o2:=HO2.out.c2;have of2:=HO2.out.f2;have ol:=HO2.out.lt;obtain⟨zl,zr0,zr1,zr2,zr3,zf0,zf1,zf2,zf3⟩:=Z2.out;clear hvc hb2 b0 z0 s0 k0 k1 k2;rcases bp_cases ho with⟨si,hwh⟩|⟨R2,si,hx,hwh⟩|⟨si,hwh⟩ <;> (have i1:=si.c1;have i2:=si.c2;have il:=si.lt;have HWH:=hid hwh;(try rw[tx,Array.toArray_toList] at i1);clear si hwh ho))
 all_goals
  have hR:∀ wx W4 bb,aA rb w2 wx->Br wx rb sb cur bb sk D->aA (w.heap.size+1) wx W4->((Wf.whole (Wf.getB x n k) s=some v/\bb=false)\/(Wf.whole (Wf.getB x n k) s=none/\bb=true))->BpOut (Wf.whole (Wf.getB x n k) s) cur rb sb sk D w (.returned (.agg #[.int .u8 u0,.string T4,.int .i64 u1,.slice a4 u2 u3])) W4:=fun wx W4 bb hx hbr hb ho=>by
   refine⟨[.int .u8 u0,.string T4,.int .i64 u1,.slice a4 u2 u3],v,rfl,VC.keep (fun b hp hlt=>?_) (zaI hx.size hb.size) _ _ HVC.out,(B2.out.trans hx).on hb (by omega),?_⟩
   ·have h3:w.heap.size+1+1+1<=b:=by simpa using hp
    exact⟨by omega,(hb.block b (zaC hlt hx.size) (by omega)).trans (hx.block b hlt (by omega))⟩
   ·have h4:=hbr.beside hb (by omega)
    rcases ho with⟨h1,rfl⟩|⟨h1,rfl⟩
    ·exact .inl ⟨h1,h4⟩
    ·exact .inr ⟨h1,h4⟩
 ·exact zbD (v:=.agg #[.int .u8 u0,.string T4,.int .i64 u1,.slice a4 u2 u3]) (by simp[results,Tryz.results99,go_sem, *]) rfl (hR w2 _ false (aA.refl _ _) HO2.out (by
   repeat (first|with_reducible exact aA.refl _ _|with_reducible refine aA.drew ?_|with_reducible refine aA.alloc ?_ _|with_reducible refine aA.trans ?_ (aA.set _ _ _ _))) (.inl ⟨HWH.out,rfl⟩))
 all_goals exact zbD (v:=.agg #[.int .u8 u0,.string T4,.int .i64 u1,.slice a4 u2 u3]) (by simp[results,Tryz.results99,go_sem, *]) rfl (hR (w2.setCell ⟨rb,2,none⟩ (.bool true)) _ true (aA.set rb w2 2 _) HO2.out.fail (by
   repeat (first|with_reducible exact aA.refl _ _|with_reducible refine aA.drew ?_|with_reducible refine aA.alloc ?_ _|with_reducible refine aA.trans ?_ (aA.set _ _ _ _))) (.inr ⟨HWH.out,rfl⟩))

theorem getB_uni {x:Wf.Sc} {nm:List UInt8} {t:Wf.Ty} (hf:x.find nm=some t) (h:t.sort=85) (n:Nat) (s:List UInt8):Wf.getB x (n+1) (.ref nm) s=match Wf.getN s with
  | none=>none
  | some (tag,rest)=>match t.field tag with
   | none=>none
   | some f=>match Wf.takeN rest with
    | none=>none
    | some (part,more)=>(Wf.whole (Wf.getB x n f.kind) part).map fun v=>(.mk 85 [] tag [v],more):=by
 simp only[Wf.getB,hf,Wf.bF];rw[if_neg (by rw[h];decide),if_pos h];cases Wf.getN s with
 | none=>rfl
 | some y =>
  dsimp only;cases t.field y.1 with
  | none=>rfl
  | some f =>
   dsimp only;cases Wf.takeN y.2 <;> rfl
theorem bval_uni_nof (x:Wf.Sc) (n rb sb:Nat) (W:World) (nm:List UInt8) (s:List UInt8) (sk:Value) (d:Nat) (w:World) (lo mb tb:Nat) (t:Wf.Ty) (hf:x.find nm=some t) (ht:t.fields.length<=1000) (hW:Below W.heap.size W w) (hWr:W.heap.size<=rb) (hsb:sb<W.heap.size) (c1:W.cell? ⟨sb,1,none⟩=some (.map (some mb))) (look:∀ wz,Below W.heap.size W wz->(Instr.lookup 114 (.map (some mb)) (.string ⟨nm.toArray⟩) false).run Tryz.prog wz=.ok (ptr tb) wz) (hT:TyL W lo tb t) (hq:t.sort=85) (hd:d<=12)
  (r1:List UInt8) (m:Nat) (b1:Bool) (hN:∀ wz,Br wz rb sb s false sk (d+1)->Calls Tryz.prog 45 #[ptr rb] wz fun e w'=>e=.returned (.int .i64 m)/\Br w' rb sb r1 b1 sk (d+1)/\aA rb wz w')
  (m2:Nat) (r2:List UInt8) (b2:Bool) (tt r:List UInt8) (b:Bool) (hN2:∀ wz,Br wz rb sb r1 b1 sk (d+1)->Calls Tryz.prog 45 #[ptr rb] wz fun e w'=>e=.returned (.int .i64 m2)/\Br w' rb sb r2 b2 sk (d+1)/\aA rb wz w')
  (hT2:∀ wz,Br wz rb sb r2 b2 sk (d+1)->Calls Tryz.prog 46 #[ptr rb,.int .i64 m2] wz fun e w'=>e=.returned (tx tt)/\Br w' rb sb r b sk (d+1)/\aA rb wz w') (hrl:r.length<=s.length)
  (hfi:t.field m=none) (hO:Wf.getB x (n+1) (.ref nm) s=none) (H:Br w rb sb s false sk d):Calls Tryz.prog 57 #[ptr rb,kV (.ref nm)] w fun e w'=>BvOut (Wf.getB x (n+1) (.ref nm) s) s rb sb sk d w e w':=by
 have hrb:=H.lt;have hc0:=H.c0;have hc2:=H.c2;have hc4:=H.c4;have f2:=H.f2;have f4:=H.f4;have hrb1:rb<w.heap.size+1:=by omega
 have hrb2:rb<w.heap.size+1+1:=by omega
 have HW:=hid hW;have HLK:=hid look;have HC1:=hid c1;obtain⟨htb,hsc⟩:=hT.sort;rw[hq] at hsc;have HSC:=hid hsc;have HSG:=hid fun w2=>sign (.ref nm) w2;obtain⟨NM,hNM⟩:∃ NM:ByteArray,(⟨nm.toArray⟩:ByteArray)=NM:=⟨_,rfl⟩;have hkv:kV (.ref nm)=.agg #[.string ⟨#[]⟩,.string ⟨#[64]⟩,.string NM]:=by rw[<-hNM];rfl
 rw[hkv] at HSG ⊢;rw[hNM] at HLK;have hsn:bX (.ref nm)=0:=rfl;rw[hsn] at HSG;have ST:=hid fun W1 h=>start_bval H ⟨#[]⟩ ⟨#[64]⟩ NM W1 h;have hmf:∀ (fn:Fn) (first cap:Array Value) (w:World),(Instr.makeFunc fn first cap).run Tryz.prog w=.ok (.func fn first cap) w:=fun _ _ _ _=>rfl;have kd:IntKind.i64.wrap ((d:Int)+1)=(d:Int)+1:=zbI _ (by omega);have hsw:sb<w.heap.size:=zaC hsb hW.size;have htw:tb<w.heap.size:=zaC htb hW.size;have HN:=hid hN;have HN2:=hid hN2;obtain⟨TT,hTT⟩:∃ TT:ByteArray,(⟨tt.toArray⟩:ByteArray)=TT:=⟨_,rfl⟩;have HTT:=hid hTT;have HT2:=hid hT2;simp only[tx,hTT] at HT2;have HRL:=hid hrl;have HO:=hid hO;have HFD2:=hid fun(w2:World) (hb:Below W.heap.size W w2)=>(field t ht m lo tb W w2 hb hT).mono (R:=fun e w'=>aS W t m e/\w2=w') (R':=fun e w'=>e=.returned (.pointer none)/\w2=w') fun e w' h=>⟨aS.no (W:=W) (t:=t) (g:=m) (e:=e) h.1 (by rw[cJ];exact hfi),h.2⟩;clear H hN hN2 hT2 hrl hkv hsn hNM hf hT look c1 hfi hW hsc hO hTT;go_enter_defers Tryz.func57,Tryz.ntmps57
 go_wp2_with (go_at_call 95;obtain⟨e0,s0⟩:=ST.out _ rfl;refine(HSG.out _).mono ?_;rintro e w1 ⟨rfl,hb1⟩;have S1:=hid (s0.below hb1);have E1:=hid (e0.step hrb (aA.aF hb1 (zaA)));have q1:=E1.out.q;have k1:=E1.out.k1;have k2:=E1.out.k2;have zl1:=E1.out.z.lt;have BW1:=hid (aA.below HW.out HW.out.size hWr E1.out.fr);have s10:=S1.out.c0;have m1:=(BW1.out.cell (p:=⟨sb,1,none⟩) hsb).trans HC1.out;have t1:=(BW1.out.cell (p:=⟨tb,0,none⟩) htb).trans HSC.out;have hs1:=S1.out.lt;have hsb1:=zaC hsw E1.out.fr.size;have htb1:=zaC htw E1.out.fr.size;have hz1:w.heap.size<w1.heap.size:=(by omega);have hz2:w.heap.size+1<w1.heap.size:=(by omega);have l0:=HLK.out w1 BW1.out;have l1:=HLK.out w1.drew BW1.out.drew;clear hb1 e0 s0)
 go_region_held3 (fun w'=>w'.cell? ⟨w.heap.size,0,none⟩=some (ptr rb)/\w'.cell? ⟨rb,0,none⟩=some (ptr sb)/\w'.cell? ⟨sb,1,none⟩=some (.map (some mb))/\w'.cell? ⟨w.heap.size+1,2,none⟩=some (.string NM)/\(Instr.lookup 114 (.map (some mb)) (.string NM) false).run Tryz.prog w'=.ok (ptr tb) w') (go_keep) (fail)
 go_wp2_with (go_at_call 45;refine(HN.out _ (by first|exact S1.out.drewN 1|exact S1.out)).mono ?_;rintro e w2 ⟨rfl,hs2,hb2⟩;have S2:=hid hs2;have E2:=hid (E1.out.step hrb ((aA.drewN (aA.refl rb w1) 1).trans hb2));have q2:=E2.out.q;have hz22:w.heap.size<w2.heap.size:=(by have:=E2.out.z.lt;omega);clear hs2 hb2)
 go_region_held3 (fun w'=>w'.cell? ⟨w.heap.size,0,none⟩=some (ptr rb)) (first|exact E4.out.q|exact E3.out.q|go_keep) (first|(go_at_call 46;have _u:=S3;refine(HT2.out _ S3.out).mono ?_;rintro e w4 ⟨rfl,hs4,hb4⟩;have S4:=hid hs4;have E4:=hid (E3.out.step hrb hb4);clear hs4 hb4)|(go_at_call 45;refine(HN2.out _ (by first|exact S2.out.drewN 1|exact S2.out)).mono ?_;rintro e w3 ⟨rfl,hs3,hb3⟩;have S3:=hid hs3;have E3:=hid (E2.out.step hrb ((aA.drewN (aA.refl rb w2) 1).trans hb3));clear hs3 hb3))
 have q4:=E4.out.q;have hz4:w.heap.size<w4.heap.size:=by have:=E4.out.z.lt;omega
 have c24:=S4.out.c2;have f24:=S4.out.f2;have l24:=S4.out.lt;have hne:¬ rb=w.heap.size+1+1:=by omega
 have BW4:=hid (aA.below HW.out HW.out.size hWr E4.out.fr);obtain⟨zl,zr0,zr1,zr2,zr3,zf0,zf1,zf2,zf3⟩:=E4.out.z;go_wp2_with (go_at_call 40;refine(HFD2.out _ (by first|exact BW4.out.drew|exact BW4.out)).mono ?_;rintro e w5 ⟨rfl,rfl⟩)
 all_goals refine bdoor_out (E4.out.step hrb (aA.set rb w4 2 (.bool true))) S4.out.fail hrb hd rfl ?_ (x0:=.int .u8 0) (x1:=.string ⟨#[]⟩) (x2:=.int .i64 0) (x3:=.slice none 0 0) (by simp[go_sem, *]) (by simp[go_sem, *]) (by simp[go_sem, *]) (by simp[go_sem, *]) (v:=.mk 0 [] 0 []) (VC.leaf 0 [] 0 (by omega) (by decide)) HRL.out (.inr ⟨HO.out,rfl⟩)
 all_goals repeat (first|with_reducible exact aA.refl _ _|with_reducible refine aA.drew ?_|with_reducible refine aA.alloc ?_ _|with_reducible refine aA.trans ?_ (aA.set _ _ _ _))
theorem bval_uni_bad (x:Wf.Sc) (n rb sb:Nat) (W:World) (nm:List UInt8) (s:List UInt8) (sk:Value) (d:Nat) (w:World) (lo mb tb:Nat) (t:Wf.Ty) (hf:x.find nm=some t) (ht:t.fields.length<=1000) (hW:Below W.heap.size W w) (hWr:W.heap.size<=rb) (hsb:sb<W.heap.size) (c1:W.cell? ⟨sb,1,none⟩=some (.map (some mb))) (look:∀ wz,Below W.heap.size W wz->(Instr.lookup 114 (.map (some mb)) (.string ⟨nm.toArray⟩) false).run Tryz.prog wz=.ok (ptr tb) wz) (hT:TyL W lo tb t) (hq:t.sort=85) (hd:d<=12)
  (r1:List UInt8) (m:Nat) (b1:Bool) (hN:∀ wz,Br wz rb sb s false sk (d+1)->Calls Tryz.prog 45 #[ptr rb] wz fun e w'=>e=.returned (.int .i64 m)/\Br w' rb sb r1 b1 sk (d+1)/\aA rb wz w')
  (m2:Nat) (r2:List UInt8) (b2:Bool) (tt r:List UInt8) (b:Bool) (hN2:∀ wz,Br wz rb sb r1 b1 sk (d+1)->Calls Tryz.prog 45 #[ptr rb] wz fun e w'=>e=.returned (.int .i64 m2)/\Br w' rb sb r2 b2 sk (d+1)/\aA rb wz w')
  (hT2:∀ wz,Br wz rb sb r2 b2 sk (d+1)->Calls Tryz.prog 46 #[ptr rb,.int .i64 m2] wz fun e w'=>e=.returned (tx tt)/\Br w' rb sb r b sk (d+1)/\aA rb wz w') (hrl:r.length<=s.length)
  (f:Wf.Fd) (hfi:t.field m=some f) (hbt:b=true) (hO:Wf.getB x (n+1) (.ref nm) s=none) (H:Br w rb sb s false sk d):Calls Tryz.prog 57 #[ptr rb,kV (.ref nm)] w fun e w'=>BvOut (Wf.getB x (n+1) (.ref nm) s) s rb sb sk d w e w':=by
 subst hbt;have hrb:=H.lt;have hc0:=H.c0;have hc2:=H.c2;have hc4:=H.c4;have f2:=H.f2;have f4:=H.f4;have hrb1:rb<w.heap.size+1:=by omega
 have hrb2:rb<w.heap.size+1+1:=by omega
 have HW:=hid hW;have HLK:=hid look;have HC1:=hid c1;obtain⟨htb,hsc⟩:=hT.sort;rw[hq] at hsc;have HSC:=hid hsc;have HSG:=hid fun w2=>sign (.ref nm) w2;obtain⟨NM,hNM⟩:∃ NM:ByteArray,(⟨nm.toArray⟩:ByteArray)=NM:=⟨_,rfl⟩;have hkv:kV (.ref nm)=.agg #[.string ⟨#[]⟩,.string ⟨#[64]⟩,.string NM]:=by rw[<-hNM];rfl
 rw[hkv] at HSG ⊢;rw[hNM] at HLK;have hsn:bX (.ref nm)=0:=rfl;rw[hsn] at HSG;have ST:=hid fun W1 h=>start_bval H ⟨#[]⟩ ⟨#[64]⟩ NM W1 h;have hmf:∀ (fn:Fn) (first cap:Array Value) (w:World),(Instr.makeFunc fn first cap).run Tryz.prog w=.ok (.func fn first cap) w:=fun _ _ _ _=>rfl;have kd:IntKind.i64.wrap ((d:Int)+1)=(d:Int)+1:=zbI _ (by omega);have hsw:sb<w.heap.size:=zaC hsb hW.size;have htw:tb<w.heap.size:=zaC htb hW.size;have HN:=hid hN;have HN2:=hid hN2;obtain⟨TT,hTT⟩:∃ TT:ByteArray,(⟨tt.toArray⟩:ByteArray)=TT:=⟨_,rfl⟩;have HTT:=hid hTT;have HT2:=hid hT2;simp only[tx,hTT] at HT2;have HRL:=hid hrl;have HO:=hid hO;have HFD2:=hid fun(w2:World) (hb:Below W.heap.size W w2)=>(field t ht m lo tb W w2 hb hT).mono (R:=fun e w'=>aS W t m e/\w2=w') (R':=fun e w'=>(∃ fb o,e=.returned (.pointer (some ⟨fb,o,none⟩)))/\w2=w') fun e w' h=>⟨let ⟨fb,o,he,_⟩:=aS.yes (W:=W) (t:=t) (g:=m) (e:=e) (f:=f) h.1 (by rw[cJ];exact hfi);⟨fb,o,he⟩,h.2⟩;clear H hN hN2 hT2 hrl hkv hsn hNM hf hT look c1 hfi hW hsc hO hTT;go_enter_defers Tryz.func57,Tryz.ntmps57
 go_wp2_with (go_at_call 95;obtain⟨e0,s0⟩:=ST.out _ rfl;refine(HSG.out _).mono ?_;rintro e w1 ⟨rfl,hb1⟩;have S1:=hid (s0.below hb1);have E1:=hid (e0.step hrb (aA.aF hb1 (zaA)));have q1:=E1.out.q;have k1:=E1.out.k1;have k2:=E1.out.k2;have zl1:=E1.out.z.lt;have BW1:=hid (aA.below HW.out HW.out.size hWr E1.out.fr);have s10:=S1.out.c0;have m1:=(BW1.out.cell (p:=⟨sb,1,none⟩) hsb).trans HC1.out;have t1:=(BW1.out.cell (p:=⟨tb,0,none⟩) htb).trans HSC.out;have hs1:=S1.out.lt;have hsb1:=zaC hsw E1.out.fr.size;have htb1:=zaC htw E1.out.fr.size;have hz1:w.heap.size<w1.heap.size:=(by omega);have hz2:w.heap.size+1<w1.heap.size:=(by omega);have l0:=HLK.out w1 BW1.out;have l1:=HLK.out w1.drew BW1.out.drew;clear hb1 e0 s0)
 go_region_held3 (fun w'=>w'.cell? ⟨w.heap.size,0,none⟩=some (ptr rb)/\w'.cell? ⟨rb,0,none⟩=some (ptr sb)/\w'.cell? ⟨sb,1,none⟩=some (.map (some mb))/\w'.cell? ⟨w.heap.size+1,2,none⟩=some (.string NM)/\(Instr.lookup 114 (.map (some mb)) (.string NM) false).run Tryz.prog w'=.ok (ptr tb) w') (go_keep) (fail)
 go_wp2_with (go_at_call 45;refine(HN.out _ (by first|exact S1.out.drewN 1|exact S1.out)).mono ?_;rintro e w2 ⟨rfl,hs2,hb2⟩;have S2:=hid hs2;have E2:=hid (E1.out.step hrb ((aA.drewN (aA.refl rb w1) 1).trans hb2));have q2:=E2.out.q;have hz22:w.heap.size<w2.heap.size:=(by have:=E2.out.z.lt;omega);clear hs2 hb2)
 go_region_held3 (fun w'=>w'.cell? ⟨w.heap.size,0,none⟩=some (ptr rb)) (first|exact E4.out.q|exact E3.out.q|go_keep) (first|(go_at_call 46;have _u:=S3;refine(HT2.out _ S3.out).mono ?_;rintro e w4 ⟨rfl,hs4,hb4⟩;have S4:=hid hs4;have E4:=hid (E3.out.step hrb hb4);clear hs4 hb4)|(go_at_call 45;refine(HN2.out _ (by first|exact S2.out.drewN 1|exact S2.out)).mono ?_;rintro e w3 ⟨rfl,hs3,hb3⟩;have S3:=hid hs3;have E3:=hid (E2.out.step hrb ((aA.drewN (aA.refl rb w2) 1).trans hb3));clear hs3 hb3))
 have q4:=E4.out.q;have hz4:w.heap.size<w4.heap.size:=by have:=E4.out.z.lt;omega
 have c24:=S4.out.c2;have f24:=S4.out.f2;have l24:=S4.out.lt;have hne:¬ rb=w.heap.size+1+1:=by omega
 have BW4:=hid (aA.below HW.out HW.out.size hWr E4.out.fr);obtain⟨zl,zr0,zr1,zr2,zr3,zf0,zf1,zf2,zf3⟩:=E4.out.z;go_wp2_with (go_at_call 40;refine(HFD2.out _ (by first|exact BW4.out.drew|exact BW4.out)).mono ?_;rintro e w5 ⟨⟨fb,o,rfl⟩,rfl⟩)
 all_goals refine bdoor_out (E4.out.step hrb (aA.set rb w4 2 (.bool true))) S4.out.fail hrb hd rfl ?_ (x0:=.int .u8 0) (x1:=.string ⟨#[]⟩) (x2:=.int .i64 0) (x3:=.slice none 0 0) (by simp[go_sem, *]) (by simp[go_sem, *]) (by simp[go_sem, *]) (by simp[go_sem, *]) (v:=.mk 0 [] 0 []) (VC.leaf 0 [] 0 (by omega) (by decide)) HRL.out (.inr ⟨HO.out,rfl⟩)
 all_goals repeat (first|with_reducible exact aA.refl _ _|with_reducible refine aA.drew ?_|with_reducible refine aA.alloc ?_ _|with_reducible refine aA.trans ?_ (aA.set _ _ _ _))
theorem bval_uni_yes (x:Wf.Sc) (n rb sb:Nat) (W:World) (nm:List UInt8) (s:List UInt8) (sk:Value) (d:Nat) (w:World) (lo mb tb:Nat) (t:Wf.Ty) (hf:x.find nm=some t) (ht:t.fields.length<=1000) (hW:Below W.heap.size W w) (hWr:W.heap.size<=rb) (hsb:sb<W.heap.size) (c1:W.cell? ⟨sb,1,none⟩=some (.map (some mb))) (look:∀ wz,Below W.heap.size W wz->(Instr.lookup 114 (.map (some mb)) (.string ⟨nm.toArray⟩) false).run Tryz.prog wz=.ok (ptr tb) wz) (hT:TyL W lo tb t) (hq:t.sort=85) (hd:n+1+d=13)
  (r1:List UInt8) (m:Nat) (b1:Bool) (hN:∀ wz,Br wz rb sb s false sk (d+1)->Calls Tryz.prog 45 #[ptr rb] wz fun e w'=>e=.returned (.int .i64 m)/\Br w' rb sb r1 b1 sk (d+1)/\aA rb wz w')
  (m2:Nat) (r2:List UInt8) (b2:Bool) (tt r:List UInt8) (b:Bool) (hN2:∀ wz,Br wz rb sb r1 b1 sk (d+1)->Calls Tryz.prog 45 #[ptr rb] wz fun e w'=>e=.returned (.int .i64 m2)/\Br w' rb sb r2 b2 sk (d+1)/\aA rb wz w')
  (hT2:∀ wz,Br wz rb sb r2 b2 sk (d+1)->Calls Tryz.prog 46 #[ptr rb,.int .i64 m2] wz fun e w'=>e=.returned (tx tt)/\Br w' rb sb r b sk (d+1)/\aA rb wz w') (hrl:r.length<=s.length)
  (f:Wf.Fd) (hfi:t.field m=some f) (hm:m<=999999) (hbt:b=false) (htl:tt.length<=600) (IH:Rb x sb W n f.kind) (hO:Wf.getB x (n+1) (.ref nm) s=(Wf.whole (Wf.getB x n f.kind) tt).map fun v=>(.mk 85 [] m [v],r)) (H:Br w rb sb s false sk d):Calls Tryz.prog 57 #[ptr rb,kV (.ref nm)] w fun e w'=>BvOut (Wf.getB x (n+1) (.ref nm) s) s rb sb sk d w e w':=by
 subst hbt;have hrb:=H.lt;have hc0:=H.c0;have hc2:=H.c2;have hc4:=H.c4;have f2:=H.f2;have f4:=H.f4;have hrb1:rb<w.heap.size+1:=by omega
 have hrb2:rb<w.heap.size+1+1:=by omega
 have HW:=hid hW;have HLK:=hid look;have HC1:=hid c1;obtain⟨htb,hsc⟩:=hT.sort;rw[hq] at hsc;have HSC:=hid hsc;have HSG:=hid fun w2=>sign (.ref nm) w2;obtain⟨NM,hNM⟩:∃ NM:ByteArray,(⟨nm.toArray⟩:ByteArray)=NM:=⟨_,rfl⟩;have hkv:kV (.ref nm)=.agg #[.string ⟨#[]⟩,.string ⟨#[64]⟩,.string NM]:=by rw[<-hNM];rfl
 rw[hkv] at HSG ⊢;rw[hNM] at HLK;have hsn:bX (.ref nm)=0:=rfl;rw[hsn] at HSG;have ST:=hid fun W1 h=>start_bval H ⟨#[]⟩ ⟨#[64]⟩ NM W1 h;have hmf:∀ (fn:Fn) (first cap:Array Value) (w:World),(Instr.makeFunc fn first cap).run Tryz.prog w=.ok (.func fn first cap) w:=fun _ _ _ _=>rfl;have kd:IntKind.i64.wrap ((d:Int)+1)=(d:Int)+1:=zbI _ (by omega);have hsw:sb<w.heap.size:=zaC hsb hW.size;have htw:tb<w.heap.size:=zaC htb hW.size;have HN:=hid hN;have HN2:=hid hN2;obtain⟨TT,hTT⟩:∃ TT:ByteArray,(⟨tt.toArray⟩:ByteArray)=TT:=⟨_,rfl⟩;have HTT:=hid hTT;have HT2:=hid hT2;simp only[tx,hTT] at HT2;have HRL:=hid hrl;have HO:=hid hO;have hd12:d<=12:=by omega
 have h69:t.sort≠69:=by rw[hq];decide
 have HFD2:=hid fun(w2:World) (hb:Below W.heap.size W w2)=>(field t ht m lo tb W w2 hb hT).mono (R:=fun e w'=>aS W t m e/\w2=w') (R':=fun e w'=>(∃ fb o,e=.returned (.pointer (some ⟨fb,o,none⟩))/\FdAt W fb o t.sort f)/\w2=w') fun e w' h=>⟨aS.yes (W:=W) (t:=t) (g:=m) (e:=e) (f:=f) h.1 (by rw[cJ];exact hfi),h.2⟩;have FC:=hid (show fdC t.sort f=[.int .i64 f.tag,tx f.name,tx f.kind.signs,tx f.kind.base,tx f.kind.name,tx f.given] by unfold fdC;rw[if_neg h69]);obtain⟨SG,hSG⟩:∃ SG:ByteArray,(⟨f.kind.signs.toArray⟩:ByteArray)=SG:=⟨_,rfl⟩;obtain⟨BS,hBS⟩:∃ BS:ByteArray,(⟨f.kind.base.toArray⟩:ByteArray)=BS:=⟨_,rfl⟩;obtain⟨KN,hKN⟩:∃ KN:ByteArray,(⟨f.kind.name.toArray⟩:ByteArray)=KN:=⟨_,rfl⟩;have hkf:kV f.kind=.agg #[.string SG,.string BS,.string KN]:=by simp only[kV,tx,hSG,hBS,hKN]
 have hBP:=fun(wz:World) (hb:Below W.heap.size W wz) (h:Br wz rb sb r false sk (d+1))=>bpart x n rb sb W f.kind tt r sk (d+1) wz hb IH htl (by omega) (by omega) h;rw[hkf] at hBP;simp only[tx,hTT] at hBP;have HBP:=hid hBP;simp only[tx,hSG,hBS,hKN] at FC;clear H hN hN2 hT2 hrl hkv hsn hNM hf hT look c1 hfi hW hsc hO hTT hSG hBS hKN hkf hBP h69 IH;go_enter_defers Tryz.func57,Tryz.ntmps57
 go_wp2_with (go_at_call 95;obtain⟨e0,s0⟩:=ST.out _ rfl;refine(HSG.out _).mono ?_;rintro e w1 ⟨rfl,hb1⟩;have S1:=hid (s0.below hb1);have E1:=hid (e0.step hrb (aA.aF hb1 (zaA)));have q1:=E1.out.q;have k1:=E1.out.k1;have k2:=E1.out.k2;have zl1:=E1.out.z.lt;have BW1:=hid (aA.below HW.out HW.out.size hWr E1.out.fr);have s10:=S1.out.c0;have m1:=(BW1.out.cell (p:=⟨sb,1,none⟩) hsb).trans HC1.out;have t1:=(BW1.out.cell (p:=⟨tb,0,none⟩) htb).trans HSC.out;have hs1:=S1.out.lt;have hsb1:=zaC hsw E1.out.fr.size;have htb1:=zaC htw E1.out.fr.size;have hz1:w.heap.size<w1.heap.size:=(by omega);have hz2:w.heap.size+1<w1.heap.size:=(by omega);have l0:=HLK.out w1 BW1.out;have l1:=HLK.out w1.drew BW1.out.drew;clear hb1 e0 s0)
 go_region_held3 (fun w'=>w'.cell? ⟨w.heap.size,0,none⟩=some (ptr rb)/\w'.cell? ⟨rb,0,none⟩=some (ptr sb)/\w'.cell? ⟨sb,1,none⟩=some (.map (some mb))/\w'.cell? ⟨w.heap.size+1,2,none⟩=some (.string NM)/\(Instr.lookup 114 (.map (some mb)) (.string NM) false).run Tryz.prog w'=.ok (ptr tb) w') (go_keep) (fail)
 go_wp2_with (go_at_call 45;refine(HN.out _ (by first|exact S1.out.drewN 1|exact S1.out)).mono ?_;rintro e w2 ⟨rfl,hs2,hb2⟩;have S2:=hid hs2;have E2:=hid (E1.out.step hrb ((aA.drewN (aA.refl rb w1) 1).trans hb2));have q2:=E2.out.q;have hz22:w.heap.size<w2.heap.size:=(by have:=E2.out.z.lt;omega);clear hs2 hb2)
 go_region_held3 (fun w'=>w'.cell? ⟨w.heap.size,0,none⟩=some (ptr rb)) (first|exact E4.out.q|exact E3.out.q|go_keep) (first|(go_at_call 46;have _u:=S3;refine(HT2.out _ S3.out).mono ?_;rintro e w4 ⟨rfl,hs4,hb4⟩;have S4:=hid hs4;have E4:=hid (E3.out.step hrb hb4);clear hs4 hb4)|(go_at_call 45;refine(HN2.out _ (by first|exact S2.out.drewN 1|exact S2.out)).mono ?_;rintro e w3 ⟨rfl,hs3,hb3⟩;have S3:=hid hs3;have E3:=hid (E2.out.step hrb ((aA.drewN (aA.refl rb w2) 1).trans hb3));clear hs3 hb3))
 have q4:=E4.out.q;have hz4:w.heap.size<w4.heap.size:=by have:=E4.out.z.lt;omega
 have c24:=S4.out.c2;have f24:=S4.out.f2;have l24:=S4.out.lt;have hne:¬ rb=w.heap.size+1+1:=by omega
 have BW4:=hid (aA.below HW.out HW.out.size hWr E4.out.fr);obtain⟨zl,zr0,zr1,zr2,zr3,zf0,zf1,zf2,zf3⟩:=E4.out.z;go_wp2_with (go_at_call 40;refine(HFD2.out _ (by first|exact BW4.out.drew|exact BW4.out)).mono ?_;rintro e w5 ⟨⟨fb,o,rfl,hfd⟩,rfl⟩;rw[FdAt,FC.out] at hfd;have g2:=(BW4.out.cell (p:=⟨fb,o+2,none⟩) hfd.1).trans (hfd.2 2 _ rfl);have g3:=(BW4.out.cell (p:=⟨fb,o+3,none⟩) hfd.1).trans (hfd.2 3 _ rfl);have g4:=(BW4.out.cell (p:=⟨fb,o+4,none⟩) hfd.1).trans (hfd.2 4 _ rfl);have gl:=zaC hfd.1 BW4.out.size;clear hfd)
 refine wp_region_noPanic ?_;go_region_law ((try go_simp);go_at_call 99;refine(HBP.out _ (by first|exact BW4.out.drew|exact BW4.out) (by first|exact S4.out.drewN 1|exact S4.out)).mono ?_;rintro e w6 ⟨cs,v,rfl,hvc,hb6,ho⟩;obtain⟨u0,u1,u2,u3,T4,a4,rfl⟩:=hvc.aY;have HVC:=hid hvc;have HP:=hid ho;have E6:=hid (E4.out.step hrb ((aA.drewN (aA.refl rb w4) 1).trans hb6));have Q6:=hid hb6;obtain⟨yl,yr0,yr1,yr2,yr3,yf0,yf1,yf2,yf3⟩:=E6.out.z;clear hvc ho hb6)
 all_goals refine NoPanic.normal ?_
 all_goals go_wp2_with fail
 all_goals
  obtain⟨b6,S6,hob⟩:∃ b6,Br w6 rb sb r b6 sk (d+1)/\((Wf.whole (Wf.getB x n f.kind) tt=some v/\b6=false)\/(Wf.whole (Wf.getB x n f.kind) tt=none/\b6=true)):=by
   rcases HP.out with⟨h1,h2⟩|⟨h1,h2⟩
   ·exact⟨false,h2,.inl ⟨h1,rfl⟩⟩
   ·exact⟨true,h2,.inr ⟨h1,rfl⟩⟩
  have hR:∀ W5,aA (w.heap.size+1+1) w6 W5->w6.heap.size<W5.heap.size->(∀ j u,[Value.int .u8 u0,Value.string T4,Value.int .i64 u1,Value.slice a4 u2 u3][j]? = some u->W5.cell? ⟨w6.heap.size,0+j,none⟩=some u)->VC W5 (fun b=>w.heap.size<=b) (.mk 85 [] m [v]) [.int .u8 85,.string ⟨#[]⟩,.int .i64 m,.slice (some ⟨w6.heap.size,0,none⟩) 1 1]:=fun W5 hb hl hc=>by
   have h1:=E4.out.fr.size;have h2:=E4.out.z.lt;exact VC.one (VC.keep (P:=fun b=>w4.heap.size<=b) (fun b hp hlt=>⟨by have:w4.heap.size<=b:=hp;omega,hb.block b hlt (by have:w4.heap.size<=b:=hp;omega)⟩) hb.size _ _ HVC.out) (by have:w4.heap.size<=w6.heap.size:=Q6.out.size;omega) hl hc 85 [] m ⟨hm,fun _=>.inr (.inr (.inr (.inr rfl))),fun h=>absurd h (by decide)⟩
  refine bdoor_out E6.out S6 hrb hd12 rfl ?_ (x0:=.int .u8 85) (x1:=.string ⟨#[]⟩) (x2:=.int .i64 m) (x3:=.slice (some ⟨w6.heap.size,0,none⟩) 1 1) (by simp[go_sem, *]) (by simp[go_sem, *]) (by simp[go_sem, *];exact zbC _ _ _ (show _=some (.int .i64 0) by simp[go_sem, *])) (by simp[go_sem, *];exact zbC _ _ _ (show _=some (.slice none 0 0) by simp[go_sem, *])) (v:=.mk 85 [] m [v]) (hR _ ?_ ?_ ?_) HRL.out ?_
  ·repeat (first|with_reducible exact aA.refl _ _|with_reducible refine aA.drew ?_|with_reducible refine aA.alloc ?_ _|with_reducible refine aA.trans ?_ (aA.set _ _ _ _))
  ·repeat (first|with_reducible exact aA.refl _ _|with_reducible refine aA.drew ?_|with_reducible refine aA.alloc ?_ _|with_reducible refine aA.trans ?_ (aA.set _ _ _ _))
  ·simp
  ·intro j u hu
   rcases j with _|_|_|_|j <;> simp at hu <;> subst hu <;> simp[go_sem]
  ·rcases hob with⟨h1,h2⟩|⟨h1,h2⟩
   ·exact .inl ⟨by rw[HO.out,h1];rfl,h2⟩
   ·exact .inr ⟨by rw[HO.out,h1];rfl,h2⟩
theorem bval_uni (x:Wf.Sc) (n rb sb:Nat) (W:World) (nm:List UInt8) (s:List UInt8) (sk:Value) (d:Nat) (w:World) (lo mb tb:Nat) (t:Wf.Ty) (hf:x.find nm=some t) (ht:t.fields.length<=1000) (hW:Below W.heap.size W w) (hWr:W.heap.size<=rb) (hsb:sb<W.heap.size) (c1:W.cell? ⟨sb,1,none⟩=some (.map (some mb))) (look:∀ wz,Below W.heap.size W wz->(Instr.lookup 114 (.map (some mb)) (.string ⟨nm.toArray⟩) false).run Tryz.prog wz=.ok (ptr tb) wz) (hT:TyL W lo tb t) (hx:Wf.jI x) (hq:t.sort=85) (hd:n+1+d=13) (hs:s.length<=600) (IH:∀ f∈t.fields,Rb x sb W n f.kind) (H:Br w rb sb s false sk d):Calls Tryz.prog 57 #[ptr rb,kV (.ref nm)] w fun e w'=>BvOut (Wf.getB x (n+1) (.ref nm) s) s rb sb sk d w e w':=by
 obtain⟨m,r1,b1,hm,hr1,hc,hN⟩:=bnum_any s (by omega);have hN':∀ wz,Br wz rb sb s false sk (d+1)->Calls Tryz.prog 45 #[ptr rb] wz fun e w'=>e=.returned (.int .i64 m)/\Br w' rb sb r1 b1 sk (d+1)/\aA rb wz w':=fun wz h=>by simpa using hN rb sb false sk (d+1) wz h
 obtain⟨m2,r2,b2,tt,r,b,hm2,hr2,htl,hrl,hc2,hN2,hT2⟩:=btk r1 (by omega) b1;have hN2':=fun wz h=>hN2 rb sb sk (d+1) wz h;have hT2':=fun wz h=>hT2 rb sb sk (d+1) wz h;have hG:=getB_uni hf hq n s;cases hfi:t.field m with
 | none =>
  refine bval_uni_nof x n rb sb W nm s sk d w lo mb tb t hf ht hW hWr hsb c1 look hT hq (by omega) r1 m b1 hN' m2 r2 b2 tt r b hN2' hT2' (by omega) hfi ?_ H;rw[hG];rcases hc with⟨_,h⟩|⟨_,h,_⟩
  ·rw[h];dsimp only;rw[hfi]
  ·rw[h]
 | some f =>
  rcases hc2 with⟨hb,hb1,htk⟩|⟨hb,hbn,_⟩
  ·refine bval_uni_yes x n rb sb W nm s sk d w lo mb tb t hf ht hW hWr hsb c1 look hT hq hd r1 m b1 hN' m2 r2 b2 tt r b hN2' hT2' (by omega) f hfi (by omega) hb (by omega) (IH f (Wf.dT hfi).1) ?_ H
   rw[hG];rcases hc with⟨_,h⟩|⟨h,_⟩
   ·rw[h];dsimp only;rw[hfi];dsimp only;rw[htk]
   ·rw[h] at hb1;cases hb1
  ·refine bval_uni_bad x n rb sb W nm s sk d w lo mb tb t hf ht hW hWr hsb c1 look hT hq (by omega) r1 m b1 hN' m2 r2 b2 tt r b hN2' hT2' (by omega) f hfi hb ?_ H
   rw[hG];rcases hc with⟨hb1,h⟩|⟨_,h,_⟩
   ·rw[h];dsimp only;rw[hfi];dsimp only
    rcases hbn with h2|h2
    ·rw[hb1] at h2;cases h2
    ·rw[h2]
   ·rw[h]

abbrev ix (g:Nat):Value:=.int .i64 (g:Int)
def lP (w:World) (b o k n i:Nat):Prop:=b<w.heap.size/\∀ j,j<n->∃ s:Int,w.cell? ⟨b,o+j,none⟩=some (.int .i64 s)/\w.frozen? ⟨b,o+j,none⟩=false/\(j<i->s=((k+j:Nat):Int))
theorem lP.step {w:World} {b o k n i:Nat} (h:lP w b o k n i) (hi:i<n):lP (w.setCell ⟨b,o+i,none⟩ (.int .i64 ((k:Int)+i))) b o k n (i+1):=by
 obtain⟨h1,h2⟩:=h;refine⟨zaC h1 (by simp),fun j hj=>?_⟩;obtain⟨s,h3,h4,h5⟩:=h2 j hj;by_cases hji:j=i
 ·subst hji
  exact⟨_,zbC w _ _ h3,by simpa using h4,fun _=>by simp⟩
 ·exact⟨s,(zbA w _ _ _ (by first|(simp;done)|(simp;omega))).trans h3,by simpa using h4,fun hlt=>h5 (by omega)⟩

theorem owns_apart {w:World} {b1 b2:Nat} {e1 e2:TypeId} {s1 s2 n1 n2:Nat} {v1 v2:Value} {xs1 xs2:List Value} (h1:w.ownsRow b1 e1 s1 v1 n1 xs1) (h2:w.ownsRow b2 e2 s2 v2 n2 xs2) (he:e1≠e2):v1.ownBlock=none\/v1.ownBlock≠v2.ownBlock:=by
 obtain⟨_,h|⟨g,cap,cur,h3,h4,h5,h6⟩⟩:=h1
 ·left;rw[h.1];rfl
 ·right
  intro hk;obtain⟨_,k|⟨g',cap',cur',k3,k4,k5,k6⟩⟩:=h2
  ·rw[h3,k.1] at hk;cases hk
  ·rw[h3,k3] at hk
   simp only[Value.ownBlock,zaE] at hk;subst hk;rw[h5] at k5;simp only[zaE,Obj.cells.injEq] at k5;exact he k5.2.1
structure Rk (w wr:World) (rb sb:Nat) (cur:List UInt8) (bad:Bool) (sk:Value) (D:Nat) (a:Option Addr) (c:Nat) (l:List Wf.V) (es:List (List Value)) (L:List Nat):Prop where
 zero:Zero wr w.heap.size
 bld:Bld w wr rb (w.heap.size+1) (w.heap.size+1+1) 82 a c l es
 br:Br wr rb sb cur bad sk D
 own:wr.ownsRow (w.heap.size+1+1) 3 1 sk L.length (L.map ix)
 sep:∀ i (h1:i<es.length) (h2:i<l.length),VC wr (fun b=>w.heap.size+1+1<=b/\some b≠(Value.slice a es.length c).ownBlock/\some b≠sk.ownBlock) l[i] es[i]
 low:D≠1->sk=.slice none 0 0
theorem Rk.step {w wr w2:World} {rb sb:Nat} {cur cur2:List UInt8} {bad bad2:Bool} {sk:Value} {D:Nat} {a:Option Addr} {c:Nat} {l:List Wf.V} {es:List (List Value)} {L:List Nat} (h:Rk w wr rb sb cur bad sk D a c l es L) (hr:rb<w.heap.size) (hb:aA rb wr w2) (hs:Br w2 rb sb cur2 bad2 sk D):Rk w w2 rb sb cur2 bad2 sk D a c l es L :=
 ⟨h.zero.step hb (by omega),h.bld.step hr hb,hs,dQ h.own hb (by omega),fun i g1 g2=>VC.keep (fun b hp hlt=>⟨hp,hb.block b hlt (by omega)⟩) hb.size _ _ (h.sep i g1 g2),h.low⟩
theorem start_brec {w:World} {rb sb:Nat} {cur:List UInt8} {D:Nat} (H:Br w rb sb cur false (.slice none 0 0) D) (W1:World) (hW1:(w.alloc (.cells #[.int .u8 0,.string ⟨#[]⟩,.int .i64 0,.slice none 0 0] 51)).alloc (.cells #[.int .u8 82,.string ⟨#[]⟩,.int .i64 0,.slice none 0 0] 51)=W1) :
  Rk w W1 rb sb cur false (.slice none 0 0) D none 0 [] [] []:=by
 obtain⟨h1,h2,h3⟩:=jG w rb 82 W1 hW1;exact⟨h1,h2,H.below h3,World.ownsRow_nil _ _ _ _,fun i g1=>by simp at g1,fun _=>rfl⟩
theorem Rk.put {w wr:World} {rb sb:Nat} {cur:List UInt8} {bad0:Bool} {sk:Value} {D:Nat} {a:Option Addr} {c:Nat} {l:List Wf.V} {es:List (List Value)} {L:List Nat} {m:Nat} (h:Rk w wr rb sb cur bad0 sk D a c l es L) (hrb:rb<w.heap.size) {w2:World} (hb:aA rb wr w2) (hm:es.length=m) {q2 g2 n2 c2:Nat} {T2:ByteArray} {a2:Option Addr} {v:Wf.V}
  (hvc:VC w2 (fun b=>wr.heap.size<=b) v [.int .u8 q2,.string T2,.int .i64 g2,.slice a2 n2 c2]) {wx w4:World} {g cap:Nat} (hx:Below w2.heap.size w2 wx)
  (hg:wx.grownBy w4 (Value.slice a m c).ownBlock)
  (ho:w4.ownsRow (w.heap.size+1+1) 51 4 (.slice (some ⟨g,0,none⟩) (m+1) cap) (m+1) (es.flatten++[.int .u8 q2,.string T2,.int .i64 g2,.slice a2 n2 c2]))
  (hat:(Value.slice a m c).ownBlock=some g\/g=wx.heap.size)
  {r2:List UInt8} {bad:Bool} (hs:Br w2 rb sb r2 bad sk D) :
  Rk w (w4.setCell ⟨w.heap.size+1,3,none⟩ (.slice (some ⟨g,0,none⟩) (m+1) cap)) rb sb r2 bad sk D (some ⟨g,0,none⟩) cap (l++[v]) (es++[[.int .u8 q2,.string T2,.int .i64 g2,.slice a2 n2 c2]]) L:=by
 subst hm;have hXb:aA rb wr wx:=hb.trans (aA.aF hx (zaA));have hbx:=h.bld.step hrb hXb;have hs0:=hbx.sz;have hlo:=aU h.bld.own;have hls:=aU h.own;have hsx:wx.ownsRow (w.heap.size+1+1) 3 1 sk L.length (L.map ix):=dQ h.own hXb (by omega);have hB:Below (w.heap.size+1+1) wx w4:=aW hg (fun g hgk=>(hlo g hgk).1) hs0;have hS:Below (w.heap.size+1) w4 (w4.setCell ⟨w.heap.size+1,3,none⟩ (.slice (some ⟨g,0,none⟩) (es.length+1) cap)):=zbF (Below.refl _ w4) (p:=⟨w.heap.size+1,3,none⟩) (zaA) _;have hloc:(Value.slice (some ⟨g,0,none⟩) (es.length+1) cap).ownBlock=(Value.slice a es.length c).ownBlock\/(Value.slice (some ⟨g,0,none⟩) (es.length+1) cap).ownBlock=some wx.heap.size:=by
  rcases hat with hat|hat
  ·exact .inl hat.symm
  ·exact .inr (by rw[<-hat];rfl)
 have hss:(w4.setCell ⟨w.heap.size+1,3,none⟩ (.slice (some ⟨g,0,none⟩) (es.length+1) cap)).heap.size=w4.heap.size:=by simp
 have hlen:(es++[[Value.int .u8 q2,.string T2,.int .i64 g2,.slice a2 n2 c2]]).length=es.length+1:=by simp
 have hkeep:∀ b,w.heap.size+1+1<=b->b<wx.heap.size->some b≠(Value.slice a es.length c).ownBlock->some b≠(Value.slice (some ⟨g,0,none⟩) (es.length+1) cap).ownBlock/\(w4.setCell ⟨w.heap.size+1,3,none⟩ (.slice (some ⟨g,0,none⟩) (es.length+1) cap)).heap[b]? = wx.heap[b]?:=fun b hb1 hb2 hb3=>by
  obtain⟨e1,e2⟩:=fE hg hloc hb2 hb3;refine⟨e2,?_⟩;rw[Below.heap_setCell w4 ⟨w.heap.size+1,3,none⟩ _ _ (by show b≠w.heap.size+1;omega)];exact e1
 refine⟨((h.zero.step hXb (by omega)).below hB (by omega)).below hS (by omega),h.bld.put hrb hXb hg (hvc.below hx) ho hloc,((hs.below hx).cQ hB (by omega)).cQ hS (by omega),?_,?_,h.low⟩
 ·exact ownsRow_setCell_below (hsx.kept hg (owns_apart hsx hbx.own (by decide))) (by show w.heap.size+1<w.heap.size+1+1;omega) _
 ·intro i g1 g2
  rw[hlen];by_cases hi:i<es.length
  ·have hil:i<l.length:=by have:=h.bld.hl;omega
   rw[List.getElem_append_left hi,List.getElem_append_left hil];have h1:VC wx (fun b=>w.heap.size+1+1<=b/\some b≠(Value.slice a es.length c).ownBlock/\some b≠sk.ownBlock) l[i] es[i]:=VC.keep (fun b hp hlt=>⟨hp,hXb.block b hlt (by omega)⟩) hXb.size _ _ (h.sep i hi hil);exact VC.keep (fun b hp hlt=>by
    obtain⟨e1,e2⟩:=hkeep b hp.1 hlt hp.2.1;exact⟨⟨hp.1,e1,hp.2.2⟩,e2⟩) (by rw[hss];exact hB.size) _ _ h1
  ·have hie:i=es.length:=by simp at g1;omega
   subst hie;rw[List.getElem_append_right (zaA)];have e2:(l++[v])[es.length]'g2=v:=by
    rw[List.getElem_append_right (by rw[h.bld.hl];exact zaA)];simp[h.bld.hl]
   rw[e2];simp only[Nat.sub_self,List.getElem_cons_zero];have hvx:=hvc.below hx;have hsz:=h.bld.sz;exact VC.keep (fun b hp hlt=>by
    have hp':wr.heap.size<=b:=hp;have hb3:some b≠(Value.slice a es.length c).ownBlock:=fun he=>by
     have:=(hlo b he.symm).2;omega
    have hb4:some b≠sk.ownBlock:=fun he=>by
     have:=(hls b he.symm).2;omega
    obtain⟨e1,e2⟩:=hkeep b (by omega) hlt hb3;exact⟨⟨by omega,e1,hb4⟩,e2⟩) (by rw[hss];exact hB.size) _ _ hvx
theorem Rk.skip {w wr:World} {rb sb:Nat} {cur:List UInt8} {bad:Bool} {sk sk':Value} {D:Nat} {a:Option Addr} {c:Nat} {l:List Wf.V} {es:List (List Value)} {L:List Nat} {G:Nat} (h:Rk w wr rb sb cur bad sk D a c l es L) (hrb:rb<w.heap.size) (hD:D=1) {wx w4:World} (hx:Below wr.heap.size wr wx) (hg:wx.grownBy w4 sk.ownBlock)
  (ho:w4.ownsRow (w.heap.size+1+1) 3 1 sk' (L.length+1) (L.map ix++[ix G])) (hat:sk'.ownBlock=sk.ownBlock\/sk'.ownBlock=some wx.heap.size) :
  Rk w (w4.setCell ⟨rb,3,none⟩ sk') rb sb cur bad sk' D a c l es (L++[G]):=by
 have hXb:aA rb wr wx:=aA.aF hx (zaA);have hbx:=h.bld.step hrb hXb;have hs0:=hbx.sz;have hls:=aU h.own;have hsx:wx.ownsRow (w.heap.size+1+1) 3 1 sk L.length (L.map ix):=dQ h.own hXb (by omega);have hB:Below (w.heap.size+1+1) wx w4:=aW hg (fun g hgk=>(hls g hgk).1) hs0;have hsepx:∀ i (h1:i<es.length) (h2:i<l.length),VC wx (fun b=>w.heap.size+1+1<=b/\some b≠(Value.slice a es.length c).ownBlock/\some b≠sk.ownBlock) l[i] es[i]:=fun i g1 g2=>VC.keep (fun b hp hlt=>⟨hp,hXb.block b hlt (by omega)⟩) hXb.size _ _ (h.sep i g1 g2);have hv:w.heap.size+1<w.heap.size+1+1:=zaH _;have hb4:Bld w w4 rb (w.heap.size+1) (w.heap.size+1+1) 82 a c l es:=by
  refine⟨⟨hB.os.trans hbx.fr.os,hB.tape.trans hbx.fr.tape,hB.output.trans hbx.fr.output,zaI hbx.fr.size hB.size,fun k hk hr=>(hB.block k (by omega)).trans (hbx.fr.block k hk hr)⟩,by omega,hv,zaI hs0 hB.size,(hB.cell (p:=⟨w.heap.size+1,0,none⟩) hv).trans hbx.v0,(hB.cell (p:=⟨w.heap.size+1,1,none⟩) hv).trans hbx.v1,(hB.cell (p:=⟨w.heap.size+1,2,none⟩) hv).trans hbx.v2,(hB.cell (p:=⟨w.heap.size+1,3,none⟩) hv).trans hbx.v3,(hB.frozen (p:=⟨w.heap.size+1,3,none⟩) hv).trans hbx.f3,hbx.own.kept hg (owns_apart hbx.own hsx (by decide)),hbx.he,hbx.hl,fun i g1 g2=>?_⟩;exact VC.keep (fun b hp hlt=>⟨⟨hp.1,hp.2.1⟩,hg.block b hlt hp.2.2⟩) hB.size _ _ (hsepx i g1 g2)
 have hset:=aA.set rb w4 3 sk';refine⟨((h.zero.step hXb (by omega)).below hB (by omega)).step hset (by omega),hb4.step hrb hset,((h.br.below hx).cQ hB (by omega)).skp sk',?_,?_,fun h1=>absurd hD h1⟩
 ·have:=ownsRow_setCell_below ho (a:=⟨rb,3,none⟩) (by show rb<w.heap.size+1+1;omega) sk'
  rw[zaD,List.map_append];exact this
 ·intro i g1 g2
  exact VC.keep (fun b hp hlt=>by
   obtain⟨e1,e2⟩:=fE hg hat hlt hp.2.2;exact⟨⟨hp.1,hp.2.1,e2⟩,(hset.block b (zaC hlt hB.size) (by omega)).trans e1⟩) (zaI hB.size hset.size) _ _ (hsepx i g1 g2)
theorem app_skip {ops:Array Oper} {rest:List Oper} {o:Oper} {act:Act} {Q:Exit->Act->World->Prop} {wx:World} {base m:Nat} {v:Value} {xs:List Value} {G:Nat} (s x:Operand) (hgd:o.guard=none) (ho:o.op=.call { callee:=.builtin .append,args:=#[s,x],argTypes:=#[32,32] })
  (hb:base<=wx.heap.size) (hown:wx.ownsRow base 3 1 v m xs) (hm1:m<=1000) {zb:Nat} (hz:wx.heap[zb]? = some (.cells #[.int .i64 G] 3)) (hs:act.eval s=v) (hx2:act.eval x=.slice (some ⟨zb,0,none⟩) 1 1)
  (h:∀ g cap w4,w4.ownsRow base 3 1 (.slice (some ⟨g,0,none⟩) (m+1) cap) (m+1) (xs++[ix G])->wx.grownBy w4 v.ownBlock->(v.ownBlock=some g\/g=wx.heap.size)->Below base wx w4->wpList Tryz.prog ops Q rest (act.put o.dst (.slice (some ⟨g,0,none⟩) (m+1) cap)) w4) :
  wpList Tryz.prog ops Q (o::rest) act wx:=by
 obtain⟨i0,hi0,hz0,hz1,hz2⟩:=info_parts lK;refine wpList_append_lies wx hgd s x 32 ho base 3 i0 (.int .i64 0) 1 8 Tryz.underlying32 hi0 hz0 hz1 hz2 rfl (by decide) v m _ hs hown ⟨zb,0,none⟩ 1 1 [.int .i64 G] hx2 rfl (World.news_of_block hz) (by intro u hu;rw[List.mem_singleton.1 hu];rfl) (by decide) (by unfold maxLen;omega) (by omega) hb _ rfl fun g cap w4 h1 h2 h3 h4=>?_;exact h g cap w4 h1 h2 h3 (aW h2 (fun g hg=>(aU hown g hg).1) hb)
