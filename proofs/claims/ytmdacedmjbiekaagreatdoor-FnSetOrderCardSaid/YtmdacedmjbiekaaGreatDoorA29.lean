/- Packed. -/
import Derived.Test.YtmdacedmjbiekaaGreatDoorA28
import Derived.Deep.RegionHeldLaw
import Derived.Deep.WholeRow
set_option maxRecDepth 99999
set_option maxHeartbeats 40000000
set_option linter.all false
namespace Go.Proofs.YtmdacedmjbiekaaGreatDoor
open Go.ChangeShapes Go.WideShapes Go.ChangeAt Go.RowKit Go.Lib
theorem qZ (SG S1 BS NM:ByteArray) (c:UInt8) (h:SG=⟨(c::S1.data.toList).toArray⟩) (w:World):Calls Tryz.prog 138 #[.agg #[.string SG,.string BS,.string NM]] w fun e w'=>e=.returned (.agg #[.string S1,.string BS,.string NM])/\Below w.heap.size w w':=by
 have h1:1<=SG.size:=by
  rw[h];show 1<=(c::S1.data.toList).toArray.size;simp
 have h2:SG.extract 1 SG.size=S1:=by
  apply ByteArray.ext;rw[ByteArray.data_extract,h];show(c::S1.data.toList).toArray.extract 1 (c::S1.data.toList).toArray.size=S1.data;simp;have hz:S1.size=S1.data.toList.length:=rfl;rw[hz,List.take_length]
 clear h;go_enter Tryz.func138,Tryz.ntmps138;go_wp2_with fail
 exact bodyPost_ret (v:=.agg #[.string S1,.string BS,.string NM]) (by simp[results,Tryz.results138,go_sem, *]) rfl ⟨rfl,((Below.refl _ _).alloc (Nat.le_refl _) _).alloc (by simp) _⟩
theorem yI (k:Wf.K) (w:World):Calls Tryz.prog 138 #[kV (.list k)] w fun e w'=>e=.returned (kV k)/\Below w.heap.size w w' :=
 qZ _ ⟨k.signs.toArray⟩ _ _ 91 rfl w
theorem qK (k:Wf.K) (w:World):Calls Tryz.prog 138 #[kV (.opt k)] w fun e w'=>e=.returned (kV k)/\Below w.heap.size w w' :=
 qZ _ ⟨k.signs.toArray⟩ _ _ 63 rfl w
theorem a3H (x:Wf.Sc) (rb sb:Nat) (W:World) (n:Nat) (k:Wf.K) (s:List UInt8) (w:World) (hW:Below W.heap.size W w) (hWr:W.heap.size<=rb) (IH:Reads x rb sb W n k) (hn:s.length<n+1) (h400:s.length<=400) (H:Sn w rb sb s false):Calls Tryz.prog 98 #[ptr rb,kV (.list k)] w fun e w'=>aS (Wf.parse x (n+1) (.list k) s) s rb sb w e w':=by
 have hrb:=H.lt;have c2:=H.c2;have HH:=hid H;have HW:=hid hW;have HLS:=hid fun(w2:World) (hb:Below W.heap.size W w2) (h:Sn w2 rb sb s false)=>a2E x rb sb W n k s w2 hb hWr IH hn h400 h;have HPT:=hid fun w2=>yI k w2;have HSG:=hid fun w2=>sign (.list k) w2;obtain⟨SG,hSG⟩:∃ SG:ByteArray,(⟨(Wf.K.list k).signs.toArray⟩:ByteArray)=SG:=⟨_,rfl⟩;obtain⟨BS,hBS⟩:∃ BS:ByteArray,(⟨(Wf.K.list k).base.toArray⟩:ByteArray)=BS:=⟨_,rfl⟩;obtain⟨NM,hNM⟩:∃ NM:ByteArray,(⟨(Wf.K.list k).name.toArray⟩:ByteArray)=NM:=⟨_,rfl⟩;have hkv:kV (.list k)=.agg #[.string SG,.string BS,.string NM]:=by simp only[kV,tx,hSG,hBS,hNM]
 rw[hkv] at HPT HSG;rw[hkv];have hsn:gJ (.list k)=91:=rfl;rw[hsn] at HSG;have ST:=hid fun W1 h=>eQ w SG BS NM W1 h;clear H hW IH hSG hBS hNM hkv hsn;go_enter Tryz.func98,Tryz.ntmps98;go_wp2_with (first|(go_at_call 137;refine(HLS.out _ BW2.out S2.out).mono ?_;rintro e w3 ⟨cs,v,r,rfl,hvc,hb3,ho⟩;obtain⟨q2,g2,n2,c2,T2,a2,rfl⟩:=hvc.cF;have HVC:=hid hvc;have HO:=hid ho;have HB3:=hid (HB2.out.trans hb3);have Z3:=hid (Z2.out.step hb3 (by omega));obtain⟨zl,zr0,zr1,zr2,zr3,zf0,zf1,zf2,zf3⟩:=Z3.out;clear hvc ho hb3)|(go_at_call 138;refine(HPT.out _).mono ?_;rintro e w2 ⟨rfl,hb2⟩;have S2:=hid (S1.out.below hb2);have HB2:=hid (HB1.out.trans (aA.aI hb2 (Nat.le_refl _)));have Z2:=hid (Z1.out.below hb2 Z1.out.lt);have BW2:=hid (aA.below HW.out HW.out.size hWr HB2.out);have hsz2:=Nat.lt_of_lt_of_le Z1.out.lt hb2.size;clear hb2)|(go_at_call 122;obtain⟨d0,d1,d2,z0,b0⟩:=ST.out _ rfl;refine(HSG.out _).mono ?_;rintro e w1 ⟨rfl,hb1⟩;have b01:=aC b0 hb1;have hz:=Nat.lt_of_lt_of_le (Nat.lt_succ_self _) (Nat.le_of_lt z0.lt);have e0:=(hb1.cell (p:=⟨w.heap.size,0,none⟩) hz).trans d0;have e1:=(hb1.cell (p:=⟨w.heap.size,1,none⟩) hz).trans d1;have e2:=(hb1.cell (p:=⟨w.heap.size,2,none⟩) hz).trans d2;have S1:=hid (HH.out.below b01);have HB1:=hid (aA.aI (rb:=rb) b01 (Nat.le_refl _));have Z1:=hid (z0.below hb1 z0.lt);clear hb1 b01 b0 d0 d1 d2 z0 hz))
 all_goals exact bodyPost_ret (v:=.agg #[.int .u8 q2,.string T2,.int .i64 g2,.slice a2 n2 c2]) (by simp[results,Tryz.results98,go_sem, *]) rfl (by
  have hR:∀ W4,aA (w.heap.size+1) w3 W4->aS (Wf.parse x (n+1) (.list k) s) s rb sb w (.returned (.agg #[.int .u8 q2,.string T2,.int .i64 g2,.slice a2 n2 c2])) W4:=fun W4 hb=>by
   refine⟨[.int .u8 q2,.string T2,.int .i64 g2,.slice a2 n2 c2],v,r,rfl,VC.keep (P:=fun b=>w2.heap.size<=b) (fun b hp hlt=>⟨by omega,hb.block b hlt (by omega)⟩) hb.size _ _ HVC.out,HB3.out.on hb (by omega),?_⟩;rcases HO.out with⟨hp,sn⟩|⟨hp,hbv,sn⟩
   ·exact .inl ⟨hp,sn.beside hb (by omega)⟩
   ·exact .inr ⟨hp,hbv,sn.beside hb (by omega)⟩
  refine hR _ ?_;repeat (first|with_reducible exact aA.refl _ _|with_reducible refine aA.drew ?_|with_reducible refine aA.trans ?_ (aA.set _ _ _ _)))
theorem a8Y (x:Wf.Sc) (rb sb:Nat) (n:Nat) (k:Wf.K) (q:List UInt8) (w:World) (H:Sn w rb sb (45::q) false):Calls Tryz.prog 98 #[ptr rb,kV (.opt k)] w fun e w'=>aS (Wf.parse x (n+1) (.opt k) (45::q)) (45::q) rb sb w e w':=by
 have hrb:=H.lt;have c2:=H.c2;have HH:=hid H;have HP:=hid (Wf.qY x n k q);have HSG:=hid fun w2=>sign (.opt k) w2;obtain⟨SG,hSG⟩:∃ SG:ByteArray,(⟨(Wf.K.opt k).signs.toArray⟩:ByteArray)=SG:=⟨_,rfl⟩;obtain⟨BS,hBS⟩:∃ BS:ByteArray,(⟨(Wf.K.opt k).base.toArray⟩:ByteArray)=BS:=⟨_,rfl⟩;obtain⟨NM,hNM⟩:∃ NM:ByteArray,(⟨(Wf.K.opt k).name.toArray⟩:ByteArray)=NM:=⟨_,rfl⟩;have hkv:kV (.opt k)=.agg #[.string SG,.string BS,.string NM]:=by simp only[kV,tx,hSG,hBS,hNM]
 rw[hkv] at HSG;rw[hkv];have hsn:gJ (.opt k)=63:=rfl;rw[hsn] at HSG;have ST:=hid fun W1 h=>eQ w SG BS NM W1 h;clear H hSG hBS hNM hkv hsn;go_enter Tryz.func98,Tryz.ntmps98;go_wp2_with (first|(go_at_call 139;refine(fT rb sb _ [45] q S1.out).mono ?_;rintro e w3 ⟨rfl,hs3,hb3⟩;have S3:=hid hs3;have HB3:=hid (HB1.out.trans hb3);have Z3:=hid (Z1.out.step hb3 (by omega));obtain⟨zl,zr0,zr1,zr2,zr3,zf0,zf1,zf2,zf3⟩:=Z3.out;clear hs3 hb3)|(go_at_call 122;obtain⟨d0,d1,d2,z0,b0⟩:=ST.out _ rfl;refine(HSG.out _).mono ?_;rintro e w1 ⟨rfl,hb1⟩;have b01:=aC b0 hb1;have S1:=hid (HH.out.below b01);have HB1:=hid (aA.aI (rb:=rb) b01 (Nat.le_refl _));have Z1:=hid (z0.below hb1 z0.lt);clear hb1 b01 b0 d0 d1 d2 z0))
 all_goals exact bodyPost_ret (v:=.agg #[.int .u8 63,.string ⟨#[]⟩,.int .i64 (0:Nat),.slice none 0 0]) (by simp[results,Tryz.results98,go_sem, *]) rfl (by
  have hR:∀ W4,aA (w.heap.size+1) w3 W4->aS (Wf.parse x (n+1) (.opt k) (45::q)) (45::q) rb sb w (.returned (.agg #[.int .u8 63,.string ⟨#[]⟩,.int .i64 (0:Nat),.slice none 0 0])) W4:=fun W4 hb =>
   ⟨_,.mk 63 [] 0 [],q,rfl,VC.leaf 63 [] 0 (by omega) (by decide),HB3.out.on hb (by omega),.inl ⟨HP.out,S3.out.beside hb (by omega)⟩⟩
  refine hR _ ?_;repeat (first|with_reducible exact aA.refl _ _|with_reducible refine aA.drew ?_|with_reducible refine aA.trans ?_ (aA.set _ _ _ _)))
theorem a7A (x:Wf.Sc) (rb sb:Nat) (W:World) (n:Nat) (k:Wf.K) (r:List UInt8) (w:World) (hW:Below W.heap.size W w) (hWr:W.heap.size<=rb) (IH:Reads x rb sb W n k) (hn:r.length<n) (h400:r.length<=400) (H:Sn w rb sb (43::r) false):Calls Tryz.prog 98 #[ptr rb,kV (.opt k)] w fun e w'=>aS (Wf.parse x (n+1) (.opt k) (43::r)) (43::r) rb sb w e w':=by
 have hrb:=H.lt;have c2:=H.c2;have HH:=hid H;have HW:=hid hW;have HP:=hid (Wf.uN x n k r);have HIH:=hid IH;have HPT:=hid fun w2=>qK k w2;have HSG:=hid fun w2=>sign (.opt k) w2;obtain⟨SG,hSG⟩:∃ SG:ByteArray,(⟨(Wf.K.opt k).signs.toArray⟩:ByteArray)=SG:=⟨_,rfl⟩;obtain⟨BS,hBS⟩:∃ BS:ByteArray,(⟨(Wf.K.opt k).base.toArray⟩:ByteArray)=BS:=⟨_,rfl⟩;obtain⟨NM,hNM⟩:∃ NM:ByteArray,(⟨(Wf.K.opt k).name.toArray⟩:ByteArray)=NM:=⟨_,rfl⟩;have hkv:kV (.opt k)=.agg #[.string SG,.string BS,.string NM]:=by simp only[kV,tx,hSG,hBS,hNM]
 rw[hkv] at HSG HPT;rw[hkv];have hsn:gJ (.opt k)=63:=rfl;rw[hsn] at HSG;have ST:=hid fun W1 h=>eQ w SG BS NM W1 h;clear H hW IH hSG hBS hNM hkv hsn;go_enter Tryz.func98,Tryz.ntmps98;go_wp2_with (first|(go_at_call 98;refine(HIH.out r _ BW4.out S4.out hn h400).mono ?_;rintro e w5 ⟨cs,v,r5,rfl,hvc,hb5,ho⟩;obtain⟨q2,g2,n2,c2,T2,a2,rfl⟩:=hvc.cF;have HVC:=hid hvc;have HO:=hid ho;have HB5:=hid (HB4.out.trans hb5);have Z5:=hid (Z4.out.step hb5 (by omega));obtain⟨zl,zr0,zr1,zr2,zr3,zf0,zf1,zf2,zf3⟩:=Z5.out;clear hvc ho hb5)|(go_at_call 138;refine(HPT.out _).mono ?_;rintro e w4 ⟨rfl,hb4⟩;have S4:=hid (S3.out.below hb4);have HB4:=hid (HB3.out.trans (aA.aI hb4 (Nat.le_refl _)));have Z4:=hid (Z3.out.below hb4 Z3.out.lt);have hz4:=Z4.out.lt;have BW4:=hid (aA.below HW.out HW.out.size hWr HB4.out);clear hb4)|(go_at_call 140;refine(bW rb sb _ [43] r S1.out).mono ?_;rintro e w3 ⟨rfl,hs3,hb3⟩;have S3:=hid hs3;have HB3:=hid (HB1.out.trans hb3);have Z3:=hid (Z1.out.step hb3 (by omega));have k0:=(hb3.cell (p:=⟨w.heap.size,0,none⟩) hz (by show w.heap.size≠rb;omega)).trans e0;have k1:=(hb3.cell (p:=⟨w.heap.size,1,none⟩) hz (by show w.heap.size≠rb;omega)).trans e1;have k2:=(hb3.cell (p:=⟨w.heap.size,2,none⟩) hz (by show w.heap.size≠rb;omega)).trans e2;clear hs3 hb3)|(go_at_call 139;refine(dJ rb sb _ (43::r) [45] false S1.out (.inr (by rw[pre1];simp))).mono ?_;rintro e w2 ⟨rfl,rfl⟩)|(go_at_call 122;obtain⟨d0,d1,d2,z0,b0⟩:=ST.out _ rfl;refine(HSG.out _).mono ?_;rintro e w1 ⟨rfl,hb1⟩;have b01:=aC b0 hb1;have hz:=Nat.lt_of_lt_of_le (Nat.lt_succ_self _) (Nat.le_of_lt z0.lt);have e0:=(hb1.cell (p:=⟨w.heap.size,0,none⟩) hz).trans d0;have e1:=(hb1.cell (p:=⟨w.heap.size,1,none⟩) hz).trans d1;have e2:=(hb1.cell (p:=⟨w.heap.size,2,none⟩) hz).trans d2;have S1:=hid (HH.out.below b01);have HB1:=hid (aA.aI (rb:=rb) b01 (Nat.le_refl _));have Z1:=hid (z0.below hb1 z0.lt);have hz:=Nat.lt_of_lt_of_le hz hb1.size;clear hb1 b01 b0 d0 d1 d2 z0))
 all_goals exact bodyPost_ret (v:=.agg #[.int .u8 63,.string ⟨#[]⟩,.int .i64 (0:Nat),.slice (some ⟨w5.heap.size,0,none⟩) 1 1]) (by simp[results,Tryz.results98,go_sem, *]) rfl (by
  have hR:∀ W4,aA (w.heap.size+1) w5 W4->w5.heap.size<W4.heap.size->(∀ j u,[Value.int .u8 q2,Value.string T2,Value.int .i64 g2,Value.slice a2 n2 c2][j]? = some u->W4.cell? ⟨w5.heap.size,0+j,none⟩=some u)->aS (Wf.parse x (n+1) (.opt k) (43::r)) (43::r) rb sb w (.returned (.agg #[.int .u8 63,.string ⟨#[]⟩,.int .i64 (0:Nat),.slice (some ⟨w5.heap.size,0,none⟩) 1 1])) W4:=fun W4 hb hl hc=>by
   refine⟨_,.mk 63 [] 0 [v],r5,rfl,VC.one (VC.keep (P:=fun b=>w4.heap.size<=b) (fun b hp hlt=>⟨by omega,hb.block b hlt (by omega)⟩) hb.size _ _ HVC.out) (by omega) hl hc 63 [] 0 ⟨by omega,fun _=>.inr (.inl rfl),fun h=>absurd h (by decide)⟩,HB5.out.on hb (by omega),?_⟩;rcases HO.out with⟨hp,sn⟩|⟨hp,hbv,sn⟩
   ·exact .inl ⟨by rw[HP.out,hp];rfl,sn.beside hb (by omega)⟩
   ·exact .inr ⟨by rw[HP.out,hp];rfl,Wf.a7E rfl hbv,sn.beside hb (by omega)⟩
  refine hR _ ?_ ?_ ?_
  ·repeat (first|with_reducible exact aA.refl _ _|with_reducible refine aA.drew ?_|with_reducible refine aA.alloc ?_ _|with_reducible refine aA.trans ?_ (aA.set _ _ _ _))
  ·simp
  ·intro j u hu
   rcases j with _|_|_|_|j <;> simp at hu <;> subst hu <;> simp[go_sem])
theorem pO (x:Wf.Sc) (rb sb:Nat) (W:World) (n:Nat) (k:Wf.K) (r:List UInt8) (w:World) (h1:r.head? ≠ some 45) (h2:r.head? ≠ some 43) (hW:Below W.heap.size W w) (hWr:W.heap.size<=rb) (H:Sn w rb sb r false):Calls Tryz.prog 98 #[ptr rb,kV (.opt k)] w fun e w'=>aS (Wf.parse x (n+1) (.opt k) r) r rb sb w e w':=by
 have hrb:=H.lt;have c2:=H.c2;have HH:=hid H;have HW:=hid hW;have HP:=hid (Wf.rP x n k h1 h2);have HY:=hid (And.intro (fun hp=>h1 ((pre1 45 r).1 hp)) (fun hp=>h2 ((pre1 43 r).1 hp)));have HPT:=hid fun w2=>qK k w2;have HSG:=hid fun w2=>sign (.opt k) w2;obtain⟨SG,hSG⟩:∃ SG:ByteArray,(⟨(Wf.K.opt k).signs.toArray⟩:ByteArray)=SG:=⟨_,rfl⟩;obtain⟨BS,hBS⟩:∃ BS:ByteArray,(⟨(Wf.K.opt k).base.toArray⟩:ByteArray)=BS:=⟨_,rfl⟩;obtain⟨NM,hNM⟩:∃ NM:ByteArray,(⟨(Wf.K.opt k).name.toArray⟩:ByteArray)=NM:=⟨_,rfl⟩;have hkv:kV (.opt k)=.agg #[.string SG,.string BS,.string NM]:=by simp only[kV,tx,hSG,hBS,hNM]
 rw[hkv] at HSG HPT;rw[hkv];have hsn:gJ (.opt k)=63:=rfl;rw[hsn] at HSG;have ST:=hid fun W1 h=>eQ w SG BS NM W1 h;clear H hW h1 h2 hSG hBS hNM hkv hsn;go_enter Tryz.func98,Tryz.ntmps98;go_wp2_with (first|(go_at_call 98;refine(a5U rb sb r _ k S4.out).mono ?_;rintro e w5 ⟨rfl,hb5,ho⟩;have HO:=hid ho;have HB5:=hid (HB4.out.trans hb5);have Z5:=hid (Z4.out.step hb5 (by omega));obtain⟨zl,zr0,zr1,zr2,zr3,zf0,zf1,zf2,zf3⟩:=Z5.out;clear ho hb5)|(go_at_call 138;refine(HPT.out _).mono ?_;rintro e w4 ⟨rfl,hb4⟩;have S4:=hid (S3.out.below hb4);have HB4:=hid (HB3.out.trans (aA.aI hb4 (Nat.le_refl _)));have Z4:=hid (Z3.out.below hb4 Z3.out.lt);have hz4:=Z4.out.lt;have BW4:=hid (aA.below HW.out HW.out.size hWr HB4.out);clear hb4)|(go_at_call 140;refine(bS rb sb _ r [43] false S1.out (.inr HY.out.2)).mono ?_;rintro e w3 ⟨rfl,hs3,hb3⟩;have S3:=hid hs3;have HB3:=hid (HB1.out.trans hb3);have Z3:=hid (Z1.out.step hb3 (by omega));have k0:=(hb3.cell (p:=⟨w.heap.size,0,none⟩) hz (by show w.heap.size≠rb;omega)).trans e0;have k1:=(hb3.cell (p:=⟨w.heap.size,1,none⟩) hz (by show w.heap.size≠rb;omega)).trans e1;have k2:=(hb3.cell (p:=⟨w.heap.size,2,none⟩) hz (by show w.heap.size≠rb;omega)).trans e2;clear hs3 hb3)|(go_at_call 139;refine(dJ rb sb _ r [45] false S1.out (.inr HY.out.1)).mono ?_;rintro e w2 ⟨rfl,rfl⟩)|(go_at_call 122;obtain⟨d0,d1,d2,z0,b0⟩:=ST.out _ rfl;refine(HSG.out _).mono ?_;rintro e w1 ⟨rfl,hb1⟩;have b01:=aC b0 hb1;have hz:=Nat.lt_of_lt_of_le (Nat.lt_succ_self _) (Nat.le_of_lt z0.lt);have e0:=(hb1.cell (p:=⟨w.heap.size,0,none⟩) hz).trans d0;have e1:=(hb1.cell (p:=⟨w.heap.size,1,none⟩) hz).trans d1;have e2:=(hb1.cell (p:=⟨w.heap.size,2,none⟩) hz).trans d2;have S1:=hid (HH.out.below b01);have HB1:=hid (aA.aI (rb:=rb) b01 (Nat.le_refl _));have Z1:=hid (z0.below hb1 z0.lt);have hz:=Nat.lt_of_lt_of_le hz hb1.size;clear hb1 b01 b0 d0 d1 d2 z0))
 all_goals exact bodyPost_ret (v:=.agg #[.int .u8 63,.string ⟨#[]⟩,.int .i64 (0:Nat),.slice (some ⟨w5.heap.size,0,none⟩) 1 1]) (by simp[results,Tryz.results98,go_sem, *]) rfl (by
  have hR:∀ W4,aA (w.heap.size+1) w5 W4->w5.heap.size<W4.heap.size->(∀ j u,[Value.int .u8 0,Value.string ⟨#[]⟩,Value.int .i64 (0:Nat),Value.slice none 0 0][j]? = some u->W4.cell? ⟨w5.heap.size,0+j,none⟩=some u)->aS (Wf.parse x (n+1) (.opt k) r) r rb sb w (.returned (.agg #[.int .u8 63,.string ⟨#[]⟩,.int .i64 (0:Nat),.slice (some ⟨w5.heap.size,0,none⟩) 1 1])) W4:=fun W4 hb hl hc=>by
   exact⟨_,.mk 63 [] 0 [.mk 0 [] 0 []],r,rfl,VC.one (VC.leaf 0 [] 0 (by omega) (by decide)) (by omega) hl hc 63 [] 0 ⟨by omega,fun _=>.inr (.inl rfl),fun h=>absurd h (by decide)⟩,HB5.out.on hb (by omega),.inr ⟨HP.out,Wf.a2M,HO.out.beside hb (by omega)⟩⟩
  refine hR _ ?_ ?_ ?_
  ·repeat (first|with_reducible exact aA.refl _ _|with_reducible refine aA.drew ?_|with_reducible refine aA.alloc ?_ _|with_reducible refine aA.trans ?_ (aA.set _ _ _ _))
  ·simp
  ·intro j u hu
   rcases j with _|_|_|_|j <;> simp at hu <;> subst hu <;> simp[go_sem])

theorem nW (w:World) (rb q:Nat) (W1:World) (hW1:(w.alloc (.cells #[.int .u8 0,.string ⟨#[]⟩,.int .i64 0,.slice none 0 0] 92)).alloc (.cells #[.int .u8 q,.string ⟨#[]⟩,.int .i64 0,.slice none 0 0] 92)=W1) :
  Zero W1 w.heap.size/\Bld w W1 rb (w.heap.size+1) (w.heap.size+1+1) q none 0 [] []/\Below w.heap.size w W1:=by
 have hB:Below w.heap.size w W1:=by
  rw[<-hW1];exact(((Below.refl _ _).alloc (Nat.le_refl _) _).alloc (by simp) _)
 subst hW1;refine⟨⟨?_,?_,?_,?_,?_,?_,?_,?_,?_⟩,⟨aA.aI hB (Nat.le_refl _),?_,?_,?_,?_,?_,?_,?_,?_,World.ownsRow_nil _ _ _ _,?_,rfl,?_⟩,hB⟩;all_goals first|(simp[go_sem];done)|(simp[go_sem];omega)|omega|(intro e he;simp at he)|(intro i h1;simp at h1)
section
variable (x:Wf.Sc) (rb sb:Nat) (W:World) (n:Nat) (t:Wf.Ty) (nm:List UInt8) (s:List UInt8) (w:World)
theorem pU (hf:x.find nm=some t) (lo tb:Nat) (hW:Below W.heap.size W w) (hT:TyL W lo tb t) (h82:t.sort=82) (H:Sn w rb sb s false) (h:s.head? ≠ some 123):Calls Tryz.prog 143 #[ptr rb,ptr tb] w fun e w'=>aS (Wf.parse x (n+1) (.ref nm) s) s rb sb w e w':=by
 have HP:=hid (Wf.sE x n hf h82 h);obtain⟨htb,c0⟩:=hT.sort;rw[h82] at c0;have y0:w.cell? ⟨tb,0,none⟩=some (.int .u8 82):=(hW.cell (p:=⟨tb,0,none⟩) htb).trans c0;have htw:tb<w.heap.size:=Nat.lt_of_lt_of_le htb hW.size;have htw1:tb<w.heap.size+1:=by omega
 have hrb:=H.lt;have HH:=hid H;have HN:=hid fun hp=>h ((pre1 123 s).1 hp);have ST:=hid fun W1 h=>nW w rb 82 W1 h;clear H h hW hT c0 h82 hf;go_enter Tryz.func143,Tryz.ntmps143;go_wp2_with (first|(go_at_call 139;have _u:=hS1;refine(dJ rb sb _ s [125] true hS1.out (.inl rfl)).mono ?_;rintro e w2 ⟨rfl,rfl⟩)|(go_at_call 140;obtain⟨z0,bl0,b0⟩:=ST.out _ rfl;refine(bS rb sb _ s [123] false (HH.out.below b0) (.inr HN.out)).mono ?_;rintro e w1 ⟨rfl,hs1,hb1⟩;have Z1:=hid (z0.step hb1 (by omega));have BL:=hid (bl0.step hrb hb1);have hS1:=hid hs1;have HB1:=hid ((aA.aI b0 (Nat.le_refl _)).trans hb1);have cb2:=hs1.c2;have hbl:=hs1.lt;clear z0 bl0 b0 hs1 hb1))
 go_loopw [8] (fun s8 wr=>wr=w1) (fun _ _=>0)
 case atStart=>rfl
 case round =>
  subst hrel;go_wp2_with (go_at_call 140;refine(bS rb sb _ s [125] true hS1.out (.inl rfl)).mono ?_;rintro e w3 ⟨rfl,hs3,hb3⟩;have hS3:=hid hs3;have HB3:=hid (HB1.out.trans hb3);have Z3:=hid (Z1.out.step hb3 (by omega));have BL3:=hid (BL.out.step hrb hb3);clear hs3 hb3;have v0:=BL3.out.v0;have v1:=BL3.out.v1;have v2:=BL3.out.v2;have v3:=BL3.out.v3;obtain⟨zl,zr0,zr1,zr2,zr3,zf0,zf1,zf2,zf3⟩:=Z3.out;have hvl:w.heap.size+1<w3.heap.size:=(by have:=BL3.out.sz;omega))
  exact bodyPost_ret (v:=.agg #[.int .u8 82,.string ⟨#[]⟩,.int .i64 0,.slice none 0 0]) (by simp[results,Tryz.results143,go_sem, *]) rfl (by
   have hB4:∀ W4,aA w.heap.size w3 W4->aS (Wf.parse x (n+1) (.ref nm) s) s rb sb w (.returned (.agg #[.int .u8 82,.string ⟨#[]⟩,.int .i64 0,.slice none 0 0])) W4:=fun W4 hb=>by
    refine⟨_,.mk 82 [] 0 [],s,rfl,VC.leaf 82 [] 0 (by omega) (by decide),HB3.out.on hb (Nat.le_refl _),.inr ⟨HP.out,Wf.nB (.inr rfl) (Nat.le_refl _),hS3.out.beside hb (by omega)⟩⟩
   refine hB4 _ ?_;repeat (first|with_reducible exact aA.refl _ _|with_reducible refine aA.drew ?_|with_reducible refine aA.trans ?_ (aA.set _ _ _ _)))
theorem a7R (q:List UInt8) (hf:x.find nm=some t) (lo tb:Nat) (hW:Below W.heap.size W w) (hT:TyL W lo tb t) (h82:t.sort=82) (H:Sn w rb sb (123::125::q) false):Calls Tryz.prog 143 #[ptr rb,ptr tb] w fun e w'=>aS (Wf.parse x (n+1) (.ref nm) (123::125::q)) (123::125::q) rb sb w e w':=by
 have HP:=hid (Wf.sM x n hf h82 q);obtain⟨htb,c0⟩:=hT.sort;rw[h82] at c0;have y0:w.cell? ⟨tb,0,none⟩=some (.int .u8 82):=(hW.cell (p:=⟨tb,0,none⟩) htb).trans c0;have htw:tb<w.heap.size:=Nat.lt_of_lt_of_le htb hW.size;have htw1:tb<w.heap.size+1:=by omega
 have hrb:=H.lt;have HH:=hid H;have ST:=hid fun W1 h=>nW w rb 82 W1 h;clear H hW hT c0 h82 hf;go_enter Tryz.func143,Tryz.ntmps143;go_wp2_with (first|(go_at_call 139;have _u:=hS1;refine(fT rb sb _ [125] q hS1.out).mono ?_;rintro e w3 ⟨rfl,hs3,hb3⟩;have hS3:=hid hs3;have HB3:=hid (HB1.out.trans hb3);have Z3:=hid (Z1.out.step hb3 (by omega));have BL3:=hid (BL.out.step hrb hb3);clear hs3 hb3;have v0:=BL3.out.v0;have v1:=BL3.out.v1;have v2:=BL3.out.v2;have v3:=BL3.out.v3;obtain⟨zl,zr0,zr1,zr2,zr3,zf0,zf1,zf2,zf3⟩:=Z3.out;have hvl:w.heap.size+1<w3.heap.size:=(by have:=BL3.out.sz;omega))|(go_at_call 140;obtain⟨z0,bl0,b0⟩:=ST.out _ rfl;refine(bW rb sb _ [123] (125::q) (HH.out.below b0)).mono ?_;rintro e w1 ⟨rfl,hs1,hb1⟩;have Z1:=hid (z0.step hb1 (by omega));have BL:=hid (bl0.step hrb hb1);have hS1:=hid hs1;have HB1:=hid ((aA.aI b0 (Nat.le_refl _)).trans hb1);have cb2:=hs1.c2;have hbl:=hs1.lt;clear z0 bl0 b0 hs1 hb1))
 all_goals exact bodyPost_ret (v:=.agg #[.int .u8 82,.string ⟨#[]⟩,.int .i64 0,.slice none 0 0]) (by simp[results,Tryz.results143,go_sem, *]) rfl (by
   have hB4:∀ W4,aA w.heap.size w3 W4->aS (Wf.parse x (n+1) (.ref nm) (123::125::q)) (123::125::q) rb sb w (.returned (.agg #[.int .u8 82,.string ⟨#[]⟩,.int .i64 0,.slice none 0 0])) W4:=fun W4 hb=>by
    refine⟨_,.mk 82 [] 0 [],q,rfl,VC.leaf 82 [] 0 (by omega) (by decide),HB3.out.on hb (Nat.le_refl _),.inl ⟨HP.out,hS3.out.beside hb (by omega)⟩⟩
   refine hB4 _ ?_;repeat (first|with_reducible exact aA.refl _ _|with_reducible refine aA.drew ?_|with_reducible refine aA.trans ?_ (aA.set _ _ _ _)))
end

theorem VC.fld {W:World} {P:Nat->Prop} {g:Nat} {v:Wf.V} {cs:List Value} (h:VC W P (.mk 61 [] g [v]) cs):∃ (b2 o2 c2 q3 g3 n3 c3:Nat) (T3:ByteArray) (a3:Option Addr),cs=[.int .u8 61,.string ⟨#[]⟩,.int .i64 g,.slice (some ⟨b2,o2,none⟩) 1 c2]/\1<=c2/\c2<=maxLen/\P b2/\b2<W.heap.size/\VC W P v [.int .u8 q3,.string T3,.int .i64 g3,.slice a3 n3 c3]/\W.cell? ⟨b2,o2,none⟩=some (.int .u8 q3)/\W.cell? ⟨b2,o2+1,none⟩=some (.string T3)/\W.cell? ⟨b2,o2+2,none⟩=some (.int .i64 g3)/\W.cell? ⟨b2,o2+3,none⟩=some (.slice a3 n3 c3):=by
 obtain⟨a,c,rfl,h1,h2,h3,h4⟩:=h.form;rcases h4 with h4|⟨b2,o2,ha,hp,hb,hv⟩
 ·simp[Wf.V.kids] at h4
 ·simp only[Wf.V.kids,VCs] at hv
  obtain⟨⟨ks,hk,hc⟩,_⟩:=hv;obtain⟨q3,g3,n3,c3,T3,a3,rfl⟩:=hk.cF;subst ha;refine⟨b2,o2,c,q3,g3,n3,c3,T3,a3,rfl,h1,h2,hp,hb,hk,by simpa using hc 0 _ rfl,hc 1 _ rfl,hc 2 _ rfl,hc 3 _ rfl⟩
structure Rst (rb sb:Nat) (w wr:World) (cur:List UInt8) (bad:Bool) (a:Option Addr) (c:Nat) (l:List Wf.V) (es:List (List Value)):Prop where
 zero:Zero wr w.heap.size
 bld:Bld w wr rb (w.heap.size+1) (w.heap.size+1+1) 82 a c l es
 sn:Sn wr rb sb cur bad
theorem Rst.step {rb sb:Nat} {w wr w2:World} {cur cur2:List UInt8} {bad bad2:Bool} {a:Option Addr} {c:Nat} {l:List Wf.V} {es:List (List Value)} (h:Rst rb sb w wr cur bad a c l es) (hr:rb<w.heap.size) (hb:aA rb wr w2) (hs:Sn w2 rb sb cur2 bad2):Rst rb sb w w2 cur2 bad2 a c l es :=
 ⟨h.zero.step hb (by omega),h.bld.step hr hb,hs⟩
theorem Rst.put {rb sb:Nat} {w wr:World} {cur:List UInt8} {bad0:Bool} {a:Option Addr} {c:Nat} {l:List Wf.V} {es:List (List Value)} {m:Nat} (h:Rst rb sb w wr cur bad0 a c l es) (hrb:rb<w.heap.size) {w2:World} (hb:aA rb wr w2) (hm:es.length=m) {q2 g2 n2 c2:Nat} {T2:ByteArray} {a2:Option Addr} {v:Wf.V}
  (hvc:VC w2 (fun b=>wr.heap.size<=b) v [.int .u8 q2,.string T2,.int .i64 g2,.slice a2 n2 c2]) {wx w4:World} {g cap:Nat} (hx:Below w2.heap.size w2 wx)
  (hg:wx.grownBy w4 (Value.slice a m c).ownBlock)
  (ho:w4.ownsRow (w.heap.size+1+1) 92 4 (.slice (some ⟨g,0,none⟩) (m+1) cap) (m+1) (es.flatten++[.int .u8 q2,.string T2,.int .i64 g2,.slice a2 n2 c2]))
  (hat:(Value.slice a m c).ownBlock=some g\/g=wx.heap.size)
  {r2:List UInt8} {bad:Bool} (hs:Sn w2 rb sb r2 bad) :
  Rst rb sb w (w4.setCell ⟨w.heap.size+1,3,none⟩ (.slice (some ⟨g,0,none⟩) (m+1) cap)) r2 bad (some ⟨g,0,none⟩) cap (l++[v]) (es++[[.int .u8 q2,.string T2,.int .i64 g2,.slice a2 n2 c2]]):=by
 subst hm;have hXb:aA rb wr wx:=hb.trans (aA.aI hx (Nat.le_refl _));have hs0:=(h.bld.step hrb hXb).sz;have hlo:=aL h.bld.own;have hB:Below (w.heap.size+1+1) wx w4:=aU hg (fun g hgk=>(hlo g hgk).1) hs0;have hS:Below (w.heap.size+1) w4 (w4.setCell ⟨w.heap.size+1,3,none⟩ (.slice (some ⟨g,0,none⟩) (es.length+1) cap)):=Below.setCell (Below.refl _ w4) (p:=⟨w.heap.size+1,3,none⟩) (Nat.le_refl _) _;refine⟨((h.zero.step hXb (by omega)).below hB (by omega)).below hS (by omega),h.bld.put hrb hXb hg (hvc.below hx) ho ?_,((hs.below hx).iD hB (by omega)).iD hS (by omega)⟩;rcases hat with hat|hat
 ·exact .inl hat.symm
 ·exact .inr (by rw[<-hat];rfl)
theorem rJ {r cur q:List UInt8} {l:List Wf.V} (h1:Wf.pl l+cur.length=r.length) (h2:q.length<=cur.length):Wf.Badv (123::r) q (.mk 82 [] 0 l):=by
 cases l with
 | nil=>exact Wf.nB (.inr rfl) (by simp;omega)
 | cons v l=>exact Wf.mL (.inr rfl) (s0:=r) rfl (by simp) (by omega)
theorem jF {x:Wf.Sc} {n:Nat} {t:Wf.Ty} {s r:List UInt8} {f:Wf.Fd} {v:Wf.V} (h:Wf.fieldTok t (fun k s=>Wf.parse x n k s) s=some (f,v,r)):s.length=(Wf.V.mk 61 [] f.tag [v]).print.length+r.length:=by
 have h2:=(Wf.jH (Q:=fun _ _=>True) (fun f s v r h=>⟨trivial,(Wf.dR _ _ _ _ _ h).2⟩) h).2.2.2;rw[h2,Wf.gO];simp;omega
end Go.Proofs.YtmdacedmjbiekaaGreatDoor

namespace Wf
def Ty.cU (t:Ty) (g:Int):Option Fd:=t.fields.find? fun f=>(f.tag:Int)==g
theorem a4Q (t:Ty) (g:Nat):t.cU g=t.field g:=by
 unfold Ty.cU Ty.field;refine congrArg (fun p=>List.find? p t.fields) (funext fun f=>?_);rw[Bool.eq_iff_iff,beq_iff_eq,beq_iff_eq];omega
theorem dX {t:Ty} {g:Int} {f:Fd} (h:t.cU g=some f):f∈t.fields/\(f.tag:Int)=g/\t.field f.tag=some f:=by
 have h1:=List.mem_of_find?_eq_some h;have h2:(f.tag:Int)=g:=by have:=List.find?_some h;simpa using this
 refine⟨h1,h2,?_⟩;rw[<-a4Q,h2];exact h
def recTy (x:Sc):K->Option Ty
 | .ref nm=>(x.find nm).bind fun t=>if t.sort=82 then some t else none
 | _=>none
theorem vG {x:Sc} {k:K} {t:Ty} (h:recTy x k=some t):∃ nm,k=.ref nm/\x.find nm=some t/\t.sort=82:=by
 cases k with
 | ref nm =>
  simp only[recTy] at h;cases hf:x.find nm with
  | none=>rw[hf] at h;cases h
  | some u =>
   rw[hf] at h;simp only[Option.bind_some] at h;split at h
   ·rename_i h82;cases h;exact⟨nm,rfl,hf,h82⟩
   ·cases h
 | _=>cases h
def bH (x:Sc) (k:K) (g:Int):Option Fd:=(recTy x k).bind fun t=>t.cU g
theorem iS {x:Sc} {k:K} {g:Int} {f:Fd} (h:bH x k g=some f):∃ nm t,k=.ref nm/\x.find nm=some t/\t.sort=82/\t.cU g=some f:=by
 unfold bH at h;cases ht:recTy x k with
 | none=>rw[ht] at h;cases h
 | some t =>
  rw[ht] at h;obtain⟨nm,h1,h2,h3⟩:=vG ht;exact⟨nm,t,h1,h2,h3,h⟩
def getV (x:Sc) (kids:List V) (f:Fd):Bs :=
 match kids.find? (fun u=>u.tag==f.tag) with
 | some u=>(match u.kids with | [y]=>y.print|_=>[])
 | none=>aH x f
def setV (x:Sc) (kids:List V) (f:Fd) (y:V):List V :=
 kids.filter (fun u=>decide (u.tag<f.tag))++(if y.print=aH x f then [] else [.mk 61 [] f.tag [y]])++kids.filter (fun u=>decide (f.tag<u.tag))
def dE (x:Sc) (k:K) (v:V) (g:Int):Option Bs:=(bH x k g).map fun f=>getV x v.kids f
def bU (x:Sc) (k:K) (v:V) (g:Int) (s:Bs):Option Bs :=
 (bH x k g).bind fun f=>(valIn x f.kind s).bind fun y =>
  if (V.mk 82 [] 0 (setV x v.kids f y)).print.length<=400/\(V.mk 82 [] 0 (setV x v.kids f y)).deep<=12 then some (V.mk 82 [] 0 (setV x v.kids f y)).print else none
theorem a3S (x:Sc) (es:List (Fd × V)) (f:Fd):getV x (es.map tagged) f=getEs x es f:=by
 unfold getV getEs;induction es with
 | nil=>rfl
 | cons e es ih =>
  simp only[List.map_cons,List.find?_cons];have:(tagged e).tag=e.1.tag:=rfl;rw[this];cases hq:(e.1.tag==f.tag) with
  | true=>rfl
  | false=>exact ih
theorem pS (p:Nat->Bool) (es:List (Fd × V)):(es.map tagged).filter (fun u=>p u.tag)=(es.filter fun e=>p e.1.tag).map tagged:=by
 rw[List.filter_map];rfl
theorem zY (x:Sc) (es:List (Fd × V)) (f:Fd) (y:V):setV x (es.map tagged) f y=(aP x es f y).map tagged:=by
 unfold setV aP;rw[List.map_append,List.map_append,pS (fun g=>decide (g<f.tag)),pS (fun g=>decide (f.tag<g))];congr 2
 split <;> rfl
def dG (x:Sc) (t:Ty) (n:Nat) (es:List (Fd × V)):Prop :=
 Asc es/\∀ e,e∈es->0<e.1.tag/\t.field e.1.tag=some e.1/\e.1.tag<=200/\Typed x n e.1.kind e.2/\e.2.print≠aH x e.1
abbrev recV (es:List (Fd × V)):V:=.mk 82 [] 0 (es.map tagged)
theorem iI {x:Sc} {n:Nat} {nm:Bs} {v:V} {t:Ty} (h:Typed x (n+1) (.ref nm) v) (ht:x.find nm=some t) (h82:t.sort=82):∃ es,dG x t n es/\v=recV es:=by
 simp only[Typed] at h;obtain⟨u,hu,h⟩:=h;rw[ht] at hu;cases hu;rcases h with⟨h1,_⟩|⟨_,h1,_⟩|⟨_,_,l,h1,h2,h3⟩
 ·rw[h82] at h1;exact absurd h1 (by decide)
 ·rw[h82] at h1;exact absurd h1 (by decide)
 ·exact⟨l,⟨h1,h2⟩,h3⟩
theorem iB {x:Sc} {n:Nat} {nm:Bs} {t:Ty} {es:List (Fd × V)} (h:dG x t n es) (ht:x.find nm=some t) (h82:t.sort=82):Typed x (n+1) (.ref nm) (recV es):=by
 simp only[Typed];exact⟨t,ht,.inr (.inr ⟨by rw[h82];decide,by rw[h82];decide,es,h.1,h.2,rfl⟩)⟩
theorem lJ {x:Sc} {t:Ty} {n:Nat} {es:List (Fd × V)} {f:Fd} {y:V} (h:dG x t n es) (h1:0<f.tag) (h2:f.tag<=200) (hf:t.field f.tag=some f) (hy:Typed x n f.kind y):dG x t n (aP x es f y):=by
 refine⟨dS h.1,fun e he=>?_⟩;rcases eD.1 he with⟨h3,_⟩|⟨h3,rfl⟩
 ·exact h.2 e h3
 ·exact⟨h1,hf,h2,hy,h3⟩
theorem a3V {l:List Bs} {a:Bs} (h:a∈l):a.length<=(commas l).length:=by
 induction l with
 | nil=>simp at h
 | cons b l ih =>
  cases l with
  | nil=>simp at h;subst h;exact Nat.le_refl _
  | cons c l =>
   simp only[commas,List.length_append,List.length_cons];rcases List.mem_cons.1 h with rfl|h
   ·omega
   ·have:=ih h;omega
theorem nX {es:List (Fd × V)} {e:Fd × V} (h:e∈es):e.2.print.length<=(recV es).print.length:=by
 rw[recV,dB];have h1:(tagged e).print∈(es.map tagged).map V.print:=List.mem_map_of_mem (List.mem_map_of_mem h);have h2:=a3V h1;rw[dI] at h2;simp at h2 ⊢;omega
theorem zI {x:Sc} (hx:ScOk x):∀ (n:Nat) (k:K),(stands x n k).length<=7+9*n:=by
 intro n;induction n with
 | zero=>intro k;cases k <;> simp[stands]
 | succ n ih =>
  intro k;cases k with
  | ref nm =>
   simp only[stands];cases ht:x.find nm with
   | none=>simp
   | some t =>
    dsimp only;split
    ·simp;omega
    ·cases hf:t.fields with
     | nil=>simp
     | cons f fs =>
      dsimp only;have hfo:=(hx.tys t (aY ht).1).fds f (by rw[hf];simp);have hd:(dec f.tag).length<=3:=eE f.tag 2 (by have:=hfo.tag2;omega);have:=ih f.kind;split
      ·simp;omega
      ·simp;omega
  | _=>simp[stands] <;> omega
theorem mH {x:Sc} (hx:ScOk x) {t:Ty} (ht:t∈x) {f:Fd} (hf:f∈t.fields):(aH x f).length<=88:=by
 unfold aH;by_cases hg:f.given=[]
 ·rw[if_pos hg]
  exact zI hx 9 f.kind
 ·rw[if_neg hg]
  have h:=(((hx.tys t ht).fds f hf).given hg).2;cases hk:f.kind with
  | num =>
   rw[hk] at h;simp only[stOk] at h;cases hp:aF f.given 999999 with
   | none=>rw[hp] at h;simp at h
   | some m =>
    obtain⟨h1,h2,_⟩:=dC hp;rw[h1];have:=cA h2;omega
  | txt =>
   rw[hk] at h;simp only[stOk,Bool.and_eq_true] at h;obtain⟨b,hb,_,hl⟩:=eM.1 h.1;rw[hb];simp;omega
  | flag=>rw[hk] at h;simp only[stOk,decide_eq_true_eq] at h;rw[h];simp
  | ref n=>rw[hk] at h;simp[stOk] at h
  | list k=>rw[hk] at h;simp[stOk] at h
  | opt k=>rw[hk] at h;simp[stOk] at h
theorem uC {x:Sc} (hx:ScOk x) {t:Ty} (ht:t∈x) (hs:t.sort≠69) {f:Fd} (hf:f∈t.fields):∃ o,valIn x f.kind (aH x f)=some o/\o.print=aH x f:=by
 obtain⟨o,h1,h2⟩:=a8C hx ht hs hf;have hd:=(eV _ _ _ h1).2;have hl:=mH hx ht hf;have:=jW h1 (by omega) (by rw[h2];omega);rw[h2] at this;exact⟨o,this,h2⟩
theorem fZ {x:Sc} {nm:Bs} {t:Ty} {es:List (Fd × V)} {g:Int} (ht:x.find nm=some t) (h82:t.sort=82):dE x (.ref nm) (recV es) g=(t.cU g).map fun f=>getEs x es f:=by
 have hr:recTy x (.ref nm)=some t:=by simp only[recTy,ht,Option.bind_some,if_pos h82]
 unfold dE bH;rw[hr];simp only[Option.bind_some,V.kids,a3S]
theorem gW {x:Sc} {nm:Bs} {t:Ty} {es:List (Fd × V)} {g:Int} {s:Bs} (ht:x.find nm=some t) (h82:t.sort=82):bU x (.ref nm) (recV es) g s=(t.cU g).bind fun f=>(valIn x f.kind s).bind fun y=>if (recV (aP x es f y)).print.length<=400/\(recV (aP x es f y)).deep<=12 then some (recV (aP x es f y)).print else none:=by
 have hr:recTy x (.ref nm)=some t:=by simp only[recTy,ht,Option.bind_some,if_pos h82]
 unfold bU bH;rw[hr];simp only[Option.bind_some,V.kids,zY]
theorem rO {x:Sc} (hx:ScOk x) {nm:Bs} {t:Ty} {es:List (Fd × V)} {g:Int} {f:Fd} {n:Nat} (ht:x.find nm=some t) (h82:t.sort=82) (hf:t.cU g=some f) (hes:dG x t n es) (hn:n<=12) (hl:(recV es).print.length<=400) :
  ∃ o,valIn x f.kind (getEs x es f)=some o/\o.print=getEs x es f/\mY x es f o:=by
 obtain⟨h1,h2,h3⟩:=dX hf;have htm:=(aY ht).1;have h69:t.sort≠69:=by rw[h82];decide
 unfold getEs;cases he:es.find? (fun e=>e.1.tag==f.tag) with
 | none =>
  obtain⟨o,h4,h5⟩:=uC hx htm h69 h1;refine⟨o,h4,h5,.inr ⟨fun e hm=>?_,h5⟩⟩;rw[List.find?_eq_none] at he;simpa using he e hm
 | some e =>
  have hm:=List.mem_of_find?_eq_some he;have hq:e.1.tag=f.tag:=by simpa using List.find?_some he
  obtain⟨_,k2,_,k4,k5⟩:=hes.2 e hm;rw[hq,h3] at k2;have hef:=Option.some.inj k2;obtain⟨e1,e2⟩:=e;dsimp only at hef k4 k5 ⊢;subst hef;have hd:=(eV _ _ _ k4).2;have hp:=nX hm;dsimp only at hp;exact⟨e2,jW k4 (by omega) (by omega),rfl,.inl ⟨hm,k5⟩⟩
theorem iJ {x:Sc} (hx:ScOk x) {nm:Bs} {t:Ty} {es:List (Fd × V)} {g:Int} {b r:Bs} (ht:x.find nm=some t) (h82:t.sort=82) (hes:dG x t 11 es) (h:bU x (.ref nm) (recV es) g b=some r) :
  ∃ f y,t.cU g=some f/\valIn x f.kind b=some y/\r=(recV (aP x es f y)).print/\dG x t 11 (aP x es f y)/\r.length<=400/\valIn x (.ref nm) r=some (recV (aP x es f y)):=by
 rw[gW ht h82] at h;cases hf:t.cU g with
 | none=>rw[hf] at h;cases h
 | some f =>
  rw[hf] at h;simp only[Option.bind_some] at h;cases hy:valIn x f.kind b with
  | none=>rw[hy] at h;cases h
  | some y =>
   rw[hy] at h;simp only[Option.bind_some] at h;split at h
   ·rename_i hc
    cases h;obtain⟨hyt,hyp,_⟩:=cY hy;obtain⟨h1,h2,h3⟩:=dX hf;have hfo:=(hx.tys t (aY ht).1).fds f h1;have hes12:dG x t 12 es:=⟨hes.1,fun e he=>by obtain⟨a,b,c,d,e'⟩:=hes.2 e he;exact⟨a,b,c,fH _ _ _ d 12 (by omega),e'⟩⟩;have hset:=lJ hes12 hfo.tag1 hfo.tag2 h3 hyt;have h12:=lM _ _ _ (iB hset ht h82) 12 hc.2;refine⟨f,y,rfl,hy,rfl,⟨hset.1,fun e he=>?_⟩,hc.1,jW h12 hc.2 hc.1⟩;obtain⟨a,b,c,d,e'⟩:=hset.2 e he;refine⟨a,b,c,lM _ _ _ d 11 ?_,e'⟩;have hdd:=hc.2;rw[recV,fJ (by decide)] at hdd;have hall:=V.eS.1 (Nat.le_of_succ_le_succ hdd) (tagged e) (List.mem_map_of_mem he);rw[show tagged e=.mk 61 [] e.1.tag [e.2] from rfl,fD] at hall;exact hall
   ·cases h
theorem rM {x:Sc} {k:K} {s:Bs} {v:V} {g:Int} {b r:Bs} (hv:valIn x k s=some v) (h:bU x k v g b=some r) :
  ∃ nm t es,k=.ref nm/\x.find nm=some t/\t.sort=82/\dG x t 11 es/\v=recV es:=by
 obtain⟨hty,hs,hsl⟩:=cY hv;unfold bU at h;cases hfd:bH x k g with
 | none=>rw[hfd] at h;cases h
 | some f =>
  obtain⟨nm,t,rfl,ht,h82,hf⟩:=iS hfd;obtain⟨es,hes,rfl⟩:=iI hty ht h82;exact⟨nm,t,es,rfl,ht,h82,hes,rfl⟩
theorem a8G {x:Sc} (hx:ScOk x) {k:K} {s:Bs} {v:V} {g:Int} {b:Bs} (hv:valIn x k s=some v) (h:dE x k v g=some b) :
  ∃ nm t f,k=.ref nm/\x.find nm=some t/\t.sort=82/\t.cU g=some f/\(valIn x f.kind b).isSome=true/\bU x k v g b=some s:=by
 obtain⟨hty,hs,hsl⟩:=cY hv;have h0:=h;unfold dE at h;cases hfd:bH x k g with
 | none=>rw[hfd] at h;cases h
 | some f =>
  obtain⟨nm,t,rfl,ht,h82,hf⟩:=iS hfd;obtain⟨es,hes,rfl⟩:=iI hty ht h82;rw[fZ ht h82,hf] at h0;cases h0;obtain⟨o,ho1,ho2,ho3⟩:=rO hx ht h82 hf hes (by omega) (by rw[<-hs];exact hsl);refine⟨nm,t,f,rfl,ht,h82,hf,by rw[ho1];rfl,?_⟩;rw[gW ht h82,hf];simp only[Option.bind_some,ho1];rw[a8V hes.1 ho3,if_pos ⟨by rw[<-hs];exact hsl,(eV _ _ _ hty).2⟩,<-hs]
theorem qR {x:Sc} (hx:ScOk x) {k:K} {s:Bs} {v:V} {g:Int} {b r:Bs} (hv:valIn x k s=some v) (h:bU x k v g b=some r) :
  ∃ u,valIn x k r=some u/\dE x k u g=some b/\(∃ o,dE x k v g=some o/\bU x k u g o=some s)/\∀ d:Int,d≠g->dE x k v d=dE x k u d:=by
 obtain⟨nm,t,es,rfl,ht,h82,hes,rfl⟩:=rM hv h;obtain⟨f,y,hf,hy,hr,hset,hrl,hin⟩:=iJ hx ht h82 hes h;obtain⟨hty,hs,hsl⟩:=cY hv;obtain⟨hyt,hyp,_⟩:=cY hy;obtain⟨o,ho1,ho2,ho3⟩:=rO hx ht h82 hf hes (by omega) (by rw[<-hs];exact hsl);refine⟨_,hin,?_,⟨getEs x es f,?_,?_⟩,fun d hd=>?_⟩
 ·rw[fZ ht h82,hf]
  simp only[Option.map_some];rw[a4U hes.1,hyp]
 ·rw[fZ ht h82,hf];rfl
 ·rw[gW ht h82,hf]
  simp only[Option.bind_some,ho1];rw[wR hes.1 ho3,if_pos ⟨by rw[<-hs];exact hsl,(eV _ _ _ hty).2⟩,<-hs]
 ·rw[fZ ht h82,fZ ht h82]
  cases hfd:t.cU d with
  | none=>rfl
  | some f2 =>
   simp only[Option.map_some];have h1:=(dX hf).2.1;have h2:=(dX hfd).2.1;rw[yT hes.1 (by omega)]
theorem a6F {x:Sc} (hx:ScOk x) {k:K} {s:Bs} {v u z:V} {g d:Int} {b c r y q w:Bs} (hv:valIn x k s=some v) (hgd:d≠g)
  (h1:bU x k v g b=some r) (hu:valIn x k r=some u) (h2:bU x k u d c=some y) (h3:bU x k v d c=some q) (hz:valIn x k q=some z) (h4:bU x k z g b=some w):y=w:=by
 obtain⟨nm,t,es,rfl,ht,h82,hes,rfl⟩:=rM hv h1;obtain⟨f,a1,hf,ha1,hr,hset,hrl,hin⟩:=iJ hx ht h82 hes h1;rw[hu] at hin;cases hin;obtain⟨f2,a2,hf2,ha2,hq,hset2,_,hin2⟩:=iJ hx ht h82 hes h3;rw[hz] at hin2;cases hin2;obtain⟨f3,a3,hf3,ha3,hy,_,_,_⟩:=iJ hx ht h82 hset h2;obtain⟨f4,a4,hf4,ha4,hw,_,_,_⟩:=iJ hx ht h82 hset2 h4;rw[hf2] at hf3;cases hf3;rw[hf] at hf4;cases hf4;rw[ha2] at ha3;cases ha3;rw[ha1] at ha4;cases ha4;have e1:=(dX hf).2.1;have e2:=(dX hf2).2.1;rw[hy,hw,a5A hes.1 (by omega)]
end Wf

namespace Wf
def withL (o:Option (Fd × V)) (g:Int):Bool->List (Fd × V)->List (Fd × V)
 | done,[]=>if done then [] else o.toList
 | done,e::es=>(if done=false/\g<(e.1.tag:Int) then o.toList else [])++(if (e.1.tag:Int)≠g then [e] else [])++withL o g (done || decide (g<(e.1.tag:Int))) es
theorem uX (o:Option (Fd × V)) (g:Int):∀ (es:List (Fd × V)),withL o g true es=es.filter (fun e=>decide ((e.1.tag:Int)≠g)):=by
 intro es;induction es with
 | nil=>rfl
 | cons e es ih =>
  simp only[withL,Bool.true_or,ih,List.filter_cons];by_cases h:(e.1.tag:Int)=g
  ·simp[h]
  ·simp[h]
theorem nD (o:Option (Fd × V)) (g:Int):∀ (es:List (Fd × V)),Asc es->withL o g false es=es.filter (fun e=>decide ((e.1.tag:Int)<g))++o.toList++es.filter (fun e=>decide (g<(e.1.tag:Int))):=by
 intro es;induction es with
 | nil=>intro _;simp[withL]
 | cons e es ih =>
  intro h;simp only[Asc,List.map_cons] at h;obtain⟨h1,h2⟩:=List.pairwise_cons.1 h;have hall:∀ d,d∈es->e.1.tag<d.1.tag:=fun d hd=>h1 _ (List.mem_map_of_mem hd);simp only[withL,List.filter_cons,Bool.false_or];by_cases hg:g<(e.1.tag:Int)
  ·have hf1:es.filter (fun d=>decide ((d.1.tag:Int)<g))=[]:=by
    rw[List.filter_eq_nil_iff];intro d hd;have:=hall d hd;simp;omega
   have hf2:es.filter (fun d=>decide ((d.1.tag:Int)≠g))=es:=by
    rw[List.filter_eq_self];intro d hd;have:=hall d hd;simp;omega
   have hf3:es.filter (fun d=>decide (g<(d.1.tag:Int)))=es:=by
    rw[List.filter_eq_self];intro d hd;have:=hall d hd;simp;omega
   have hne:(e.1.tag:Int)≠g:=(by omega);have hnl:¬ (e.1.tag:Int)<g:=(by omega);simp only[hg,decide_true,uX,hf1,hf2,hf3,hne,hnl,decide_false];simp;rw[if_neg hne];rfl
  ·have hd:decide (g<(e.1.tag:Int))=false:=decide_eq_false hg
   rw[hd,ih h2];by_cases heq:(e.1.tag:Int)=g
   ·have hnl:¬ (e.1.tag:Int)<g:=by omega
    simp[hg,heq]
   ·have hlt:(e.1.tag:Int)<g:=by omega
    simp[hg,heq,hlt]
theorem a0T {x:Sc} {es:List (Fd × V)} {f:Fd} {y:V} (h:Asc es):withL (if y.print=aH x f then none else some (f,y)) (f.tag:Int) (decide (y.print=aH x f)) es=aP x es f y:=by
 have e1:es.filter (fun e=>decide ((e.1.tag:Int)<(f.tag:Int)))=es.filter (fun e=>decide (e.1.tag<f.tag)):=by
  congr 1;funext e;simp
 have e2:es.filter (fun e=>decide ((f.tag:Int)<(e.1.tag:Int)))=es.filter (fun e=>decide (f.tag<e.1.tag)):=by
  congr 1;funext e;simp
 unfold aP;by_cases hy:y.print=aH x f
 ·rw[if_pos hy,if_pos hy,decide_eq_true hy,uX]
  have hl:=nD none (f.tag:Int) es h;rw[e1,e2] at hl;rw[List.append_nil];have h3:∀ (l:List (Fd × V)),Asc l->l.filter (fun e=>decide ((e.1.tag:Int)≠(f.tag:Int)))=l.filter (fun e=>decide (e.1.tag<f.tag))++l.filter (fun e=>decide (f.tag<e.1.tag)):=by
   intro l hl;have a1:=nD none (f.tag:Int) l hl;have a2:∀ (b:Bool) (l:List (Fd × V)),withL none (f.tag:Int) b l=l.filter (fun e=>decide ((e.1.tag:Int)≠(f.tag:Int))):=by
    intro b l;induction l generalizing b with
    | nil=>cases b <;> rfl
    | cons e l ih =>
     simp only[withL,ih,List.filter_cons];by_cases h:(e.1.tag:Int)=(f.tag:Int) <;> simp[h]
   rw[a2] at a1;rw[a1];simp
  exact h3 es h
 ·rw[if_neg hy,if_neg hy,decide_eq_false hy,nD _ _ _ h,e1,e2]
  simp
end Wf

namespace Wf
def putL (o:Option (Fd × V)) (g:Int):Bool->List (Fd × V)->List (Fd × V)
 | done,[]=>if done then [] else o.toList
 | done,e::es=>(if done=false/\g<=(e.1.tag:Int) then o.toList else [])++(if (e.1.tag:Int)≠g then [e] else [])++putL o g (done || decide (g<=(e.1.tag:Int))) es
theorem a8Q (o:Option (Fd × V)) (g:Int):∀ (es:List (Fd × V)),putL o g true es=es.filter (fun e=>decide ((e.1.tag:Int)≠g)):=by
 intro es;induction es with
 | nil=>rfl
 | cons e es ih =>
  simp only[putL,Bool.true_or,ih,List.filter_cons];by_cases h:(e.1.tag:Int)=g
  ·simp[h]
  ·simp[h]
theorem yG (o:Option (Fd × V)) (g:Int):∀ (es:List (Fd × V)),Asc es->putL o g false es=es.filter (fun e=>decide ((e.1.tag:Int)<g))++o.toList++es.filter (fun e=>decide (g<(e.1.tag:Int))):=by
 intro es;induction es with
 | nil=>intro _;simp[putL]
 | cons e es ih =>
  intro h;simp only[Asc,List.map_cons] at h;obtain⟨h1,h2⟩:=List.pairwise_cons.1 h;have hall:∀ d,d∈es->e.1.tag<d.1.tag:=fun d hd=>h1 _ (List.mem_map_of_mem hd);simp only[putL,List.filter_cons,Bool.false_or];by_cases hg:g<=(e.1.tag:Int)
  ·have hf1:es.filter (fun d=>decide ((d.1.tag:Int)<g))=[]:=by
    rw[List.filter_eq_nil_iff];intro d hd;have:=hall d hd;simp;omega
   have hf2:es.filter (fun d=>decide ((d.1.tag:Int)≠g))=es:=by
    rw[List.filter_eq_self];intro d hd;have:=hall d hd;simp;omega
   have hf3:es.filter (fun d=>decide (g<(d.1.tag:Int)))=es:=by
    rw[List.filter_eq_self];intro d hd;have:=hall d hd;simp;omega
   have hnl:¬ (e.1.tag:Int)<g:=(by omega);simp only[hg,decide_true,a8Q,hf1,hf2,hf3,hnl,decide_false];by_cases heq:(e.1.tag:Int)=g
   ·simp[heq]
   ·have hlt:g<(e.1.tag:Int):=by omega
    simp[heq,hlt]
  ·have hd:decide (g<=(e.1.tag:Int))=false:=decide_eq_false hg
   rw[hd,ih h2];have hlt:(e.1.tag:Int)<g:=(by omega);have hne:(e.1.tag:Int)≠g:=(by omega);have hnl:¬ g<(e.1.tag:Int):=(by omega);simp[hg,hlt,hne,hnl]
theorem a5Q {x:Sc} {es:List (Fd × V)} {f:Fd} {y:V} (h:Asc es):putL (if y.print=aH x f then none else some (f,y)) (f.tag:Int) false es=aP x es f y:=by
 have e1:es.filter (fun e=>decide ((e.1.tag:Int)<(f.tag:Int)))=es.filter (fun e=>decide (e.1.tag<f.tag)):=by
  congr 1;funext e;simp
 have e2:es.filter (fun e=>decide ((f.tag:Int)<(e.1.tag:Int)))=es.filter (fun e=>decide (f.tag<e.1.tag)):=by
  congr 1;funext e;simp
 rw[yG _ _ _ h,e1,e2];unfold aP;by_cases hy:y.print=aH x f
 ·rw[if_pos hy,if_pos hy];rfl
 ·rw[if_neg hy,if_neg hy];rfl
theorem a1W {x:Sc} (hx:ScOk x) {nm:Bs} {t:Ty} {es:List (Fd × V)} {g:Int} {f:Fd} {s:Bs} {u:V} (ht:x.find nm=some t) (h82:t.sort=82) (hf:t.cU g=some f) (hes:dG x t 11 es) (hp:parse x 12 f.kind s=some (u,[])) :
  Typed x 13 (.ref nm) (recV (aP x es f u))/\bU x (.ref nm) (recV es) g s=if (valIn x (.ref nm) (recV (aP x es f u)).print).isSome then some (recV (aP x es f u)).print else none:=by
 obtain⟨hty,hs⟩:=dR _ _ _ _ _ hp;rw[List.append_nil] at hs;obtain⟨h1,h2,h3⟩:=dX hf;have hfo:=(hx.tys t (aY ht).1).fds f h1;have hes12:dG x t 12 es:=⟨hes.1,fun e he=>by obtain⟨a,b,c,d,e'⟩:=hes.2 e he;exact⟨a,b,c,fH _ _ _ d 12 (by omega),e'⟩⟩;have hset:=lJ hes12 hfo.tag1 hfo.tag2 h3 hty;have htyp:=iB hset ht h82;refine⟨htyp,?_⟩;rw[gW ht h82,hf];simp only[Option.bind_some];by_cases h400:s.length<=400
 ·have hv:valIn x f.kind s=some u:=by unfold valIn;rw[if_pos h400,hp]
  rw[hv];simp only[Option.bind_some];by_cases hc:(recV (aP x es f u)).print.length<=400/\(recV (aP x es f u)).deep<=12
  ·rw[if_pos hc,jW htyp hc.2 hc.1];rfl
  ·rw[if_neg hc,if_neg]
   intro h;obtain⟨v,hv⟩:=Option.isSome_iff_exists.1 h;obtain⟨a,b,c⟩:=cY hv;have h5:=a3Y htyp a b;exact hc ⟨c,by rw[h5];exact(eV _ _ _ a).2⟩
 ·rw[kP h400]
  simp only[Option.bind_none];rw[if_neg];intro h;obtain⟨v,hv⟩:=Option.isSome_iff_exists.1 h;obtain⟨a,b,c⟩:=cY hv;have hne:u.print≠aH x f:=by
   intro e;have:=mH hx (aY ht).1 h1;rw[<-e,<-hs] at this;omega
  have hm:(f,u)∈aP x es f u:=eD.2 (.inr ⟨hne,rfl⟩);have:=nX hm;dsimp only at this;rw[<-hs] at this;omega
theorem rL {x:Sc} {nm:Bs} {t:Ty} {es:List (Fd × V)} {g:Int} {f:Fd} {s:Bs} (ht:x.find nm=some t) (h82:t.sort=82) (hf:t.cU g=some f) (hp:∀ u,parse x 12 f.kind s≠some (u,[])):bU x (.ref nm) (recV es) g s=none:=by
 rw[gW ht h82,hf];simp only[Option.bind_some];have hv:valIn x f.kind s=none:=by
  unfold valIn;split
  ·cases hq:parse x 12 f.kind s with
   | none=>rfl
   | some y =>
    obtain⟨u,r⟩:=y;cases r with
    | nil=>exact absurd hq (hp u)
    | cons c r=>rfl
  ·rfl
 rw[hv];rfl
def psum (l:List Bs):Nat:=(l.map fun a=>a.length+1).sum
theorem oU (l m:List Bs):psum (l++m)=psum l+psum m:=by unfold psum;rw[List.map_append,List.sum_append]
theorem jL:∀ (l:List Bs),(commas l).length<=psum l/\psum l<=(commas l).length+1:=by
 intro l;induction l with
 | nil=>exact⟨Nat.le_refl _,Nat.le_succ _⟩
 | cons b l ih =>
  have h:psum (b::l)=b.length+1+psum l:=by unfold psum;rw[List.map_cons,List.sum_cons]
  cases l with
  | nil=>rw[h];simp[commas,psum]
  | cons c l =>
   rw[h];simp only[commas,List.length_append,List.length_cons];omega
theorem sK {α:Type} (p:α->Bool) (q:α->Bs):∀ (l:List α),psum ((l.filter p).map q)<=psum (l.map q):=by
 intro l;induction l with
 | nil=>exact Nat.le_refl _
 | cons a l ih =>
  have h:∀ b (m:List Bs),psum (b::m)=b.length+1+psum m:=fun b m=>by unfold psum;rw[List.map_cons,List.sum_cons]
  rw[List.filter_cons];split
  ·rw[List.map_cons,List.map_cons,h,h];omega
  ·rw[List.map_cons,h];omega
theorem qP {x:Sc} {es:List (Fd × V)} {f:Fd} {u:V} (hf:f.tag<=200):(recV (aP x es f u)).print.length<=2*(recV es).print.length+u.print.length+10:=by
 have hp:∀ (l:List (Fd × V)),(recV l).print.length=2+(commas (l.map fun e=>(tagged e).print)).length:=by
  intro l;rw[recV,dB,List.map_map];simp only[List.length_cons,List.length_append,List.length_nil];show _=2+(commas (l.map (V.print ∘ tagged))).length;omega
 rw[hp,hp];have h1:=(jL ((aP x es f u).map fun e=>(tagged e).print)).1;have h2:=(jL (es.map fun e=>(tagged e).print)).2;unfold aP at h1 ⊢;rw[List.map_append,List.map_append,oU,oU] at h1;have h3:=sK (fun e:Fd × V=>decide (e.1.tag<f.tag)) (fun e=>(tagged e).print) es;have h4:=sK (fun e:Fd × V=>decide (f.tag<e.1.tag)) (fun e=>(tagged e).print) es;have hd:(dec f.tag).length<=3:=eE f.tag 2 (by omega);have h5:psum ((if u.print=aH x f then [] else [(f,u)]).map fun e=>(tagged e).print)<=u.print.length+5:=by
  split
  ·simp[psum]
  ·simp only[List.map_cons,List.map_nil,psum,List.sum_cons,List.sum_nil,dI,List.length_append,List.length_cons]
   omega
 rw[List.map_append,List.map_append];omega
end Wf

namespace Go.Proofs.YtmdacedmjbiekaaGreatDoor
open Go.ChangeShapes Go.WideShapes Go.ChangeAt Go.RowKit Go.Lib
structure PB (w wr:World) (vb base:Nat) (a:Option Addr) (c:Nat) (l:List Wf.V) (es:List (List Value)):Prop where
 fr:Below w.heap.size w wr
 vw:w.heap.size<=vb
 vlt:vb<base
 sz:base<=wr.heap.size
 v0:wr.cell? ⟨vb,0,none⟩=some (.int .u8 82)
 v1:wr.cell? ⟨vb,1,none⟩=some (tx [])
 v2:wr.cell? ⟨vb,2,none⟩=some (.int .i64 0)
 v3:wr.cell? ⟨vb,3,none⟩=some (.slice a es.length c)
 f3:wr.frozen? ⟨vb,3,none⟩=false
 own:wr.ownsRow base 92 4 (.slice a es.length c) es.length es.flatten
 he:∀ e∈es,e.length=4
 hl:es.length=l.length
 vals:∀ i (h1:i<es.length) (h2:i<l.length),VC wr (fun b=>b<w.heap.size\/(base<=b/\some b≠(Value.slice a es.length c).ownBlock)) l[i] es[i]
section
variable {w wr:World} {vb base:Nat} {a:Option Addr} {c:Nat} {l:List Wf.V} {es:List (List Value)}
theorem PB.step (h:PB w wr vb base a c l es) {q:Nat} {w2:World} (hb:aA q wr w2) (h1:w.heap.size<=q) (h2:q≠vb) (h3:q<base):PB w w2 vb base a c l es:=by
 have g1:=h.vw;have g2:=h.vlt;have g3:=h.sz;have hv:vb<wr.heap.size:=by omega
 have hn:vb≠q:=fun e=>h2 e.symm;exact⟨aA.below h.fr h.fr.size h1 hb,g1,g2,Nat.le_trans g3 hb.size,(hb.cell (p:=⟨vb,0,none⟩) hv hn).trans h.v0,(hb.cell (p:=⟨vb,1,none⟩) hv hn).trans h.v1,(hb.cell (p:=⟨vb,2,none⟩) hv hn).trans h.v2,(hb.cell (p:=⟨vb,3,none⟩) hv hn).trans h.v3,(hb.frozen (p:=⟨vb,3,none⟩) hv hn).trans h.f3,gX h.own hb (by omega),h.he,h.hl,
  fun i k1 k2=>VC.keep (fun b hp hlt=>⟨hp,hb.block b hlt (by rcases hp with hp|hp <;> omega)⟩) hb.size _ _ (h.vals i k1 k2)⟩
theorem PB.put2 (h:PB w wr vb base a c l es) {q:Nat} {wx w4 w5:World} (hx:aA q wr wx) (q1:w.heap.size<=q) (q2:q≠vb) (q3:q<base)
  (hg:wx.grownBy w4 (Value.slice a es.length c).ownBlock) {g c':Nat} (h5:aA g w4 w5) {cs:List Value} {v:Wf.V}
  (hvc:VC w5 (fun b=>b<w.heap.size\/(base<=b/\b≠g)) v cs)
  (ho:w5.ownsRow base 92 4 (.slice (some ⟨g,0,none⟩) (es.length+1) c') (es.length+1) (es.flatten++cs))
  (hat:(Value.slice a es.length c).ownBlock=some g\/g=wx.heap.size) :
  PB w (w5.setCell ⟨vb,3,none⟩ (.slice (some ⟨g,0,none⟩) (es.length+1) c')) vb base (some ⟨g,0,none⟩) c' (l++[v]) (es++[cs]):=by
 have hs:=h.step hx q1 q2 q3;have g1:=h.vw;have g2:=h.vlt;have g3:=hs.sz;have hlen:(es++[cs]).length=es.length+1:=by simp
 have hlo:=aL hs.own;have hown:∀ y,(Value.slice a es.length c).ownBlock=some y->base<=y/\y<wr.heap.size:=fun y hy=>aL h.own y hy;have hB4:Below base wx w4:=aU hg (fun y hy=>(hlo y hy).1) g3;have hB:Below base wx w5:=hB4.trans ⟨h5.os,h5.tape,h5.output,h5.size,fun k hk=>by
  by_cases hk2:k<w4.heap.size
  ·exact h5.block k hk2 (by have:=(aL ho g rfl).1;omega)
  ·have:=hB4.size;omega⟩
 have hss:(w5.setCell ⟨vb,3,none⟩ (.slice (some ⟨g,0,none⟩) (es.length+1) c')).heap.size=w5.heap.size:=by simp
 have hloc:(Value.slice (some ⟨g,0,none⟩) (es.length+1) c').ownBlock=(Value.slice a es.length c).ownBlock\/(Value.slice (some ⟨g,0,none⟩) (es.length+1) c').ownBlock=some wx.heap.size:=by
  rcases hat with hat|hat
  ·exact .inl hat.symm
  ·exact .inr (by rw[<-hat];rfl)
 have hkeep:∀ b,b<wx.heap.size->b≠vb->some b≠(Value.slice a es.length c).ownBlock->some b≠(Value.slice (some ⟨g,0,none⟩) (es.length+1) c').ownBlock/\(w5.setCell ⟨vb,3,none⟩ (.slice (some ⟨g,0,none⟩) (es.length+1) c')).heap[b]? = wx.heap[b]?:=fun b hb2 hbv hb3=>by
  obtain⟨e1,e2⟩:=eY hg hloc hb2 hb3;have hbg:b≠g:=fun e=>e2 (by rw[e];rfl);refine⟨e2,?_⟩;rw[Below.heap_setCell w5 ⟨vb,3,none⟩ _ _ (by show b≠vb;exact hbv),h5.block b (Nat.lt_of_lt_of_le hb2 hB4.size) hbg];exact e1
 have hnv:∀ b,b<w.heap.size->b≠vb/\some b≠(Value.slice a es.length c).ownBlock:=fun b hb=>⟨by omega,fun e=>by have:=(hown b e.symm).1;omega⟩;refine⟨?_,g1,g2,by rw[hss];exact Nat.le_trans g3 hB.size,?_,?_,?_,?_,?_,?_,?_,?_,?_⟩
 ·exact(hs.fr.trans (hB.mono (by omega))).setCell (by show w.heap.size<=vb;exact g1) _
 ·exact(World.cell?_setCell_other w5 _ _ _ (by simp)).trans ((hB.cell (p:=⟨vb,0,none⟩) g2).trans hs.v0)
 ·exact(World.cell?_setCell_other w5 _ _ _ (by simp)).trans ((hB.cell (p:=⟨vb,1,none⟩) g2).trans hs.v1)
 ·exact(World.cell?_setCell_other w5 _ _ _ (by simp)).trans ((hB.cell (p:=⟨vb,2,none⟩) g2).trans hs.v2)
 ·rw[hlen];exact World.cell?_setCell_same w5 _ _ ((hB.cell (p:=⟨vb,3,none⟩) g2).trans hs.v3)
 ·have:=(hB.frozen (p:=⟨vb,3,none⟩) g2).trans hs.f3
  simpa using this
 ·rw[hlen,List.flatten_append,List.flatten_cons,List.flatten_nil,List.append_nil]
  exact ownsRow_setCell_below ho g2 _
 ·intro e he
  rcases List.mem_append.1 he with he|he
  ·exact h.he e he
  ·rw[List.mem_singleton.1 he];exact hvc.len
 ·rw[hlen,List.length_append,h.hl];rfl
 ·intro i k1 k2
  rw[hlen];by_cases hi:i<es.length
  ·have hil:i<l.length:=by have:=h.hl;omega
   rw[List.getElem_append_left hi,List.getElem_append_left hil];refine VC.keep (fun b hp hlt=>?_) (by rw[hss];exact hB.size) _ _ (hs.vals i hi hil);rcases hp with hp|hp
   ·obtain⟨n1,n2⟩:=hnv b hp
    exact⟨.inl hp,(hkeep b hlt n1 n2).2⟩
   ·obtain⟨e1,e2⟩:=hkeep b hlt (by omega) hp.2
    exact⟨.inr ⟨hp.1,e1⟩,e2⟩
  ·have hie:i=es.length:=by simp at k1;omega
   subst hie;rw[List.getElem_append_right (Nat.le_refl _)];have e2:(l++[v])[es.length]'k2=v:=by
    rw[List.getElem_append_right (by rw[h.hl];exact Nat.le_refl _)];simp[h.hl]
   rw[e2];simp only[Nat.sub_self,List.getElem_cons_zero];refine VC.keep (fun b hp hlt=>?_) (by rw[hss];exact Nat.le_refl _) _ _ hvc;have hbv:b≠vb:=(by rcases hp with hp|hp <;> omega);refine⟨?_,Below.heap_setCell w5 ⟨vb,3,none⟩ _ _ (by show b≠vb;exact hbv)⟩;rcases hp with hp|hp
   ·exact .inl hp
   ·exact .inr ⟨hp.1,fun e=>hp.2 (Option.some.inj e)⟩
end
theorem set4 (xs:List Value) (k:Nat) (hk:xs.length=k) (z0 z1 z2 z3 c0 c1 c2 c3:Value):((((xs++[z0,z1,z2,z3]).set k c0).set (k+1) c1).set (k+2) c2).set (k+3) c3=xs++[c0,c1,c2,c3]:=by
 subst hk;rw[List.set_append_right _ _ (Nat.le_refl _),List.set_append_right _ _ (by omega),List.set_append_right _ _ (by omega),List.set_append_right _ _ (by omega)];simp
theorem a3Z {w4:World} {base:Nat} {T:TypeId} {g n cap k:Nat} {xs:List Value} {z0 z1 z2 z3:Value} (h:w4.ownsRow base T 4 (.slice (some ⟨g,0,none⟩) n cap) n (xs++[z0,z1,z2,z3])) (hk:xs.length=k) (c0 c1 c2 c3:Value) :
  ((((w4.setCell ⟨g,k,none⟩ c0).setCell ⟨g,k+1,none⟩ c1).setCell ⟨g,k+2,none⟩ c2).setCell ⟨g,k+3,none⟩ c3).ownsRow base T 4 (.slice (some ⟨g,0,none⟩) n cap) n (xs++[c0,c1,c2,c3]):=by
 have h1:=(h.stored k c0).1;have h2:=(h1.stored (k+1) c1).1;have h3:=(h2.stored (k+2) c2).1;have h4:=(h3.stored (k+3) c3).1;rw[set4 xs k hk] at h4;exact h4
theorem jR (w4:World) (g k:Nat) (c0 c1 c2 c3:Value):aA g w4 ((((w4.setCell ⟨g,k,none⟩ c0).setCell ⟨g,k+1,none⟩ c1).setCell ⟨g,k+2,none⟩ c2).setCell ⟨g,k+3,none⟩ c3)/\((((w4.setCell ⟨g,k,none⟩ c0).setCell ⟨g,k+1,none⟩ c1).setCell ⟨g,k+2,none⟩ c2).setCell ⟨g,k+3,none⟩ c3).heap.size=w4.heap.size :=
 ⟨(((aA.set g w4 k c0).trans (aA.set g _ (k+1) c1)).trans (aA.set g _ (k+2) c2)).trans (aA.set g _ (k+3) c3),by simp⟩

theorem fI (w:World) (b1 o1 b2 o2:Nat) (u v:Value) (h:b1≠b2\/o1≠o2):(w.setCell ⟨b1,o1,none⟩ u).setCell ⟨b2,o2,none⟩ v=(w.setCell ⟨b2,o2,none⟩ v).setCell ⟨b1,o1,none⟩ u:=by
 unfold World.setCell;congr 1
 apply Array.ext_getElem?;intro i;simp only[Array.getElem?_modify];by_cases h1:b1=i <;> by_cases h2:b2=i <;> simp_all;cases w.heap[i]? with
 | none=>rfl
 | some o=>cases o <;> simp[Array.setIfInBounds_comm _ _ h]
theorem row4 {w4:World} {base:Nat} {T:TypeId} {g m cap:Nat} {xs:List Value} {z0 z1 z2 z3:Value} (h:w4.ownsRow base T 4 (.slice (some ⟨g,0,none⟩) (m+1) cap) (m+1) (xs++[z0,z1,z2,z3])) (hk:xs.length=m*4) :
  (w4.cell? ⟨g,m*4,none⟩=some z0/\w4.cell? ⟨g,m*4+1,none⟩=some z1/\w4.cell? ⟨g,m*4+2,none⟩=some z2/\w4.cell? ⟨g,m*4+3,none⟩=some z3)/\∀ j,w4.frozen? ⟨g,j,none⟩=false:=by
 refine⟨⟨?_,?_,?_,?_⟩,fun j=>h.frozenAt j⟩
 ·rw[h.cellAt (m*4) (by omega),List.getElem?_append_right (by omega),hk];simp
 ·rw[h.cellAt (m*4+1) (by omega),List.getElem?_append_right (by omega),hk,Nat.add_sub_cancel_left];rfl
 ·rw[h.cellAt (m*4+2) (by omega),List.getElem?_append_right (by omega),hk,Nat.add_sub_cancel_left];rfl
 ·rw[h.cellAt (m*4+3) (by omega),List.getElem?_append_right (by omega),hk,Nat.add_sub_cancel_left];rfl
theorem nS {es:List (List Value)} (h:∀ e∈es,e.length=4) {m:Nat} (hm:es.length=m):es.flatten.length=m*4:=by
 rw[zU 4 es h,hm]
abbrev zObj:Obj:=.cells #[.int .u8 0,.string ⟨#[]⟩,.int .i64 0,.slice none 0 0] 92
abbrev vObj (q2:Nat) (T2:ByteArray) (g2:Nat) (a2:Option Addr) (n2 c2:Nat):Obj:=.cells #[.int .u8 q2,.string T2,.int .i64 g2,.slice a2 n2 c2] 92
theorem app_below4 {wr wx w4:World} {base m c:Nat} {a:Option Addr} {xs:List Value} {T:TypeId} {k:Nat} (hb:base<=wr.heap.size) (ho:wr.ownsRow base T k (.slice a m c) m xs) (hx:Below wr.heap.size wr wx) (hg:wx.grownBy w4 (Value.slice a m c).ownBlock):Below base wr w4 :=
 (hx.mono hb).trans (aU hg (fun g h=>(aL ho g h).1) (Nat.le_trans hb hx.size))
theorem tD {ops:Array Oper} {o:Oper} {act:Act} {K:Act->World->Prop} {Q:Exit->Act->World->Prop} {E:Prop} {wr wx:World} {base m c:Nat} {a:Option Addr} {es:List (List Value)} (s x:Operand) (hgd:o.guard=none) (ho:o.op=.call { callee:=.builtin .append,args:=#[s,x],argTypes:=#[90,90] })
  (hb:base<=wr.heap.size) (hown:wr.ownsRow base 92 4 (.slice a m c) m es.flatten) (hm1:m<=1000) (hfl:es.flatten.length=m*4) (hx:Below wr.heap.size wr wx) {zb:Nat} (hz:wx.heap[zb]? = some zObj) (hs:act.eval s=.slice a m c) (hx2:act.eval x=.slice (some ⟨zb,0,none⟩) 1 1)
  (h:∀ g cap w4,w4.ownsRow base 92 4 (.slice (some ⟨g,0,none⟩) (m+1) cap) (m+1) (es.flatten++[.int .u8 0,tx [],.int .i64 0,.slice none 0 0])->wx.grownBy w4 (Value.slice a m c).ownBlock->((Value.slice a m c).ownBlock=some g\/g=wx.heap.size) ->
   (w4.cell? ⟨g,m*4,none⟩=some (.int .u8 0)/\w4.cell? ⟨g,m*4+1,none⟩=some (.string ⟨#[]⟩)/\w4.cell? ⟨g,m*4+2,none⟩=some (.int .i64 0)/\w4.cell? ⟨g,m*4+3,none⟩=some (.slice none 0 0))->(∀ j,w4.frozen? ⟨g,j,none⟩=false)->Below base wr w4->base<=g->g<w4.heap.size->K (act.put o.dst (.slice (some ⟨g,0,none⟩) (m+1) cap)) w4) :
  if Region.wanted o (yielded ops act.tmps)=true then Oper.wp Tryz.prog o act wx K Q else E:=by
 obtain⟨i0,hi0,hz0,hz1,hz2⟩:=info_parts lH;have hwx:=cE hown hx;refine step_append_lies wx hgd s x 90 ho base 92 i0 (.agg #[.int .u8 0,tx [],.int .i64 0,.slice none 0 0]) 4 56 Tryz.underlying90 hi0 hz0 hz1 hz2 rfl (by decide) (.slice a m c) m _ hs hwx ⟨zb,0,none⟩ 1 1 [.int .u8 0,tx [],.int .i64 0,.slice none 0 0] hx2 rfl (World.news_of_block hz) (iT 0 0 0 0 ⟨#[]⟩ none) (by decide) (by unfold maxLen;omega) (by omega) (Nat.le_trans hb hx.size) _ rfl fun g cap w4 h1 h2 h3 h4=>?_;obtain⟨r,rf⟩:=row4 h1 hfl;exact h g cap w4 h1 h2 h3 r rf (app_below4 hb hown hx h2) (aL h1 g rfl).1 h4
theorem PB.zput {w wr:World} {vb base:Nat} {a:Option Addr} {c:Nat} {l:List Wf.V} {es:List (List Value)} (h:PB w wr vb base a c l es) {m:Nat} (hm:es.length=m) {q:Nat} (q1:w.heap.size<=q) (q2:q≠vb) (q3:q<base) {wx w4 w5:World} (hx:Below wr.heap.size wr wx)
  (hg:wx.grownBy w4 (Value.slice a m c).ownBlock) {g cap:Nat} (ho:w4.ownsRow base 92 4 (.slice (some ⟨g,0,none⟩) (m+1) cap) (m+1) (es.flatten++[.int .u8 0,tx [],.int .i64 0,.slice none 0 0])) (hat:(Value.slice a m c).ownBlock=some g\/g=wx.heap.size)
  (h5:Below w4.heap.size w4 w5) {c0 c1 c2 c3:Value} {v:Wf.V} (hvc:VC w5 (fun b=>b<w.heap.size\/(base<=b/\b≠g)) v [c0,c1,c2,c3]) :
  PB w (((((w5.setCell ⟨g,m*4,none⟩ c0).setCell ⟨g,m*4+1,none⟩ c1).setCell ⟨g,m*4+2,none⟩ c2).setCell ⟨g,m*4+3,none⟩ c3).setCell ⟨vb,3,none⟩ (.slice (some ⟨g,0,none⟩) (m+1) cap)) vb base (some ⟨g,0,none⟩) cap (l++[v]) (es++[[c0,c1,c2,c3]]):=by
 subst hm;have hb5:=jR w5 g (es.length*4) c0 c1 c2 c3;have hgb:=(aL ho g rfl).1;have hvw:=h.vw;have hvl:=h.vlt;refine h.put2 (aA.aI hx (Nat.le_refl _)) q1 q2 q3 hg ((aA.aI h5 (Nat.le_refl _)).trans hb5.1) (VC.keep (fun b hp hlt=>⟨hp,hb5.1.block b hlt ?_⟩) hb5.1.size _ _ hvc) (a3Z (cE ho h5) (nS h.he rfl) c0 c1 c2 c3) hat;rcases hp with hp|hp
 ·omega
 ·exact hp.2
section
variable (tb db vb fx xb:Nat) (wr:World)
theorem a7Z (told done:Bool) (h:(told && !done)=false) (c0:wr.cell? ⟨tb,0,none⟩=some (.bool told)) (c1:wr.cell? ⟨db,0,none⟩=some (.bool done)) (f1:wr.frozen? ⟨db,0,none⟩=false) (ht:tb<wr.heap.size) (hd:db<wr.heap.size) :
  Calls Tryz.prog 99 #[ptr tb,ptr db,ptr vb,ptr fx,ptr xb] wr fun e w'=>e=.returned (.tuple #[])/\w'=wr.setCell ⟨db,0,none⟩ (.bool true):=by
 cases told <;> cases done;all_goals first|exact absurd h (by decide)|(go_enter Tryz.func99,Tryz.ntmps99;go_wp2_with fail;go_end0;exact⟨rfl,rfl⟩)
end
