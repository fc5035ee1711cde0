/- Packed. -/
import Derived.Test.YtidjpalnmnehmaaGreatDoorK24
set_option maxRecDepth 99999
set_option maxHeartbeats 40000000
set_option linter.all false
namespace Go.Proofs.YtidjpalnmnehmaaGreatDoor
open Go.ChangeShapes Go.WideShapes Go.ChangeAt Go.RowKit Go.Lib
theorem oW (SG S1 BS NM:ByteArray) (c:UInt8) (h:SG=⟨(c::S1.data.toList).toArray⟩) (w:World):Calls Tryz.prog 96 #[.agg #[.string SG,.string BS,.string NM]] w fun e w'=>e=.returned (.agg #[.string S1,.string BS,.string NM])/\Below w.heap.size w w':=by
 have h1:1<=SG.size:=by
  rw[h];show 1<=(c::S1.data.toList).toArray.size;simp
 have h2:SG.extract 1 SG.size=S1:=by
  apply ByteArray.ext;rw[ByteArray.data_extract,h];show(c::S1.data.toList).toArray.extract 1 (c::S1.data.toList).toArray.size=S1.data;simp;have hz:S1.size=S1.data.toList.length:=rfl;rw[hz,List.take_length]
 clear h;go_enter Tryz.func96,Tryz.ntmps96;go_wp2_with fail
 exact zbD (v:=.agg #[.string S1,.string BS,.string NM]) (by simp[results,Tryz.results96,go_sem, *]) rfl ⟨rfl,((zaB).alloc (zaA) _).alloc (by simp) _⟩
theorem mS (k:Wf.K) (w:World):Calls Tryz.prog 96 #[kV (.list k)] w fun e w'=>e=.returned (kV k)/\Below w.heap.size w w' :=
 oW _ ⟨k.signs.toArray⟩ _ _ 91 rfl w
theorem kO (k:Wf.K) (w:World):Calls Tryz.prog 96 #[kV (.opt k)] w fun e w'=>e=.returned (kV k)/\Below w.heap.size w w' :=
 oW _ ⟨k.signs.toArray⟩ _ _ 63 rfl w
theorem sY (x:Wf.Sc) (rb sb:Nat) (W:World) (n:Nat) (k:Wf.K) (s:List UInt8) (w:World) (hW:Below W.heap.size W w) (hWr:W.heap.size<=rb) (IH:Reads x rb sb W n k) (hn:s.length<n+1) (h400:s.length<=400) (H:Sn w rb sb s false):Calls Tryz.prog 74 #[ptr rb,kV (.list k)] w fun e w'=>aP (Wf.parse x (n+1) (.list k) s) s rb sb w e w':=by
 have hrb:=H.lt;have c2:=H.c2;have HH:=hid H;have HW:=hid hW;have HLS:=hid fun(w2:World) (hb:Below W.heap.size W w2) (h:Sn w2 rb sb s false)=>zT x rb sb W n k s w2 hb hWr IH hn h400 h;have HPT:=hid fun w2=>mS k w2;have HSG:=hid fun w2=>sign (.list k) w2;obtain⟨SG,hSG⟩:∃ SG:ByteArray,(⟨(Wf.K.list k).signs.toArray⟩:ByteArray)=SG:=⟨_,rfl⟩;obtain⟨BS,hBS⟩:∃ BS:ByteArray,(⟨(Wf.K.list k).base.toArray⟩:ByteArray)=BS:=⟨_,rfl⟩;obtain⟨NM,hNM⟩:∃ NM:ByteArray,(⟨(Wf.K.list k).name.toArray⟩:ByteArray)=NM:=⟨_,rfl⟩;have hkv:kV (.list k)=.agg #[.string SG,.string BS,.string NM]:=by simp only[kV,tx,hSG,hBS,hNM]
 rw[hkv] at HPT HSG;rw[hkv];have hsn:bX (.list k)=91:=rfl;rw[hsn] at HSG;have ST:=hid fun W1 h=>eI w SG BS NM W1 h;clear H hW IH hSG hBS hNM hkv hsn;go_enter Tryz.func74,Tryz.ntmps74;go_wp2_with (first|(go_at_call 111;refine(HLS.out _ BW2.out S2.out).mono ?_;rintro e w3 ⟨cs,v,r,rfl,hvc,hb3,ho⟩;obtain⟨q2,g2,n2,c2,T2,a2,rfl⟩:=hvc.aY;have HVC:=hid hvc;have HO:=hid ho;have HB3:=hid (HB2.out.trans hb3);have Z3:=hid (Z2.out.step hb3 (by omega));obtain⟨zl,zr0,zr1,zr2,zr3,zf0,zf1,zf2,zf3⟩:=Z3.out;clear hvc ho hb3)|(go_at_call 96;refine(HPT.out _).mono ?_;rintro e w2 ⟨rfl,hb2⟩;have S2:=hid (S1.out.below hb2);have HB2:=hid (HB1.out.trans (aA.aF hb2 (zaA)));have Z2:=hid (Z1.out.below hb2 Z1.out.lt);have BW2:=hid (aA.below HW.out HW.out.size hWr HB2.out);have hsz2:=zaC Z1.out.lt hb2.size;clear hb2)|(go_at_call 95;obtain⟨d0,d1,d2,z0,b0⟩:=ST.out _ rfl;refine(HSG.out _).mono ?_;rintro e w1 ⟨rfl,hb1⟩;have b01:=aC b0 hb1;have hz:=zaC (zaH _) (Nat.le_of_lt z0.lt);have e0:=(hb1.cell (p:=⟨w.heap.size,0,none⟩) hz).trans d0;have e1:=(hb1.cell (p:=⟨w.heap.size,1,none⟩) hz).trans d1;have e2:=(hb1.cell (p:=⟨w.heap.size,2,none⟩) hz).trans d2;have S1:=hid (HH.out.below b01);have HB1:=hid (aA.aF (rb:=rb) b01 (zaA));have Z1:=hid (z0.below hb1 z0.lt);clear hb1 b01 b0 d0 d1 d2 z0 hz))
 all_goals exact zbD (v:=.agg #[.int .u8 q2,.string T2,.int .i64 g2,.slice a2 n2 c2]) (by simp[results,Tryz.results74,go_sem, *]) rfl (by
  have hR:∀ W4,aA (w.heap.size+1) w3 W4->aP (Wf.parse x (n+1) (.list k) s) s rb sb w (.returned (.agg #[.int .u8 q2,.string T2,.int .i64 g2,.slice a2 n2 c2])) W4:=fun W4 hb=>by
   refine⟨[.int .u8 q2,.string T2,.int .i64 g2,.slice a2 n2 c2],v,r,rfl,VC.keep (P:=fun b=>w2.heap.size<=b) (fun b hp hlt=>⟨by omega,hb.block b hlt (by omega)⟩) hb.size _ _ HVC.out,HB3.out.on hb (by omega),?_⟩;rcases HO.out with⟨hp,sn⟩|⟨hp,hbv,sn⟩
   ·exact .inl ⟨hp,sn.beside hb (by omega)⟩
   ·exact .inr ⟨hp,hbv,sn.beside hb (by omega)⟩
  refine hR _ ?_;repeat (first|with_reducible exact aA.refl _ _|with_reducible refine aA.drew ?_|with_reducible refine aA.trans ?_ (aA.set _ _ _ _)))
theorem a0G (x:Wf.Sc) (rb sb:Nat) (n:Nat) (k:Wf.K) (q:List UInt8) (w:World) (H:Sn w rb sb (45::q) false):Calls Tryz.prog 74 #[ptr rb,kV (.opt k)] w fun e w'=>aP (Wf.parse x (n+1) (.opt k) (45::q)) (45::q) rb sb w e w':=by
 have hrb:=H.lt;have c2:=H.c2;have HH:=hid H;have HP:=hid (Wf.pW x n k q);have HSG:=hid fun w2=>sign (.opt k) w2;obtain⟨SG,hSG⟩:∃ SG:ByteArray,(⟨(Wf.K.opt k).signs.toArray⟩:ByteArray)=SG:=⟨_,rfl⟩;obtain⟨BS,hBS⟩:∃ BS:ByteArray,(⟨(Wf.K.opt k).base.toArray⟩:ByteArray)=BS:=⟨_,rfl⟩;obtain⟨NM,hNM⟩:∃ NM:ByteArray,(⟨(Wf.K.opt k).name.toArray⟩:ByteArray)=NM:=⟨_,rfl⟩;have hkv:kV (.opt k)=.agg #[.string SG,.string BS,.string NM]:=by simp only[kV,tx,hSG,hBS,hNM]
 rw[hkv] at HSG;rw[hkv];have hsn:bX (.opt k)=63:=rfl;rw[hsn] at HSG;have ST:=hid fun W1 h=>eI w SG BS NM W1 h;clear H hSG hBS hNM hkv hsn;go_enter Tryz.func74,Tryz.ntmps74;go_wp2_with (first|(go_at_call 112;refine(eY rb sb _ [45] q S1.out).mono ?_;rintro e w3 ⟨rfl,hs3,hb3⟩;have S3:=hid hs3;have HB3:=hid (HB1.out.trans hb3);have Z3:=hid (Z1.out.step hb3 (by omega));obtain⟨zl,zr0,zr1,zr2,zr3,zf0,zf1,zf2,zf3⟩:=Z3.out;clear hs3 hb3)|(go_at_call 95;obtain⟨d0,d1,d2,z0,b0⟩:=ST.out _ rfl;refine(HSG.out _).mono ?_;rintro e w1 ⟨rfl,hb1⟩;have b01:=aC b0 hb1;have S1:=hid (HH.out.below b01);have HB1:=hid (aA.aF (rb:=rb) b01 (zaA));have Z1:=hid (z0.below hb1 z0.lt);clear hb1 b01 b0 d0 d1 d2 z0))
 all_goals exact zbD (v:=.agg #[.int .u8 63,.string ⟨#[]⟩,.int .i64 (0:Nat),.slice none 0 0]) (by simp[results,Tryz.results74,go_sem, *]) rfl (by
  have hR:∀ W4,aA (w.heap.size+1) w3 W4->aP (Wf.parse x (n+1) (.opt k) (45::q)) (45::q) rb sb w (.returned (.agg #[.int .u8 63,.string ⟨#[]⟩,.int .i64 (0:Nat),.slice none 0 0])) W4:=fun W4 hb =>
   ⟨_,.mk 63 [] 0 [],q,rfl,VC.leaf 63 [] 0 (by omega) (by decide),HB3.out.on hb (by omega),.inl ⟨HP.out,S3.out.beside hb (by omega)⟩⟩
  refine hR _ ?_;repeat (first|with_reducible exact aA.refl _ _|with_reducible refine aA.drew ?_|with_reducible refine aA.trans ?_ (aA.set _ _ _ _)))
theorem a3E (x:Wf.Sc) (rb sb:Nat) (W:World) (n:Nat) (k:Wf.K) (r:List UInt8) (w:World) (hW:Below W.heap.size W w) (hWr:W.heap.size<=rb) (IH:Reads x rb sb W n k) (hn:r.length<n) (h400:r.length<=400) (H:Sn w rb sb (43::r) false):Calls Tryz.prog 74 #[ptr rb,kV (.opt k)] w fun e w'=>aP (Wf.parse x (n+1) (.opt k) (43::r)) (43::r) rb sb w e w':=by
 have hrb:=H.lt;have c2:=H.c2;have HH:=hid H;have HW:=hid hW;have HP:=hid (Wf.nM x n k r);have HIH:=hid IH;have HPT:=hid fun w2=>kO k w2;have HSG:=hid fun w2=>sign (.opt k) w2;obtain⟨SG,hSG⟩:∃ SG:ByteArray,(⟨(Wf.K.opt k).signs.toArray⟩:ByteArray)=SG:=⟨_,rfl⟩;obtain⟨BS,hBS⟩:∃ BS:ByteArray,(⟨(Wf.K.opt k).base.toArray⟩:ByteArray)=BS:=⟨_,rfl⟩;obtain⟨NM,hNM⟩:∃ NM:ByteArray,(⟨(Wf.K.opt k).name.toArray⟩:ByteArray)=NM:=⟨_,rfl⟩;have hkv:kV (.opt k)=.agg #[.string SG,.string BS,.string NM]:=by simp only[kV,tx,hSG,hBS,hNM]
 rw[hkv] at HSG HPT;rw[hkv];have hsn:bX (.opt k)=63:=rfl;rw[hsn] at HSG;have ST:=hid fun W1 h=>eI w SG BS NM W1 h;clear H hW IH hSG hBS hNM hkv hsn;go_enter Tryz.func74,Tryz.ntmps74;go_wp2_with (first|(go_at_call 74;refine(HIH.out r _ BW4.out S4.out hn h400).mono ?_;rintro e w5 ⟨cs,v,r5,rfl,hvc,hb5,ho⟩;obtain⟨q2,g2,n2,c2,T2,a2,rfl⟩:=hvc.aY;have HVC:=hid hvc;have HO:=hid ho;have HB5:=hid (HB4.out.trans hb5);have Z5:=hid (Z4.out.step hb5 (by omega));obtain⟨zl,zr0,zr1,zr2,zr3,zf0,zf1,zf2,zf3⟩:=Z5.out;clear hvc ho hb5)|(go_at_call 96;refine(HPT.out _).mono ?_;rintro e w4 ⟨rfl,hb4⟩;have S4:=hid (S3.out.below hb4);have HB4:=hid (HB3.out.trans (aA.aF hb4 (zaA)));have Z4:=hid (Z3.out.below hb4 Z3.out.lt);have hz4:=Z4.out.lt;have BW4:=hid (aA.below HW.out HW.out.size hWr HB4.out);clear hb4)|(go_at_call 113;refine(bS rb sb _ [43] r S1.out).mono ?_;rintro e w3 ⟨rfl,hs3,hb3⟩;have S3:=hid hs3;have HB3:=hid (HB1.out.trans hb3);have Z3:=hid (Z1.out.step hb3 (by omega));have k0:=(hb3.cell (p:=⟨w.heap.size,0,none⟩) hz (by show w.heap.size≠rb;omega)).trans e0;have k1:=(hb3.cell (p:=⟨w.heap.size,1,none⟩) hz (by show w.heap.size≠rb;omega)).trans e1;have k2:=(hb3.cell (p:=⟨w.heap.size,2,none⟩) hz (by show w.heap.size≠rb;omega)).trans e2;clear hs3 hb3)|(go_at_call 112;refine(cR rb sb _ (43::r) [45] false S1.out (.inr (by rw[pre1];simp))).mono ?_;rintro e w2 ⟨rfl,rfl⟩)|(go_at_call 95;obtain⟨d0,d1,d2,z0,b0⟩:=ST.out _ rfl;refine(HSG.out _).mono ?_;rintro e w1 ⟨rfl,hb1⟩;have b01:=aC b0 hb1;have hz:=zaC (zaH _) (Nat.le_of_lt z0.lt);have e0:=(hb1.cell (p:=⟨w.heap.size,0,none⟩) hz).trans d0;have e1:=(hb1.cell (p:=⟨w.heap.size,1,none⟩) hz).trans d1;have e2:=(hb1.cell (p:=⟨w.heap.size,2,none⟩) hz).trans d2;have S1:=hid (HH.out.below b01);have HB1:=hid (aA.aF (rb:=rb) b01 (zaA));have Z1:=hid (z0.below hb1 z0.lt);have hz:=zaC hz hb1.size;clear hb1 b01 b0 d0 d1 d2 z0))
 all_goals exact zbD (v:=.agg #[.int .u8 63,.string ⟨#[]⟩,.int .i64 (0:Nat),.slice (some ⟨w5.heap.size,0,none⟩) 1 1]) (by simp[results,Tryz.results74,go_sem, *]) rfl (by
  have hR:∀ W4,aA (w.heap.size+1) w5 W4->w5.heap.size<W4.heap.size->(∀ j u,[Value.int .u8 q2,Value.string T2,Value.int .i64 g2,Value.slice a2 n2 c2][j]? = some u->W4.cell? ⟨w5.heap.size,0+j,none⟩=some u)->aP (Wf.parse x (n+1) (.opt k) (43::r)) (43::r) rb sb w (.returned (.agg #[.int .u8 63,.string ⟨#[]⟩,.int .i64 (0:Nat),.slice (some ⟨w5.heap.size,0,none⟩) 1 1])) W4:=fun W4 hb hl hc=>by
   refine⟨_,.mk 63 [] 0 [v],r5,rfl,VC.one (VC.keep (P:=fun b=>w4.heap.size<=b) (fun b hp hlt=>⟨by omega,hb.block b hlt (by omega)⟩) hb.size _ _ HVC.out) (by omega) hl hc 63 [] 0 ⟨by omega,fun _=>.inr (.inl rfl),fun h=>absurd h (by decide)⟩,HB5.out.on hb (by omega),?_⟩;rcases HO.out with⟨hp,sn⟩|⟨hp,hbv,sn⟩
   ·exact .inl ⟨by rw[HP.out,hp];rfl,sn.beside hb (by omega)⟩
   ·exact .inr ⟨by rw[HP.out,hp];rfl,Wf.vK rfl hbv,sn.beside hb (by omega)⟩
  refine hR _ ?_ ?_ ?_
  ·repeat (first|with_reducible exact aA.refl _ _|with_reducible refine aA.drew ?_|with_reducible refine aA.alloc ?_ _|with_reducible refine aA.trans ?_ (aA.set _ _ _ _))
  ·simp
  ·intro j u hu
   rcases j with _|_|_|_|j <;> simp at hu <;> subst hu <;> simp[go_sem])
theorem rD (x:Wf.Sc) (rb sb:Nat) (W:World) (n:Nat) (k:Wf.K) (r:List UInt8) (w:World) (h1:r.head? ≠ some 45) (h2:r.head? ≠ some 43) (hW:Below W.heap.size W w) (hWr:W.heap.size<=rb) (H:Sn w rb sb r false):Calls Tryz.prog 74 #[ptr rb,kV (.opt k)] w fun e w'=>aP (Wf.parse x (n+1) (.opt k) r) r rb sb w e w':=by
 have hrb:=H.lt;have c2:=H.c2;have HH:=hid H;have HW:=hid hW;have HP:=hid (Wf.nH x n k h1 h2);have HY:=hid (And.intro (fun hp=>h1 ((pre1 45 r).1 hp)) (fun hp=>h2 ((pre1 43 r).1 hp)));have HPT:=hid fun w2=>kO k w2;have HSG:=hid fun w2=>sign (.opt k) w2;obtain⟨SG,hSG⟩:∃ SG:ByteArray,(⟨(Wf.K.opt k).signs.toArray⟩:ByteArray)=SG:=⟨_,rfl⟩;obtain⟨BS,hBS⟩:∃ BS:ByteArray,(⟨(Wf.K.opt k).base.toArray⟩:ByteArray)=BS:=⟨_,rfl⟩;obtain⟨NM,hNM⟩:∃ NM:ByteArray,(⟨(Wf.K.opt k).name.toArray⟩:ByteArray)=NM:=⟨_,rfl⟩;have hkv:kV (.opt k)=.agg #[.string SG,.string BS,.string NM]:=by simp only[kV,tx,hSG,hBS,hNM]
 rw[hkv] at HSG HPT;rw[hkv];have hsn:bX (.opt k)=63:=rfl;rw[hsn] at HSG;have ST:=hid fun W1 h=>eI w SG BS NM W1 h;clear H hW h1 h2 hSG hBS hNM hkv hsn;go_enter Tryz.func74,Tryz.ntmps74;go_wp2_with (first|(go_at_call 74;refine(a3G rb sb r _ k S4.out).mono ?_;rintro e w5 ⟨rfl,hb5,ho⟩;have HO:=hid ho;have HB5:=hid (HB4.out.trans hb5);have Z5:=hid (Z4.out.step hb5 (by omega));obtain⟨zl,zr0,zr1,zr2,zr3,zf0,zf1,zf2,zf3⟩:=Z5.out;clear ho hb5)|(go_at_call 96;refine(HPT.out _).mono ?_;rintro e w4 ⟨rfl,hb4⟩;have S4:=hid (S3.out.below hb4);have HB4:=hid (HB3.out.trans (aA.aF hb4 (zaA)));have Z4:=hid (Z3.out.below hb4 Z3.out.lt);have hz4:=Z4.out.lt;have BW4:=hid (aA.below HW.out HW.out.size hWr HB4.out);clear hb4)|(go_at_call 113;refine(bQ rb sb _ r [43] false S1.out (.inr HY.out.2)).mono ?_;rintro e w3 ⟨rfl,hs3,hb3⟩;have S3:=hid hs3;have HB3:=hid (HB1.out.trans hb3);have Z3:=hid (Z1.out.step hb3 (by omega));have k0:=(hb3.cell (p:=⟨w.heap.size,0,none⟩) hz (by show w.heap.size≠rb;omega)).trans e0;have k1:=(hb3.cell (p:=⟨w.heap.size,1,none⟩) hz (by show w.heap.size≠rb;omega)).trans e1;have k2:=(hb3.cell (p:=⟨w.heap.size,2,none⟩) hz (by show w.heap.size≠rb;omega)).trans e2;clear hs3 hb3)|(go_at_call 112;refine(cR rb sb _ r [45] false S1.out (.inr HY.out.1)).mono ?_;rintro e w2 ⟨rfl,rfl⟩)|(go_at_call 95;obtain⟨d0,d1,d2,z0,b0⟩:=ST.out _ rfl;refine(HSG.out _).mono ?_;rintro e w1 ⟨rfl,hb1⟩;have b01:=aC b0 hb1;have hz:=zaC (zaH _) (Nat.le_of_lt z0.lt);have e0:=(hb1.cell (p:=⟨w.heap.size,0,none⟩) hz).trans d0;have e1:=(hb1.cell (p:=⟨w.heap.size,1,none⟩) hz).trans d1;have e2:=(hb1.cell (p:=⟨w.heap.size,2,none⟩) hz).trans d2;have S1:=hid (HH.out.below b01);have HB1:=hid (aA.aF (rb:=rb) b01 (zaA));have Z1:=hid (z0.below hb1 z0.lt);have hz:=zaC hz hb1.size;clear hb1 b01 b0 d0 d1 d2 z0))
 all_goals exact zbD (v:=.agg #[.int .u8 63,.string ⟨#[]⟩,.int .i64 (0:Nat),.slice (some ⟨w5.heap.size,0,none⟩) 1 1]) (by simp[results,Tryz.results74,go_sem, *]) rfl (by
  have hR:∀ W4,aA (w.heap.size+1) w5 W4->w5.heap.size<W4.heap.size->(∀ j u,[Value.int .u8 0,Value.string ⟨#[]⟩,Value.int .i64 (0:Nat),Value.slice none 0 0][j]? = some u->W4.cell? ⟨w5.heap.size,0+j,none⟩=some u)->aP (Wf.parse x (n+1) (.opt k) r) r rb sb w (.returned (.agg #[.int .u8 63,.string ⟨#[]⟩,.int .i64 (0:Nat),.slice (some ⟨w5.heap.size,0,none⟩) 1 1])) W4:=fun W4 hb hl hc=>by
   exact⟨_,.mk 63 [] 0 [.mk 0 [] 0 []],r,rfl,VC.one (VC.leaf 0 [] 0 (by omega) (by decide)) (by omega) hl hc 63 [] 0 ⟨by omega,fun _=>.inr (.inl rfl),fun h=>absurd h (by decide)⟩,HB5.out.on hb (by omega),.inr ⟨HP.out,Wf.vA,HO.out.beside hb (by omega)⟩⟩
  refine hR _ ?_ ?_ ?_
  ·repeat (first|with_reducible exact aA.refl _ _|with_reducible refine aA.drew ?_|with_reducible refine aA.alloc ?_ _|with_reducible refine aA.trans ?_ (aA.set _ _ _ _))
  ·simp
  ·intro j u hu
   rcases j with _|_|_|_|j <;> simp at hu <;> subst hu <;> simp[go_sem])

theorem jG (w:World) (rb q:Nat) (W1:World) (hW1:(w.alloc (.cells #[.int .u8 0,.string ⟨#[]⟩,.int .i64 0,.slice none 0 0] 51)).alloc (.cells #[.int .u8 q,.string ⟨#[]⟩,.int .i64 0,.slice none 0 0] 51)=W1) :
  Zero W1 w.heap.size/\Bld w W1 rb (w.heap.size+1) (w.heap.size+1+1) q none 0 [] []/\Below w.heap.size w W1:=by
 have hB:Below w.heap.size w W1:=by
  rw[<-hW1];exact(((zaB).alloc (zaA) _).alloc (by simp) _)
 subst hW1;refine⟨⟨?_,?_,?_,?_,?_,?_,?_,?_,?_⟩,⟨aA.aF hB (zaA),?_,?_,?_,?_,?_,?_,?_,?_,World.ownsRow_nil _ _ _ _,?_,rfl,?_⟩,hB⟩;all_goals first|(simp[go_sem];done)|(simp[go_sem];omega)|omega|(intro e he;simp at he)|(intro i h1;simp at h1)
section
variable (x:Wf.Sc) (rb sb:Nat) (W:World) (n:Nat) (t:Wf.Ty) (nm:List UInt8) (s:List UInt8) (w:World)
theorem rI (hf:x.find nm=some t) (lo tb:Nat) (hW:Below W.heap.size W w) (hT:TyL W lo tb t) (h82:t.sort=82) (H:Sn w rb sb s false) (h:s.head? ≠ some 123):Calls Tryz.prog 116 #[ptr rb,ptr tb] w fun e w'=>aP (Wf.parse x (n+1) (.ref nm) s) s rb sb w e w':=by
 have HP:=hid (Wf.oB x n hf h82 h);obtain⟨htb,c0⟩:=hT.sort;rw[h82] at c0;have y0:w.cell? ⟨tb,0,none⟩=some (.int .u8 82):=(hW.cell (p:=⟨tb,0,none⟩) htb).trans c0;have htw:tb<w.heap.size:=zaC htb hW.size;have htw1:tb<w.heap.size+1:=by omega
 have hrb:=H.lt;have HH:=hid H;have HN:=hid fun hp=>h ((pre1 123 s).1 hp);have ST:=hid fun W1 h=>jG w rb 82 W1 h;clear H h hW hT c0 h82 hf;go_enter Tryz.func116,Tryz.ntmps116;go_wp2_with (first|(go_at_call 112;have _u:=hS1;refine(cR rb sb _ s [125] true hS1.out (.inl rfl)).mono ?_;rintro e w2 ⟨rfl,rfl⟩)|(go_at_call 113;obtain⟨z0,bl0,b0⟩:=ST.out _ rfl;refine(bQ rb sb _ s [123] false (HH.out.below b0) (.inr HN.out)).mono ?_;rintro e w1 ⟨rfl,hs1,hb1⟩;have Z1:=hid (z0.step hb1 (by omega));have BL:=hid (bl0.step hrb hb1);have hS1:=hid hs1;have HB1:=hid ((aA.aF b0 (zaA)).trans hb1);have cb2:=hs1.c2;have hbl:=hs1.lt;clear z0 bl0 b0 hs1 hb1))
 go_loopw [8] (fun s8 wr=>wr=w1) (fun _ _=>0)
 case atStart=>rfl
 case round =>
  subst hrel;go_wp2_with (go_at_call 113;refine(bQ rb sb _ s [125] true hS1.out (.inl rfl)).mono ?_;rintro e w3 ⟨rfl,hs3,hb3⟩;have hS3:=hid hs3;have HB3:=hid (HB1.out.trans hb3);have Z3:=hid (Z1.out.step hb3 (by omega));have BL3:=hid (BL.out.step hrb hb3);clear hs3 hb3;have v0:=BL3.out.v0;have v1:=BL3.out.v1;have v2:=BL3.out.v2;have v3:=BL3.out.v3;obtain⟨zl,zr0,zr1,zr2,zr3,zf0,zf1,zf2,zf3⟩:=Z3.out;have hvl:w.heap.size+1<w3.heap.size:=(by have:=BL3.out.sz;omega))
  exact zbD (v:=.agg #[.int .u8 82,.string ⟨#[]⟩,.int .i64 0,.slice none 0 0]) (by simp[results,Tryz.results116,go_sem, *]) rfl (by
   have hB4:∀ W4,aA w.heap.size w3 W4->aP (Wf.parse x (n+1) (.ref nm) s) s rb sb w (.returned (.agg #[.int .u8 82,.string ⟨#[]⟩,.int .i64 0,.slice none 0 0])) W4:=fun W4 hb=>by
    refine⟨_,.mk 82 [] 0 [],s,rfl,VC.leaf 82 [] 0 (by omega) (by decide),HB3.out.on hb (zaA),.inr ⟨HP.out,Wf.lJ (.inr rfl) (zaA),hS3.out.beside hb (by omega)⟩⟩
   refine hB4 _ ?_;repeat (first|with_reducible exact aA.refl _ _|with_reducible refine aA.drew ?_|with_reducible refine aA.trans ?_ (aA.set _ _ _ _)))
theorem a2S (q:List UInt8) (hf:x.find nm=some t) (lo tb:Nat) (hW:Below W.heap.size W w) (hT:TyL W lo tb t) (h82:t.sort=82) (H:Sn w rb sb (123::125::q) false):Calls Tryz.prog 116 #[ptr rb,ptr tb] w fun e w'=>aP (Wf.parse x (n+1) (.ref nm) (123::125::q)) (123::125::q) rb sb w e w':=by
 have HP:=hid (Wf.pZ x n hf h82 q);obtain⟨htb,c0⟩:=hT.sort;rw[h82] at c0;have y0:w.cell? ⟨tb,0,none⟩=some (.int .u8 82):=(hW.cell (p:=⟨tb,0,none⟩) htb).trans c0;have htw:tb<w.heap.size:=zaC htb hW.size;have htw1:tb<w.heap.size+1:=by omega
 have hrb:=H.lt;have HH:=hid H;have ST:=hid fun W1 h=>jG w rb 82 W1 h;clear H hW hT c0 h82 hf;go_enter Tryz.func116,Tryz.ntmps116;go_wp2_with (first|(go_at_call 112;have _u:=hS1;refine(eY rb sb _ [125] q hS1.out).mono ?_;rintro e w3 ⟨rfl,hs3,hb3⟩;have hS3:=hid hs3;have HB3:=hid (HB1.out.trans hb3);have Z3:=hid (Z1.out.step hb3 (by omega));have BL3:=hid (BL.out.step hrb hb3);clear hs3 hb3;have v0:=BL3.out.v0;have v1:=BL3.out.v1;have v2:=BL3.out.v2;have v3:=BL3.out.v3;obtain⟨zl,zr0,zr1,zr2,zr3,zf0,zf1,zf2,zf3⟩:=Z3.out;have hvl:w.heap.size+1<w3.heap.size:=(by have:=BL3.out.sz;omega))|(go_at_call 113;obtain⟨z0,bl0,b0⟩:=ST.out _ rfl;refine(bS rb sb _ [123] (125::q) (HH.out.below b0)).mono ?_;rintro e w1 ⟨rfl,hs1,hb1⟩;have Z1:=hid (z0.step hb1 (by omega));have BL:=hid (bl0.step hrb hb1);have hS1:=hid hs1;have HB1:=hid ((aA.aF b0 (zaA)).trans hb1);have cb2:=hs1.c2;have hbl:=hs1.lt;clear z0 bl0 b0 hs1 hb1))
 all_goals exact zbD (v:=.agg #[.int .u8 82,.string ⟨#[]⟩,.int .i64 0,.slice none 0 0]) (by simp[results,Tryz.results116,go_sem, *]) rfl (by
   have hB4:∀ W4,aA w.heap.size w3 W4->aP (Wf.parse x (n+1) (.ref nm) (123::125::q)) (123::125::q) rb sb w (.returned (.agg #[.int .u8 82,.string ⟨#[]⟩,.int .i64 0,.slice none 0 0])) W4:=fun W4 hb=>by
    refine⟨_,.mk 82 [] 0 [],q,rfl,VC.leaf 82 [] 0 (by omega) (by decide),HB3.out.on hb (zaA),.inl ⟨HP.out,hS3.out.beside hb (by omega)⟩⟩
   refine hB4 _ ?_;repeat (first|with_reducible exact aA.refl _ _|with_reducible refine aA.drew ?_|with_reducible refine aA.trans ?_ (aA.set _ _ _ _)))
end

theorem VC.fld {W:World} {P:Nat->Prop} {g:Nat} {v:Wf.V} {cs:List Value} (h:VC W P (.mk 61 [] g [v]) cs):∃ (b2 o2 c2 q3 g3 n3 c3:Nat) (T3:ByteArray) (a3:Option Addr),cs=[.int .u8 61,.string ⟨#[]⟩,.int .i64 g,.slice (some ⟨b2,o2,none⟩) 1 c2]/\1<=c2/\c2<=maxLen/\P b2/\b2<W.heap.size/\VC W P v [.int .u8 q3,.string T3,.int .i64 g3,.slice a3 n3 c3]/\W.cell? ⟨b2,o2,none⟩=some (.int .u8 q3)/\W.cell? ⟨b2,o2+1,none⟩=some (.string T3)/\W.cell? ⟨b2,o2+2,none⟩=some (.int .i64 g3)/\W.cell? ⟨b2,o2+3,none⟩=some (.slice a3 n3 c3):=by
 obtain⟨a,c,rfl,h1,h2,h3,h4⟩:=h.form;rcases h4 with h4|⟨b2,o2,ha,hp,hb,hv⟩
 ·simp[Wf.V.kids] at h4
 ·simp only[Wf.V.kids,VCs] at hv
  obtain⟨⟨ks,hk,hc⟩,_⟩:=hv;obtain⟨q3,g3,n3,c3,T3,a3,rfl⟩:=hk.aY;subst ha;refine⟨b2,o2,c,q3,g3,n3,c3,T3,a3,rfl,h1,h2,hp,hb,hk,by simpa using hc 0 _ rfl,hc 1 _ rfl,hc 2 _ rfl,hc 3 _ rfl⟩
structure Rst (rb sb:Nat) (w wr:World) (cur:List UInt8) (bad:Bool) (a:Option Addr) (c:Nat) (l:List Wf.V) (es:List (List Value)):Prop where
 zero:Zero wr w.heap.size
 bld:Bld w wr rb (w.heap.size+1) (w.heap.size+1+1) 82 a c l es
 sn:Sn wr rb sb cur bad
theorem Rst.step {rb sb:Nat} {w wr w2:World} {cur cur2:List UInt8} {bad bad2:Bool} {a:Option Addr} {c:Nat} {l:List Wf.V} {es:List (List Value)} (h:Rst rb sb w wr cur bad a c l es) (hr:rb<w.heap.size) (hb:aA rb wr w2) (hs:Sn w2 rb sb cur2 bad2):Rst rb sb w w2 cur2 bad2 a c l es :=
 ⟨h.zero.step hb (by omega),h.bld.step hr hb,hs⟩
theorem Rst.put {rb sb:Nat} {w wr:World} {cur:List UInt8} {bad0:Bool} {a:Option Addr} {c:Nat} {l:List Wf.V} {es:List (List Value)} {m:Nat} (h:Rst rb sb w wr cur bad0 a c l es) (hrb:rb<w.heap.size) {w2:World} (hb:aA rb wr w2) (hm:es.length=m) {q2 g2 n2 c2:Nat} {T2:ByteArray} {a2:Option Addr} {v:Wf.V}
  (hvc:VC w2 (fun b=>wr.heap.size<=b) v [.int .u8 q2,.string T2,.int .i64 g2,.slice a2 n2 c2]) {wx w4:World} {g cap:Nat} (hx:Below w2.heap.size w2 wx)
  (hg:wx.grownBy w4 (Value.slice a m c).ownBlock)
  (ho:w4.ownsRow (w.heap.size+1+1) 51 4 (.slice (some ⟨g,0,none⟩) (m+1) cap) (m+1) (es.flatten++[.int .u8 q2,.string T2,.int .i64 g2,.slice a2 n2 c2]))
  (hat:(Value.slice a m c).ownBlock=some g\/g=wx.heap.size)
  {r2:List UInt8} {bad:Bool} (hs:Sn w2 rb sb r2 bad) :
  Rst rb sb w (w4.setCell ⟨w.heap.size+1,3,none⟩ (.slice (some ⟨g,0,none⟩) (m+1) cap)) r2 bad (some ⟨g,0,none⟩) cap (l++[v]) (es++[[.int .u8 q2,.string T2,.int .i64 g2,.slice a2 n2 c2]]):=by
 subst hm;have hXb:aA rb wr wx:=hb.trans (aA.aF hx (zaA));have hs0:=(h.bld.step hrb hXb).sz;have hlo:=aU h.bld.own;have hB:Below (w.heap.size+1+1) wx w4:=aW hg (fun g hgk=>(hlo g hgk).1) hs0;have hS:Below (w.heap.size+1) w4 (w4.setCell ⟨w.heap.size+1,3,none⟩ (.slice (some ⟨g,0,none⟩) (es.length+1) cap)):=zbF (Below.refl _ w4) (p:=⟨w.heap.size+1,3,none⟩) (zaA) _;refine⟨((h.zero.step hXb (by omega)).below hB (by omega)).below hS (by omega),h.bld.put hrb hXb hg (hvc.below hx) ho ?_,((hs.below hx).cQ hB (by omega)).cQ hS (by omega)⟩;rcases hat with hat|hat
 ·exact .inl hat.symm
 ·exact .inr (by rw[<-hat];rfl)
theorem qC {r cur q:List UInt8} {l:List Wf.V} (h1:Wf.pl l+cur.length=r.length) (h2:q.length<=cur.length):Wf.Badv (123::r) q (.mk 82 [] 0 l):=by
 cases l with
 | nil=>exact Wf.lJ (.inr rfl) (by simp;omega)
 | cons v l=>exact Wf.mD (.inr rfl) (s0:=r) rfl (by simp) (by omega)
theorem jD {x:Wf.Sc} {n:Nat} {t:Wf.Ty} {s r:List UInt8} {f:Wf.Fd} {v:Wf.V} (h:Wf.fieldTok t (fun k s=>Wf.parse x n k s) s=some (f,v,r)):s.length=(Wf.V.mk 61 [] f.tag [v]).print.length+r.length:=by
 have h2:=(Wf.jL (Q:=fun _ _=>True) (fun f s v r h=>⟨trivial,(Wf.dW _ _ _ _ _ h).2⟩) h).2.2.2;rw[h2,Wf.dB];simp;omega

section
variable (x:Wf.Sc) (rb sb:Nat) (W:World) (n:Nat) (t:Wf.Ty) (nm:List UInt8) (w:World)
def Rel (x:Wf.Sc) (t:Wf.Ty) (n rb sb:Nat) (w wr:World) (r cur:List UInt8) (last:Nat) (a:Option Addr) (c:Nat) (l:List Wf.V) (es:List (List Value)):Prop :=
 Rst rb sb w wr cur false a c l es/\Wf.pl l+cur.length=r.length/\Wf.bW x t (fun k' s'=>Wf.parse x n k' s') [] 0 r=Wf.bW x t (fun k' s'=>Wf.parse x n k' s') l last cur
theorem sK (hx:Wf.ScOk x) (htx:t∈x) (r:List UInt8) (hr:r.head? ≠ some 125) (hf:x.find nm=some t) (ht:t.fields.length<=1000) (lo tb:Nat) (hW:Below W.heap.size W w) (hsc:ScL W lo sb x) (hT:TyL W lo tb t) (h82:t.sort=82) (hWr:W.heap.size<=rb) (IH:∀ f∈t.fields,Reads x rb sb W n f.kind) (hn:r.length<n) (h400:r.length<=400) (H:Sn w rb sb (123::r) false):Calls Tryz.prog 116 #[ptr rb,ptr tb] w fun e w'=>aP (Wf.parse x (n+1) (.ref nm) (123::r)) (123::r) rb sb w e w':=by
 have HP:=hid (Wf.rL x n hf h82 hr);have HN:=hid fun hp=>hr ((pre1 125 r).1 hp);obtain⟨htb,c0⟩:=hT.sort;rw[h82] at c0;have y0:w.cell? ⟨tb,0,none⟩=some (.int .u8 82):=(hW.cell (p:=⟨tb,0,none⟩) htb).trans c0;have htw:tb<w.heap.size:=zaC htb hW.size;have htw1:tb<w.heap.size+1:=by omega
 have h69:t.sort≠69:=by rw[h82];decide
 have HW:=hid hW;have HSC:=hid hsc;have HT:=hid hT;have HIH:=hid IH;have H69:=hid h69;have HX:=hid hx;have HTX:=hid htx;have hrb:=H.lt;have HH:=hid H;have ST:=hid fun W1 h=>jG w rb 82 W1 h;clear H hW hsc hT IH hr hf h82 h69 hx htx c0;go_enter Tryz.func116,Tryz.ntmps116;go_wp2_with (first|(go_at_call 112;have _u:=hS1;refine(cR rb sb _ r [125] false hS1.out (.inr HN.out)).mono ?_;rintro e w2 ⟨rfl,rfl⟩)|(go_at_call 113;obtain⟨z0,bl0,b0⟩:=ST.out _ rfl;refine(bS rb sb _ [123] r (HH.out.below b0)).mono ?_;rintro e w1 ⟨rfl,hs1,hb1⟩;have Z1:=hid (z0.step hb1 (by omega));have BL:=hid (bl0.step hrb hb1);have hS1:=hid hs1;have HB1:=hid ((aA.aF b0 (zaA)).trans hb1);have cb2:=hs1.c2;have hbl:=hs1.lt;clear z0 bl0 b0 hs1 hb1))
 go_loopw [8] (fun s8 wr=>∃ (last:Nat) (cur:List UInt8) (a:Option Addr) (c:Nat) (l:List Wf.V) (es:List (List Value)),s8=.int .i64 last/\last<=200/\Hid (Rel x t n rb sb w wr r cur last a c l es)) (fun _ wr=>fD wr rb)
 case atStart=>exact⟨0,r,none,0,[],[],rfl,Nat.zero_le _,hid ⟨⟨Z1.out,BL.out,hS1.out⟩,by rw[Wf.iF,Nat.zero_add],rfl⟩⟩
 case round =>
  obtain⟨last,cur,a,c,l,es,rfl,hl200,hh⟩:=hrel;have hl400:es.length<=400:=by
   have h1:=hh.out.1.bld.hl;have h2:=hh.out.2.1;unfold Wf.pl at h2;omega
  have hcn:cur.length<n:=by have:=hh.out.2.1;omega
  have hc400:cur.length<=400:=by have:=hh.out.2.1;omega
  obtain⟨m,hm⟩:∃ m,es.length=m:=⟨_,rfl⟩;have HM:=hid hm;have BW:=hid (aA.below HW.out HW.out.size hWr hh.out.1.bld.fr);have hs2:=hh.out.1.sn.c2;have hrw:rb<wr.heap.size:=hh.out.1.sn.lt;have hbw:w.heap.size+1<wr.heap.size:=by have:=hh.out.1.bld.sz;omega
  have HST:=hid (Wf.fldsL_step (x:=x) (t:=t) (p:=fun k' s'=>Wf.parse x n k' s') (fun k s v r h=>Wf.dN (v:=v) (r:=r) h) l last cur);rw[hm] at hl400;clear hm;by_cases hno:∃ g q f,Wf.aO 200 cur=some (g,61::q)/\t.field g=some f
  ·obtain⟨g0,q0,f0,hn0,hf0⟩:=hno
   have hq0:q0.length<n:=(by have:=Wf.gU hn0;simp at this;omega);have HFLD:=hid (oH x rb sb W n t cur wr f0 g0 q0 hn0 hf0 ht hc400 lo tb BW.out HT.out hWr hh.out.1.sn H69.out (HIH.out f0 (Wf.dT hf0).1) hq0);clear hn0 hf0 hq0;go_wp2_with (go_at_call 145;refine HFLD.out.mono ?_;rintro e w2 ⟨hb2,cs,f,v,r2,fb,o,rfl,hfm,hf2,hfa,hvc,ho⟩;obtain⟨G,hG⟩:∃ G,f.tag=G:=⟨_,rfl⟩;rw[hG] at hvc hf2;obtain⟨b2,o2,c2,q3,g3,n3,c3,T3,a3,rfl,h1c,hcm,hpb,hb2lt,hvk,k0,k1,k2,k3⟩:=hvc.fld;have HTG:=hid (show W.cell? ⟨fb,o,none⟩=some (.int .i64 G) by(obtain⟨_,_,_,_,hc⟩:=eD t.sort f;rw[<-hG];exact hfa.2 0 _ (by rw[hc];rfl)));have HVC:=hid hvc;have HVK:=hid hvk;have HB2:=hid hb2;have HO:=hid ho;have HFA:=hid hfa;have HFM:=hid hfm;have HCM:=hid hcm;have HGG:=hid hG;clear hvc hvk hb2 ho hfa hfm hcm hG)
   have hal:=(Below.refl w2.heap.size w2).alloc (zaA) (.cells #[.int .u8 61,.string ⟨#[]⟩,.int .i64 G,.slice (some ⟨b2,o2,none⟩) 1 c2] 51);have z0:(w2.alloc (.cells #[.int .u8 61,.string ⟨#[]⟩,.int .i64 G,.slice (some ⟨b2,o2,none⟩) 1 c2] 51)).cell? ⟨w2.heap.size,0,none⟩=some (.int .u8 61):=(by simp[go_sem]);have z1:(w2.alloc (.cells #[.int .u8 61,.string ⟨#[]⟩,.int .i64 G,.slice (some ⟨b2,o2,none⟩) 1 c2] 51)).cell? ⟨w2.heap.size,1,none⟩=some (.string ⟨#[]⟩):=(by simp[go_sem]);have z2:(w2.alloc (.cells #[.int .u8 61,.string ⟨#[]⟩,.int .i64 G,.slice (some ⟨b2,o2,none⟩) 1 c2] 51)).cell? ⟨w2.heap.size,2,none⟩=some (.int .i64 G):=(by simp[go_sem]);have z3:(w2.alloc (.cells #[.int .u8 61,.string ⟨#[]⟩,.int .i64 G,.slice (some ⟨b2,o2,none⟩) 1 c2] 51)).cell? ⟨w2.heap.size,3,none⟩=some (.slice (some ⟨b2,o2,none⟩) 1 c2):=(by simp[go_sem]);have hz:w2.heap.size<(w2.alloc (.cells #[.int .u8 61,.string ⟨#[]⟩,.int .i64 G,.slice (some ⟨b2,o2,none⟩) 1 c2] 51)).heap.size:=(by simp);obtain⟨W3,hW3⟩:∃ W3,w2.alloc (.cells #[.int .u8 61,.string ⟨#[]⟩,.int .i64 G,.slice (some ⟨b2,o2,none⟩) 1 c2] 51)=W3:=⟨_,rfl⟩;rw[hW3] at hal z0 z1 z2 z3 hz;rw[hW3];have hbs:w.heap.size+1<wr.heap.size:=hbw;have hwr2:wr.heap.size<=w2.heap.size:=HB2.out.size;have BWr:=hid (aA.below BW.out BW.out.size hWr HB2.out);have BW3:=hid (BWr.out.trans (hal.mono BWr.out.size));have HAL:=hid hal;have hfbw:fb<W3.heap.size:=zaC HFA.out.1 BW3.out.size;have hrb3:rb<W3.heap.size:=(by omega);have hb23:b2<W3.heap.size:=by omega
   -- what lies there while the qI value and the text are made
   have F:=hid fun(wz:World) (hz:Below W3.heap.size W3 wz)=>(show wz.cell? ⟨fb,o,none⟩=some (.int .i64 G)/\wz.cell? ⟨w2.heap.size,3,none⟩=some (.slice (some ⟨b2,o2,none⟩) 1 c2)/\wz.cell? ⟨b2,o2,none⟩=some (.int .u8 q3)/\wz.cell? ⟨b2,o2+1,none⟩=some (.string T3)/\wz.cell? ⟨b2,o2+2,none⟩=some (.int .i64 g3)/\wz.cell? ⟨b2,o2+3,none⟩=some (.slice a3 n3 c3)/\wz.cell? ⟨rb,0,none⟩=some (ptr sb) from by
    have cb:=fun k (u:Value) (hk:w2.cell? ⟨b2,k,none⟩=some u)=>(hz.cell (p:=⟨b2,k,none⟩) hb23).trans ((HAL.out.cell (p:=⟨b2,k,none⟩) hb2lt).trans hk);refine⟨(hz.cell (p:=⟨fb,o,none⟩) hfbw).trans ((BW3.out.cell (p:=⟨fb,o,none⟩) HFA.out.1).trans HTG.out),(hz.cell (p:=⟨w2.heap.size,3,none⟩) (by assumption)).trans z3,cb _ _ k0,cb _ _ k1,cb _ _ k2,cb _ _ k3,?_⟩;rcases HO.out with⟨_,hs⟩|⟨_,_,hs⟩
    ·exact((hs.below HAL.out).below hz).c0
    ·exact((hs.below HAL.out).below hz).c0)
   have HSNX:=hid fun(wz:World) (hz:Below W3.heap.size W3 wz)=>(show ∃ b,Sn wz rb sb r2 b from by
    rcases HO.out with⟨_,hs⟩|⟨_,_,hs⟩
    ·exact⟨_,(hs.below HAL.out).below hz⟩
    ·exact⟨_,(hs.below HAL.out).below hz⟩)
   obtain⟨f0,f1,f2,f3,f4,f5,f6⟩:=F.out W3 (zaB);clear hal hW3;have hfd:=(HX.out.tys t HTX.out).fds f HFM.out;have hk12:=eV hfd;have hhas:=HX.out.refs t HTX.out H69.out f HFM.out;obtain⟨PT,hPT⟩:∃ PT:ByteArray,(⟨v.print.toArray⟩:ByteArray)=PT:=⟨_,rfl⟩;obtain⟨ST,hST⟩:∃ ST:ByteArray,(⟨(Wf.aK x f).toArray⟩:ByteArray)=ST:=⟨_,rfl⟩;have hpl:v.print.length<=1000000:=by
    rcases HO.out with⟨hp,_⟩|⟨_,⟨q,hq,hbv⟩,_⟩
    ·have:=jD hp
     rw[Wf.dB] at this;simp at this;omega
    ·have:=hbv.1
     omega
   have HPR:=hid fun(wz:World) (hz:Below W3.heap.size W3 wz)=>(show Calls Tryz.prog 33 #[.agg #[.int .u8 q3,.string T3,.int .i64 g3,.slice a3 n3 c3]] wz fun e w'=>e=.returned (.string PT)/\Below wz.heap.size wz w' by
    rw[<-hPT];exact print v _ _ w2 wz HVK.out (HAL.out.trans (hz.mono HAL.out.size)) hpl)
   have HOF:=hid fun(wz:World) (hz:Below W3.heap.size W3 wz)=>(show Calls Tryz.prog 42 #[ptr sb,.pointer (some ⟨fb,o,none⟩)] wz fun e w'=>e=.returned (.string ST)/\Below wz.heap.size wz w' by
    rw[<-hST];exact of x HX.out lo sb fb o t.sort f W wz (BW3.out.trans (hz.mono BW3.out.size)) HSC.out H69.out HFA.out hk12 hhas)
   have HEQ:=hid (show(PT.toList==ST.toList)=decide (v.print=Wf.aK x f) by rw[<-hPT,<-hST,zaZ,zaZ,Bool.beq_eq_decide_eq]);clear hfd hk12 hhas hPT hST hpl;go_cut [59] from 25 to 75 (fun s59 wx=>∃ B:Bool,s59=.bool B/\Hid (B=(decide (G<=last) || decide (v.print=Wf.aK x f))/\Below W3.heap.size W3 wx))
   case first =>
    by_cases hle:G<=last
    ·have d1:decide (G<=last)=true:=decide_eq_true hle
     go_quiet (fail)
     all_goals (go_wp2_with fail;go_meet)
     all_goals exact⟨true,rfl,hid ⟨by rw[d1];rfl,⟨rfl,rfl,rfl,zaA,fun _ _=>rfl⟩⟩⟩
    ·have d1:decide (G<=last)=false:=decide_eq_false hle
     have hlt:last<G:=(by omega);go_region_held3 (fun w'=>w'.cell? ⟨fb,o,none⟩=some (.int .i64 G)/\w'.cell? ⟨w2.heap.size,3,none⟩=some (.slice (some ⟨b2,o2,none⟩) 1 c2)/\w'.cell? ⟨b2,o2,none⟩=some (.int .u8 q3)/\w'.cell? ⟨b2,o2+1,none⟩=some (.string T3)/\w'.cell? ⟨b2,o2+2,none⟩=some (.int .i64 g3)/\w'.cell? ⟨b2,o2+3,none⟩=some (.slice a3 n3 c3)/\w'.cell? ⟨rb,0,none⟩=some (ptr sb)) (first|exact⟨p0,p1,p2,p3,p4,p5,p6⟩|exact⟨t0,t1,t2,t3,t4,t5,t6⟩|go_keep) (first|(go_at_call 33;refine(HPR.out _ (by first|exact TS.out|(repeat (first|with_reducible exact zaB|with_reducible refine zbE ?_)))).mono ?_;rintro e w3 ⟨rfl,hb3⟩;have TD:=Lib.hid (show Below W3.heap.size W3 w3 by first|exact TS.out.trans (hb3.mono TS.out.size)|(refine Below.trans (b:=_) ?_ hb3;repeat (first|with_reducible exact zaB|with_reducible refine zbE ?_)));obtain⟨p0,p1,p2,p3,p4,p5,p6⟩:=F.out _ TD.out;clear hb3)|(go_at_call 42;refine(HOF.out _ (by first|exact TD.out|(repeat (first|with_reducible exact zaB|with_reducible refine zbE ?_)))).mono ?_;rintro e w4 ⟨rfl,hb4⟩;have TS:=Lib.hid (show Below W3.heap.size W3 w4 by first|exact TD.out.trans (hb4.mono TD.out.size)|(refine Below.trans (b:=_) ?_ hb4;repeat (first|with_reducible exact zaB|with_reducible refine zbE ?_)));obtain⟨t0,t1,t2,t3,t4,t5,t6⟩:=F.out _ TS.out;clear hb4))
     all_goals (go_wp2_with fail;go_meet)
     all_goals exact⟨_,rfl,hid ⟨by rw[d1,HEQ.out,Bool.false_or],by first|exact TS.out.trans (TD.out.mono TS.out.size)|exact TS.out|exact TD.out⟩⟩
   case rest =>
    obtain⟨B,rfl,hh2⟩:=hcut;have HBC:=hid (HB2.out.trans (aA.aF (rb:=rb) (HAL.out.trans (hh2.out.2.mono HAL.out.size)) (zaA)));have HAC:=hid (HAL.out.trans (hh2.out.2.mono HAL.out.size));obtain⟨bad2,HSN,HCS⟩:∃ bad2,Hid (Sn wc rb sb r2 bad2)/\Hid ((bad2=false/\Wf.fieldTok t (fun k s=>Wf.parse x n k s) cur=some (f,v,r2))\/(bad2=true/\Wf.fieldTok t (fun k s=>Wf.parse x n k s) cur=none/\∃ q,q.length+2<=cur.length/\Wf.Badv q r2 v)):=by
     rcases HO.out with⟨hp,hs⟩|⟨hp,hq,hs⟩
     ·exact⟨false,hid (hs.below HAC.out),hid (.inl ⟨rfl,hp⟩)⟩
     ·exact⟨true,hid (hs.below HAC.out),hid (.inr ⟨rfl,hp,hq⟩)⟩
    have HRL:=hid (show r2.length<=cur.length by
     rcases HCS.out with⟨_,hp⟩|⟨_,_,q,hq,hbv⟩
     ·have:=jD hp;omega
     ·have:=hbv.2;omega)
    have hcw:W3.heap.size<=wc.heap.size:=hh2.out.2.size;have hvc1:w.heap.size+1<wc.heap.size:=(by omega);have RC:=hid (hh.out.1.step hrb HBC.out HSN.out);have sc2:=HSN.out.c2;have sf2:=HSN.out.f2;have slt:=HSN.out.lt;have HVCC:=hid (HVC.out.below HAC.out);clear f0 f1 f2 f3 f4 f5 f6 k0 k1 k2 k3 hs2;cases B with
    | true =>
     have HRES:=hid (show Wf.parse x (n+1) (.ref nm) (123::r)=none by
      rw[HP.out,hh.out.2.2,HST.out];rcases HCS.out with⟨_,hp⟩|⟨_,hp,_⟩
      ·rw[hp]
       have hb:f.tag<=last\/v.print=Wf.aK x f:=by
        have h:=hh2.out.1.symm;rw[Bool.or_eq_true,decide_eq_true_eq,decide_eq_true_eq] at h;rw[HGG.out];exact h
       dsimp only;rw[if_pos hb];rfl
      ·rw[hp];rfl)
     have HBAD:=hid (qC hh.out.2.1 HRL.out);go_wp2_with (go_at_call 113;refine(bQ rb sb _ r2 [125] true HSN.out.fail (.inl rfl)).mono ?_;rintro e w6 ⟨rfl,hs6,hb6⟩;have S6:=hid hs6;have R6:=hid (RC.out.step hrb ((aA.set rb wc 2 _).trans hb6) hs6);have HB6:=hid (HBC.out.trans ((aA.set rb wc 2 _).trans hb6));clear hs6 hb6;have v0:=R6.out.bld.v0;have v1:=R6.out.bld.v1;have v2:=R6.out.bld.v2;have v3:=R6.out.bld.v3;rw[HM.out] at v3;obtain⟨zl,zr0,zr1,zr2,zr3,zf0,zf1,zf2,zf3⟩:=R6.out.zero;have hvl:w.heap.size+1<w6.heap.size:=(by have:=R6.out.bld.sz;omega))
     all_goals exact zbD (v:=.agg #[.int .u8 82,.string ⟨#[]⟩,.int .i64 0,.slice a m c]) (by simp[results,Tryz.results116,go_sem, *]) rfl (by
      have hR:∀ W4,aA w.heap.size w6 W4->aP (Wf.parse x (n+1) (.ref nm) (123::r)) (123::r) rb sb w (.returned (.agg #[.int .u8 82,.string ⟨#[]⟩,.int .i64 0,.slice a m c])) W4:=fun W4 hb=>by
       obtain⟨hv,hf⟩:=R6.out.bld.out hb (zaA) (by omega) HM.out 82 [] 0 ⟨by omega,fun _=>.inr (.inr (.inr (.inl rfl))),fun h=>absurd h (by decide)⟩;exact⟨_,.mk 82 [] 0 l,r2,rfl,hv,hf,.inr ⟨HRES.out,HBAD.out,S6.out.beside hb (by omega)⟩⟩
      refine hR _ ?_
      (repeat (first|with_reducible exact aA.refl _ _|with_reducible refine aA.drew ?_|with_reducible refine aA.trans ?_ (aA.set _ _ _ _))))
    | false =>
     have HNB:=hid (show ¬ (f.tag<=last\/v.print=Wf.aK x f) by
      have h:=hh2.out.1.symm;rw[Bool.or_eq_false_iff,decide_eq_false_iff_not,decide_eq_false_iff_not] at h;rw[HGG.out];rintro(h1|h1)
      ·exact h.1 h1
      ·exact h.2 h1)
     have HM2:=hid fun(cs:List Value)=>(show(es++[cs]).length=m+1 by rw[zaD,HM.out];rfl);have HOWN:=hid (show wc.ownsRow (w.heap.size+1+1) 51 4 (.slice a m c) m es.flatten by have h:=RC.out.bld.own;rw[HM.out] at h;exact h);obtain⟨i0,hi0,hz0,hz1,hz2⟩:=info_parts iW;have HI0:=hid hi0;have HZ0:=hid hz0;have HZ1:=hid hz1;have HZ2:=hid hz2;have v3:=RC.out.bld.v3;have vf:=RC.out.bld.f3;rw[HM.out] at v3;have hw2c:w2.heap.size<wc.heap.size:=(by omega);have x0:=(hh2.out.2.cell (p:=⟨w2.heap.size,0,none⟩) (by assumption)).trans z0;have x1:=(hh2.out.2.cell (p:=⟨w2.heap.size,1,none⟩) (by assumption)).trans z1;have x2:=(hh2.out.2.cell (p:=⟨w2.heap.size,2,none⟩) (by assumption)).trans z2;have x3:=(hh2.out.2.cell (p:=⟨w2.heap.size,3,none⟩) (by assumption)).trans z3;have hfc:fb<wc.heap.size:=(by omega);have xt:=(hh2.out.2.cell (p:=⟨fb,o,none⟩) hfbw).trans ((BW3.out.cell (p:=⟨fb,o,none⟩) HFA.out.1).trans HTG.out);clear hi0 hz0 hz1 hz2 z0 z1 z2 z3;have hcase:(∃ p,bad2=false/\r2=44::p)\/Hid (bad2=true\/¬ [44] <+: r2):=by
      cases bad2 with
      | true=>exact .inr (hid (.inl rfl))
      | false =>
       by_cases h4:[44] <+: r2
       ·obtain⟨p,hp⟩:=h4;exact .inl ⟨p,rfl,hp.symm⟩
       ·exact .inr (hid (.inr h4))
     rcases hcase with⟨p,rfl,rfl⟩|HC
     ·have hp:Wf.fieldTok t (fun k s=>Wf.parse x n k s) cur=some (f,v,44::p):=by
       rcases HCS.out with⟨_,hp⟩|⟨hb,_⟩
       ·exact hp
       ·cases hb
      have hlen:=jD hp;have HE:=hid (show Wf.pl (l++[.mk 61 [] G [v]])+p.length=r.length/\p.length<cur.length/\Wf.bW x t (fun k' s'=>Wf.parse x n k' s') [] 0 r=Wf.bW x t (fun k' s'=>Wf.parse x n k' s') (l++[.mk 61 [] G [v]]) G p by
       rw[HGG.out] at hlen;simp only[zaF] at hlen;refine⟨?_,by omega,?_⟩
       ·rw[Wf.gF];have:=hh.out.2.1;omega
       ·rw[hh.out.2.2,HST.out,hp]
        dsimp only;rw[if_neg HNB.out,HGG.out];rfl)
      clear hp hlen;go_wp2_with (first|(go_at_call 112;have RS:=hid (Rst.put hh.out.1 hrb HBC.out HM.out HVCC.out ((zaB).alloc (zaA) _) HG4.out HOWN4.out HAT4.out HSN.out);refine(eY rb sb _ [44] p RS.out.sn).mono ?_;rintro e w6 ⟨rfl,hs6,hb6⟩;have S6:=hid hs6;have R6:=hid (RS.out.step hrb hb6 hs6);clear hs6 hb6)|(at_builtin;refine wpList_append_lies _ rfl (.tmp 68) (.tmp 70) 49 rfl (w.heap.size+1+1) 51 i0 (.agg #[.int .u8 0,tx [],.int .i64 0,.slice none 0 0]) 4 56 Tryz.underlying49 HI0.out HZ0.out HZ1.out HZ2.out rfl (by decide) (.slice a m c) m _ (by rfl) (HOWN.out.alloc _) ⟨wc.heap.size,0,none⟩ 1 1 [.int .u8 61,.string ⟨#[]⟩,.int .i64 G,.slice (some ⟨b2,o2,none⟩) 1 c2] (by rfl) rfl (World.news_of_block (MapKept.heap_alloc wc (.cells #[.int .u8 61,.string ⟨#[]⟩,.int .i64 G,.slice (some ⟨b2,o2,none⟩) 1 c2] 51)).1) (fK _ _ _ _ _ _) (by decide) (by unfold maxLen;omega) (by omega) (by simp;omega) _ rfl ?_;intro g cap w4 hown4 hgrow4 hat4 hlt4;have B4:=hid (aW (base:=w.heap.size+1+1) hgrow4 (fun g hg=>(aU HOWN.out g hg).1) (by simp;omega));have u3:w4.cell? ⟨w.heap.size+1,3,none⟩=some (.slice a m c):=((B4.out.cell (p:=⟨w.heap.size+1,3,none⟩) (zaH _)).trans ((zbB wc _ ⟨w.heap.size+1,3,none⟩ hvc1).trans v3));have uf:w4.frozen? ⟨w.heap.size+1,3,none⟩=false:=((B4.out.frozen (p:=⟨w.heap.size+1,3,none⟩) (zaH _)).trans ((((Below.refl wc.heap.size wc).alloc (zaA) _).frozen (p:=⟨w.heap.size+1,3,none⟩) hvc1).trans vf));have HOWN4:=hid hown4;have HG4:=hid hgrow4;have HAT4:=hid hat4;clear hown4 hgrow4 hat4))
      go_roundw
      case rel=>exact⟨G,p,some ⟨g,0,none⟩,cap,_,_,rfl,by omega,hid ⟨R6.out,HE.out.1,HE.out.2.2⟩⟩
      case measure =>
       rw[S6.out.size,hh.out.1.sn.size];have:=HE.out.2.1;omega
     ·have hcase2:(∃ p,bad2=false/\r2=125::p)\/Hid (bad2=true\/¬ [125] <+: r2):=by
       cases bad2 with
       | true=>exact .inr (hid (.inl rfl))
       | false =>
        by_cases h4:[125] <+: r2
        ·obtain⟨p,hp⟩:=h4;exact .inl ⟨p,rfl,hp.symm⟩
        ·exact .inr (hid (.inr h4))
      rcases hcase2 with⟨p,rfl,rfl⟩|HC2
      ·have HRES:=hid (show Wf.parse x (n+1) (.ref nm) (123::r)=some (.mk 82 [] 0 (l++[.mk 61 [] G [v]]),p) by
        have hp:Wf.fieldTok t (fun k s=>Wf.parse x n k s) cur=some (f,v,125::p):=by
         rcases HCS.out with⟨_,hp⟩|⟨hb,_⟩
         ·exact hp
         ·cases hb
        rw[HP.out,hh.out.2.2,HST.out,hp];dsimp only;rw[if_neg HNB.out,HGG.out];rfl)
       go_wp2_with (first|(go_at_call 113;refine(bS rb sb _ [125] p RS.out.sn).mono ?_;rintro e w6 ⟨rfl,hs6,hb6⟩;have S6:=hid hs6;have R6:=hid (RS.out.step hrb hb6 hs6);clear hs6 hb6;have v0:=R6.out.bld.v0;have v1:=R6.out.bld.v1;have v2:=R6.out.bld.v2;have v3:=R6.out.bld.v3;rw[HM2.out] at v3;obtain⟨zl,zr0,zr1,zr2,zr3,zf0,zf1,zf2,zf3⟩:=R6.out.zero;have hvl:w.heap.size+1<w6.heap.size:=(by have:=R6.out.bld.sz;omega))|(go_at_call 112;have RS:=hid (Rst.put hh.out.1 hrb HBC.out HM.out HVCC.out ((zaB).alloc (zaA) _) HG4.out HOWN4.out HAT4.out HSN.out);refine(cR rb sb _ (125::p) [44] false RS.out.sn HC.out).mono ?_;rintro e w5 ⟨rfl,rfl⟩)|(at_builtin;refine wpList_append_lies _ rfl (.tmp 68) (.tmp 70) 49 rfl (w.heap.size+1+1) 51 i0 (.agg #[.int .u8 0,tx [],.int .i64 0,.slice none 0 0]) 4 56 Tryz.underlying49 HI0.out HZ0.out HZ1.out HZ2.out rfl (by decide) (.slice a m c) m _ (by rfl) (HOWN.out.alloc _) ⟨wc.heap.size,0,none⟩ 1 1 [.int .u8 61,.string ⟨#[]⟩,.int .i64 G,.slice (some ⟨b2,o2,none⟩) 1 c2] (by rfl) rfl (World.news_of_block (MapKept.heap_alloc wc (.cells #[.int .u8 61,.string ⟨#[]⟩,.int .i64 G,.slice (some ⟨b2,o2,none⟩) 1 c2] 51)).1) (fK _ _ _ _ _ _) (by decide) (by unfold maxLen;omega) (by omega) (by simp;omega) _ rfl ?_;intro g cap w4 hown4 hgrow4 hat4 hlt4;have B4:=hid (aW (base:=w.heap.size+1+1) hgrow4 (fun g hg=>(aU HOWN.out g hg).1) (by simp;omega));have u3:w4.cell? ⟨w.heap.size+1,3,none⟩=some (.slice a m c):=((B4.out.cell (p:=⟨w.heap.size+1,3,none⟩) (zaH _)).trans ((zbB wc _ ⟨w.heap.size+1,3,none⟩ hvc1).trans v3));have uf:w4.frozen? ⟨w.heap.size+1,3,none⟩=false:=((B4.out.frozen (p:=⟨w.heap.size+1,3,none⟩) (zaH _)).trans ((((Below.refl wc.heap.size wc).alloc (zaA) _).frozen (p:=⟨w.heap.size+1,3,none⟩) hvc1).trans vf));have HOWN4:=hid hown4;have HG4:=hid hgrow4;have HAT4:=hid hat4;clear hown4 hgrow4 hat4))
       all_goals exact zbD (v:=.agg #[.int .u8 82,.string ⟨#[]⟩,.int .i64 0,.slice (some ⟨g,0,none⟩) (m+1) cap]) (by simp[results,Tryz.results116,go_sem, *]) rfl (by
        have hR:∀ W4,aA w.heap.size w6 W4->aP (Wf.parse x (n+1) (.ref nm) (123::r)) (123::r) rb sb w (.returned (.agg #[.int .u8 82,.string ⟨#[]⟩,.int .i64 0,.slice (some ⟨g,0,none⟩) (m+1) cap])) W4:=fun W4 hb=>by
         obtain⟨hv,hf⟩:=R6.out.bld.out hb (zaA) (by omega) (HM2.out _) 82 [] 0 ⟨by omega,fun _=>.inr (.inr (.inr (.inl rfl))),fun h=>absurd h (by decide)⟩;exact⟨_,_,p,rfl,hv,hf,.inl ⟨HRES.out,S6.out.beside hb (by omega)⟩⟩
        refine hR _ ?_
        (repeat (first|with_reducible exact aA.refl _ _|with_reducible refine aA.drew ?_|with_reducible refine aA.trans ?_ (aA.set _ _ _ _))))
      ·have HRES:=hid (show Wf.parse x (n+1) (.ref nm) (123::r)=none/\Wf.Badv (123::r) r2 (.mk 82 [] 0 (l++[.mk 61 [] G [v]])) by
        rcases HCS.out with⟨hb,hp⟩|⟨hb,hp,q,hq,hbv⟩
        ·have h44:¬ [44] <+: r2:=by
          rcases HC.out with h|h
          ·rw[hb] at h;cases h
          ·exact h
         have h125:¬ [125] <+: r2:=by
          rcases HC2.out with h|h
          ·rw[hb] at h;cases h
          ·exact h
         have hlen:=jD hp;rw[HGG.out] at hlen;refine⟨?_,Wf.mD (.inr rfl) (s0:=r) rfl (by simp) (by rw[Wf.gF];have:=hh.out.2.1;omega)⟩;rw[HP.out,hh.out.2.2,HST.out,hp];dsimp only;rw[if_neg HNB.out];split
         ·exact absurd ⟨_,rfl⟩ h44
         ·exact absurd ⟨_,rfl⟩ h125
         ·rfl
        ·exact⟨by rw[HP.out,hh.out.2.2,HST.out,hp];rfl,Wf.nL (.inr rfl) (s0:=r) (s1:=cur) rfl hh.out.2.1 (Wf.kJ (by omega) hq hbv)⟩)
       go_wp2_with (first|(go_at_call 113;refine(bQ rb sb _ r2 [125] bad2 RS.out.sn HC2.out).mono ?_;rintro e w6 ⟨rfl,hs6,hb6⟩;have S6:=hid hs6;have R6:=hid (RS.out.step hrb hb6 hs6);clear hs6 hb6;have v0:=R6.out.bld.v0;have v1:=R6.out.bld.v1;have v2:=R6.out.bld.v2;have v3:=R6.out.bld.v3;rw[HM2.out] at v3;obtain⟨zl,zr0,zr1,zr2,zr3,zf0,zf1,zf2,zf3⟩:=R6.out.zero;have hvl:w.heap.size+1<w6.heap.size:=(by have:=R6.out.bld.sz;omega))|(go_at_call 112;have RS:=hid (Rst.put hh.out.1 hrb HBC.out HM.out HVCC.out ((zaB).alloc (zaA) _) HG4.out HOWN4.out HAT4.out HSN.out);refine(cR rb sb _ r2 [44] bad2 RS.out.sn HC.out).mono ?_;rintro e w5 ⟨rfl,rfl⟩)|(at_builtin;refine wpList_append_lies _ rfl (.tmp 68) (.tmp 70) 49 rfl (w.heap.size+1+1) 51 i0 (.agg #[.int .u8 0,tx [],.int .i64 0,.slice none 0 0]) 4 56 Tryz.underlying49 HI0.out HZ0.out HZ1.out HZ2.out rfl (by decide) (.slice a m c) m _ (by rfl) (HOWN.out.alloc _) ⟨wc.heap.size,0,none⟩ 1 1 [.int .u8 61,.string ⟨#[]⟩,.int .i64 G,.slice (some ⟨b2,o2,none⟩) 1 c2] (by rfl) rfl (World.news_of_block (MapKept.heap_alloc wc (.cells #[.int .u8 61,.string ⟨#[]⟩,.int .i64 G,.slice (some ⟨b2,o2,none⟩) 1 c2] 51)).1) (fK _ _ _ _ _ _) (by decide) (by unfold maxLen;omega) (by omega) (by simp;omega) _ rfl ?_;intro g cap w4 hown4 hgrow4 hat4 hlt4;have B4:=hid (aW (base:=w.heap.size+1+1) hgrow4 (fun g hg=>(aU HOWN.out g hg).1) (by simp;omega));have u3:w4.cell? ⟨w.heap.size+1,3,none⟩=some (.slice a m c):=((B4.out.cell (p:=⟨w.heap.size+1,3,none⟩) (zaH _)).trans ((zbB wc _ ⟨w.heap.size+1,3,none⟩ hvc1).trans v3));have uf:w4.frozen? ⟨w.heap.size+1,3,none⟩=false:=((B4.out.frozen (p:=⟨w.heap.size+1,3,none⟩) (zaH _)).trans ((((Below.refl wc.heap.size wc).alloc (zaA) _).frozen (p:=⟨w.heap.size+1,3,none⟩) hvc1).trans vf));have HOWN4:=hid hown4;have HG4:=hid hgrow4;have HAT4:=hid hat4;clear hown4 hgrow4 hat4))
       all_goals exact zbD (v:=.agg #[.int .u8 82,.string ⟨#[]⟩,.int .i64 0,.slice (some ⟨g,0,none⟩) (m+1) cap]) (by simp[results,Tryz.results116,go_sem, *]) rfl (by
        have hR:∀ W4,aA w.heap.size w6 W4->aP (Wf.parse x (n+1) (.ref nm) (123::r)) (123::r) rb sb w (.returned (.agg #[.int .u8 82,.string ⟨#[]⟩,.int .i64 0,.slice (some ⟨g,0,none⟩) (m+1) cap])) W4:=fun W4 hb=>by
         obtain⟨hv,hf⟩:=R6.out.bld.out hb (zaA) (by omega) (HM2.out _) 82 [] 0 ⟨by omega,fun _=>.inr (.inr (.inr (.inl rfl))),fun h=>absurd h (by decide)⟩;exact⟨_,_,r2,rfl,hv,hf,.inr ⟨HRES.out.1,HRES.out.2,S6.out.beside hb (by omega)⟩⟩
        refine hR _ ?_
        (repeat (first|with_reducible exact aA.refl _ _|with_reducible refine aA.drew ?_|with_reducible refine aA.trans ?_ (aA.set _ _ _ _))))
  ·have HFLD:=hid (mA rb sb W t cur wr false ht hc400 lo tb BW.out HT.out hWr hh.out.1.sn (fun h=>hno h.2))
   have HRES:=hid (show Wf.parse x (n+1) (.ref nm) (123::r)=none by
    rw[HP.out,hh.out.2.2,HST.out,oN x n t cur hno];rfl)
   clear hno;go_wp2_with (go_at_call 145;refine HFLD.out.mono ?_;rintro e w2 ⟨hb2,r2,rfl,hrl,hsn⟩;have HB2:=hid hb2;have S2:=hid hsn;have HRL:=hid hrl;have sc2:=hsn.c2;have sf2:=hsn.f2;have slt:=hsn.lt;clear hb2 hsn hrl)
   have HBAD:=hid (qC hh.out.2.1 HRL.out);have hal:=hid fun k=>(show Below w2.heap.size w2 ((w2.alloc (.cells #[.int .u8 0,.string ⟨#[]⟩,.int .i64 0,.slice none 0 0] 51)).drewN k) from((Below.refl w2.heap.size w2).alloc (zaA) _).trans ⟨rfl,rfl,rfl,zaA,fun _ _=>rfl⟩);go_quiet (fail)
   go_wp2_with (go_at_call 113;refine(bQ rb sb _ r2 [125] true (S2.out.below (hal.out _)).fail (.inl rfl)).mono ?_;rintro e w6 ⟨rfl,hs6,hb6⟩;have S6:=hid hs6;have HB6:=hid ((aA.aF (rb:=rb) (hal.out _) (zaA)).trans ((aA.set rb _ 2 _).trans hb6));have R6:=hid (hh.out.1.step hrb (HB2.out.trans HB6.out) hs6);clear hs6 hb6;have v0:=R6.out.bld.v0;have v1:=R6.out.bld.v1;have v2:=R6.out.bld.v2;have v3:=R6.out.bld.v3;rw[HM.out] at v3;obtain⟨zl,zr0,zr1,zr2,zr3,zf0,zf1,zf2,zf3⟩:=R6.out.zero;have hvl:w.heap.size+1<w6.heap.size:=(by have:=R6.out.bld.sz;omega))
   all_goals exact zbD (v:=.agg #[.int .u8 82,.string ⟨#[]⟩,.int .i64 0,.slice a m c]) (by simp[results,Tryz.results116,go_sem, *]) rfl (by
    have hR:∀ W4,aA w.heap.size w6 W4->aP (Wf.parse x (n+1) (.ref nm) (123::r)) (123::r) rb sb w (.returned (.agg #[.int .u8 82,.string ⟨#[]⟩,.int .i64 0,.slice a m c])) W4:=fun W4 hb=>by
     obtain⟨hv,hf⟩:=R6.out.bld.out hb (zaA) (by omega) HM.out 82 [] 0 ⟨by omega,fun _=>.inr (.inr (.inr (.inl rfl))),fun h=>absurd h (by decide)⟩;exact⟨_,.mk 82 [] 0 l,r2,rfl,hv,hf,.inr ⟨HRES.out,HBAD.out,S6.out.beside hb (by omega)⟩⟩
    refine hR _ ?_
    (repeat (first|with_reducible exact aA.refl _ _|with_reducible refine aA.drew ?_|with_reducible refine aA.trans ?_ (aA.set _ _ _ _))))
theorem xG (s:List UInt8) (hx:Wf.ScOk x) (htx:t∈x) (hf:x.find nm=some t) (ht:t.fields.length<=1000) (lo tb:Nat) (hW:Below W.heap.size W w) (hsc:ScL W lo sb x) (hT:TyL W lo tb t) (h82:t.sort=82) (hWr:W.heap.size<=rb) (IH:∀ f∈t.fields,Reads x rb sb W n f.kind) (hn:s.length<n+1) (h400:s.length<=400) (H:Sn w rb sb s false):Calls Tryz.prog 116 #[ptr rb,ptr tb] w fun e w'=>aP (Wf.parse x (n+1) (.ref nm) s) s rb sb w e w':=by
 cases s with
 | nil=>exact rI x rb sb W n t nm [] w hf lo tb hW hT h82 H (by simp)
 | cons a r =>
  by_cases ha:a=123
  ·subst ha
   cases r with
   | nil=>exact sK x rb sb W n t nm w hx htx [] (by simp) hf ht lo tb hW hsc hT h82 hWr IH (by simpa using hn) (by simp) H
   | cons b q =>
    by_cases hb:b=125
    ·subst hb;exact a2S x rb sb W n t nm w q hf lo tb hW hT h82 H
    ·exact sK x rb sb W n t nm w hx htx (b::q) (by simpa using hb) hf ht lo tb hW hsc hT h82 hWr IH (by simp at hn ⊢;omega) (by simp at h400 ⊢;omega) H
  ·exact rI x rb sb W n t nm (a::r) w hf lo tb hW hT h82 H (by simpa using ha)
theorem ofType (s:List UInt8) (hx:Wf.ScOk x) (htx:t∈x) (hf:x.find nm=some t) (lo tb:Nat) (hW:Below W.heap.size W w) (hsc:ScL W lo sb x) (hT:TyL W lo tb t) (hWr:W.heap.size<=rb) (IH:t.sort≠69->∀ f∈t.fields,Reads x rb sb W n f.kind) (hn:s.length<n+1) (h400:s.length<=400) (H:Sn w rb sb s false):Calls Tryz.prog 116 #[ptr rb,ptr tb] w fun e w'=>aP (Wf.parse x (n+1) (.ref nm) s) s rb sb w e w':=by
 have htok:=hx.tys t htx;have ht:t.fields.length<=1000:=by have:=htok.len;omega
 rcases htok.sort with h|h|h
 ·exact xG x rb sb W n t nm w s hx htx hf ht lo tb hW hsc hT h hWr (IH (by rw[h];decide)) hn h400 H
 ·exact a0M rb sb W t s w x n nm h400 hn hf ht lo tb hW hT h hWr H (IH (by rw[h];decide))
 ·exact uB rb sb W t s w x n nm h400 hf ht lo tb hW hT h hWr H
end
