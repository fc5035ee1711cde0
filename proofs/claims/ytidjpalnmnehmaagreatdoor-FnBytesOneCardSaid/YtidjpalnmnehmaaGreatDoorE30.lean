/- Packed by pack.py: Vw. -/
import Derived.Test.YtidjpalnmnehmaaGreatDoorE29
namespace Go.Proofs.YtidjpalnmnehmaaGreatDoor
open Go.ChangeShapes Go.WideShapes Go.ChangeAt Go.RowKit Go.Lib
set_option linter.unusedVariables false
set_option linter.unusedSimpArgs false
set_option maxRecDepth 20000 in
theorem part_w (SG S1 BS NM:ByteArray) (c:UInt8) (h:SG=⟨(c::S1.data.toList).toArray⟩) (w:World):Calls Tryz.prog 96 #[.agg #[.string SG, .string BS, .string NM]] w fun e w'=>e=.returned (.agg #[.string S1, .string BS, .string NM])∧Below w.heap.size w w':=by
 have h1:1≤SG.size:=by
  rw[h]
  show 1≤(c::S1.data.toList).toArray.size
  simp
 have h2:SG.extract 1 SG.size=S1:=by
  apply ByteArray.ext
  rw[ByteArray.data_extract,h]
  show(c::S1.data.toList).toArray.extract 1 (c::S1.data.toList).toArray.size=S1.data
  simp
  have hz:S1.size=S1.data.toList.length:=rfl
  rw[hz,List.take_length]
 clear h
 go_enter Tryz.func96,Tryz.ntmps96
 go_wp2_with fail
 exact bodyPost_ret (v:=.agg #[.string S1, .string BS, .string NM]) (by simp[results,Tryz.results96,go_sem, *]) rfl ⟨rfl,((Below.refl _ _).alloc (Nat.le_refl _) _).alloc (by simp) _⟩
theorem part_list (k:Wf.K) (w:World):Calls Tryz.prog 96 #[kV (.list k)] w fun e w'=>e=.returned (kV k)∧Below w.heap.size w w' :=
 part_w _ ⟨k.signs.toArray⟩ _ _ 91 rfl w
theorem part_opt (k:Wf.K) (w:World):Calls Tryz.prog 96 #[kV (.opt k)] w fun e w'=>e=.returned (kV k)∧Below w.heap.size w w' :=
 part_w _ ⟨k.signs.toArray⟩ _ _ 63 rfl w
set_option maxRecDepth 20000 in
set_option maxHeartbeats 1000000 in
theorem value_list (x:Wf.Sc) (rb sb:Nat) (W:World) (n:Nat) (k:Wf.K) (s:List UInt8) (w:World) (hW:Below W.heap.size W w) (hWr:W.heap.size≤rb) (IH:Reads x rb sb W n k) (hn:s.length<n+1) (h400:s.length≤400) (H:Sn w rb sb s false):Calls Tryz.prog 74 #[ptr rb,kV (.list k)] w fun e w'=>RdOut (Wf.parse x (n+1) (.list k) s) s rb sb w e w':=by
 have hrb:=H.lt
 have c2:=H.c2
 have HH:=hid H
 have HW:=hid hW
 have HLS:=hid fun(w2:World) (hb:Below W.heap.size W w2) (h:Sn w2 rb sb s false)=>list_any x rb sb W n k s w2 hb hWr IH hn h400 h
 have HPT:=hid fun w2=>part_list k w2
 have HSG:=hid fun w2=>sign (.list k) w2
 obtain⟨SG,hSG⟩:∃ SG:ByteArray,(⟨(Wf.K.list k).signs.toArray⟩:ByteArray)=SG:=⟨_,rfl⟩
 obtain⟨BS,hBS⟩:∃ BS:ByteArray,(⟨(Wf.K.list k).base.toArray⟩:ByteArray)=BS:=⟨_,rfl⟩
 obtain⟨NM,hNM⟩:∃ NM:ByteArray,(⟨(Wf.K.list k).name.toArray⟩:ByteArray)=NM:=⟨_,rfl⟩
 have hkv:kV (.list k)=.agg #[.string SG, .string BS, .string NM]:=by simp only[kV,tx,hSG,hBS,hNM]
 rw[hkv] at HPT HSG
 rw[hkv]
 have hsn:signN (.list k)=91:=rfl
 rw[hsn] at HSG
 have ST:=hid fun W1 h=>start_value w SG BS NM W1 h
 clear H hW IH hSG hBS hNM hkv hsn
 go_enter Tryz.func74,Tryz.ntmps74
 go_wp2_with (first|(go_at_call 111;refine(HLS.out _ BW2.out S2.out).mono ?_;rintro e w3 ⟨cs,v,r,rfl,hvc,hb3,ho⟩;obtain⟨q2,g2,n2,c2,T2,a2,rfl⟩:=hvc.cells4;have HVC:=hid hvc;have HO:=hid ho;have HB3:=hid (HB2.out.trans hb3);have Z3:=hid (Z2.out.step hb3 (by omega));obtain⟨zl,zr0,zr1,zr2,zr3,zf0,zf1,zf2,zf3⟩:=Z3.out;clear hvc ho hb3)|(go_at_call 96;refine(HPT.out _).mono ?_;rintro e w2 ⟨rfl,hb2⟩;have S2:=hid (S1.out.below hb2);have HB2:=hid (HB1.out.trans (Beside.of_below hb2 (Nat.le_refl _)));have Z2:=hid (Z1.out.below hb2 Z1.out.lt);have BW2:=hid (Beside.below HW.out HW.out.size hWr HB2.out);have hsz2:=Nat.lt_of_lt_of_le Z1.out.lt hb2.size;clear hb2)|(go_at_call 95;obtain⟨d0,d1,d2,z0,b0⟩:=ST.out _ rfl;refine(HSG.out _).mono ?_;rintro e w1 ⟨rfl,hb1⟩;have b01:=below_join b0 hb1;have hz:=Nat.lt_of_lt_of_le (Nat.lt_succ_self _) (Nat.le_of_lt z0.lt);have e0:=(hb1.cell (p:=⟨w.heap.size,0,none⟩) hz).trans d0;have e1:=(hb1.cell (p:=⟨w.heap.size,1,none⟩) hz).trans d1;have e2:=(hb1.cell (p:=⟨w.heap.size,2,none⟩) hz).trans d2;have S1:=hid (HH.out.below b01);have HB1:=hid (Beside.of_below (rb:=rb) b01 (Nat.le_refl _));have Z1:=hid (z0.below hb1 z0.lt);clear hb1 b01 b0 d0 d1 d2 z0 hz))
 all_goals exact bodyPost_ret (v:=.agg #[.int .u8 q2, .string T2, .int .i64 g2, .slice a2 n2 c2]) (by simp[results,Tryz.results74,go_sem, *]) rfl (by
  have hR:∀ W4,Beside (w.heap.size+1) w3 W4→RdOut (Wf.parse x (n+1) (.list k) s) s rb sb w (.returned (.agg #[.int .u8 q2, .string T2, .int .i64 g2, .slice a2 n2 c2])) W4:=fun W4 hb=>by
   refine⟨[.int .u8 q2, .string T2, .int .i64 g2, .slice a2 n2 c2],v,r,rfl,VC.keep (P:=fun b=>w2.heap.size≤b) (fun b hp hlt=>⟨by omega,hb.block b hlt (by omega)⟩) hb.size _ _ HVC.out,HB3.out.on hb (by omega), ?_⟩
   rcases HO.out with⟨hp,sn⟩|⟨hp,hbv,sn⟩
   ·exact .inl ⟨hp,sn.beside hb (by omega)⟩
   ·exact .inr ⟨hp,hbv,sn.beside hb (by omega)⟩
  refine hR _ ?_
  repeat (first|with_reducible exact Beside.refl _ _|with_reducible refine Beside.drew ?_|with_reducible refine Beside.trans ?_ (Beside.set _ _ _ _)))
set_option maxRecDepth 20000 in
set_option maxHeartbeats 1000000 in
theorem value_opt_none (x:Wf.Sc) (rb sb:Nat) (n:Nat) (k:Wf.K) (q:List UInt8) (w:World) (H:Sn w rb sb (45::q) false):Calls Tryz.prog 74 #[ptr rb,kV (.opt k)] w fun e w'=>RdOut (Wf.parse x (n+1) (.opt k) (45::q)) (45::q) rb sb w e w':=by
 have hrb:=H.lt
 have c2:=H.c2
 have HH:=hid H
 have HP:=hid (Wf.parse_opt_none x n k q)
 have HSG:=hid fun w2=>sign (.opt k) w2
 obtain⟨SG,hSG⟩:∃ SG:ByteArray,(⟨(Wf.K.opt k).signs.toArray⟩:ByteArray)=SG:=⟨_,rfl⟩
 obtain⟨BS,hBS⟩:∃ BS:ByteArray,(⟨(Wf.K.opt k).base.toArray⟩:ByteArray)=BS:=⟨_,rfl⟩
 obtain⟨NM,hNM⟩:∃ NM:ByteArray,(⟨(Wf.K.opt k).name.toArray⟩:ByteArray)=NM:=⟨_,rfl⟩
 have hkv:kV (.opt k)=.agg #[.string SG, .string BS, .string NM]:=by simp only[kV,tx,hSG,hBS,hNM]
 rw[hkv] at HSG
 rw[hkv]
 have hsn:signN (.opt k)=63:=rfl
 rw[hsn] at HSG
 have ST:=hid fun W1 h=>start_value w SG BS NM W1 h
 clear H hSG hBS hNM hkv hsn
 go_enter Tryz.func74,Tryz.ntmps74
 go_wp2_with (first|(go_at_call 112;refine(take_yes rb sb _ [45] q S1.out).mono ?_;rintro e w3 ⟨rfl,hs3,hb3⟩;have S3:=hid hs3;have HB3:=hid (HB1.out.trans hb3);have Z3:=hid (Z1.out.step hb3 (by omega));obtain⟨zl,zr0,zr1,zr2,zr3,zf0,zf1,zf2,zf3⟩:=Z3.out;clear hs3 hb3)|(go_at_call 95;obtain⟨d0,d1,d2,z0,b0⟩:=ST.out _ rfl;refine(HSG.out _).mono ?_;rintro e w1 ⟨rfl,hb1⟩;have b01:=below_join b0 hb1;have S1:=hid (HH.out.below b01);have HB1:=hid (Beside.of_below (rb:=rb) b01 (Nat.le_refl _));have Z1:=hid (z0.below hb1 z0.lt);clear hb1 b01 b0 d0 d1 d2 z0))
 all_goals exact bodyPost_ret (v:=.agg #[.int .u8 63, .string ⟨#[]⟩, .int .i64 (0:Nat), .slice none 0 0]) (by simp[results,Tryz.results74,go_sem, *]) rfl (by
  have hR:∀ W4,Beside (w.heap.size+1) w3 W4→RdOut (Wf.parse x (n+1) (.opt k) (45::q)) (45::q) rb sb w (.returned (.agg #[.int .u8 63, .string ⟨#[]⟩, .int .i64 (0:Nat), .slice none 0 0])) W4:=fun W4 hb =>
   ⟨_, .mk 63 [] 0 [],q,rfl,VC.leaf 63 [] 0 (by omega) (by decide),HB3.out.on hb (by omega), .inl ⟨HP.out,S3.out.beside hb (by omega)⟩⟩
  refine hR _ ?_
  repeat (first|with_reducible exact Beside.refl _ _|with_reducible refine Beside.drew ?_|with_reducible refine Beside.trans ?_ (Beside.set _ _ _ _)))
set_option maxRecDepth 20000 in
set_option maxHeartbeats 1000000 in
theorem value_opt_some (x:Wf.Sc) (rb sb:Nat) (W:World) (n:Nat) (k:Wf.K) (r:List UInt8) (w:World) (hW:Below W.heap.size W w) (hWr:W.heap.size≤rb) (IH:Reads x rb sb W n k) (hn:r.length<n) (h400:r.length≤400) (H:Sn w rb sb (43::r) false):Calls Tryz.prog 74 #[ptr rb,kV (.opt k)] w fun e w'=>RdOut (Wf.parse x (n+1) (.opt k) (43::r)) (43::r) rb sb w e w':=by
 have hrb:=H.lt
 have c2:=H.c2
 have HH:=hid H
 have HW:=hid hW
 have HP:=hid (Wf.parse_opt_some x n k r)
 have HIH:=hid IH
 have HPT:=hid fun w2=>part_opt k w2
 have HSG:=hid fun w2=>sign (.opt k) w2
 obtain⟨SG,hSG⟩:∃ SG:ByteArray,(⟨(Wf.K.opt k).signs.toArray⟩:ByteArray)=SG:=⟨_,rfl⟩
 obtain⟨BS,hBS⟩:∃ BS:ByteArray,(⟨(Wf.K.opt k).base.toArray⟩:ByteArray)=BS:=⟨_,rfl⟩
 obtain⟨NM,hNM⟩:∃ NM:ByteArray,(⟨(Wf.K.opt k).name.toArray⟩:ByteArray)=NM:=⟨_,rfl⟩
 have hkv:kV (.opt k)=.agg #[.string SG, .string BS, .string NM]:=by simp only[kV,tx,hSG,hBS,hNM]
 rw[hkv] at HSG HPT
 rw[hkv]
 have hsn:signN (.opt k)=63:=rfl
 rw[hsn] at HSG
 have ST:=hid fun W1 h=>start_value w SG BS NM W1 h
 clear H hW IH hSG hBS hNM hkv hsn
 go_enter Tryz.func74,Tryz.ntmps74
 go_wp2_with (first|(go_at_call 74;refine(HIH.out r _ BW4.out S4.out hn h400).mono ?_;rintro e w5 ⟨cs,v,r5,rfl,hvc,hb5,ho⟩;obtain⟨q2,g2,n2,c2,T2,a2,rfl⟩:=hvc.cells4;have HVC:=hid hvc;have HO:=hid ho;have HB5:=hid (HB4.out.trans hb5);have Z5:=hid (Z4.out.step hb5 (by omega));obtain⟨zl,zr0,zr1,zr2,zr3,zf0,zf1,zf2,zf3⟩:=Z5.out;clear hvc ho hb5)|(go_at_call 96;refine(HPT.out _).mono ?_;rintro e w4 ⟨rfl,hb4⟩;have S4:=hid (S3.out.below hb4);have HB4:=hid (HB3.out.trans (Beside.of_below hb4 (Nat.le_refl _)));have Z4:=hid (Z3.out.below hb4 Z3.out.lt);have hz4:=Z4.out.lt;have BW4:=hid (Beside.below HW.out HW.out.size hWr HB4.out);clear hb4)|(go_at_call 113;refine(want_yes rb sb _ [43] r S1.out).mono ?_;rintro e w3 ⟨rfl,hs3,hb3⟩;have S3:=hid hs3;have HB3:=hid (HB1.out.trans hb3);have Z3:=hid (Z1.out.step hb3 (by omega));have k0:=(hb3.cell (p:=⟨w.heap.size,0,none⟩) hz (by show w.heap.size≠rb;omega)).trans e0;have k1:=(hb3.cell (p:=⟨w.heap.size,1,none⟩) hz (by show w.heap.size≠rb;omega)).trans e1;have k2:=(hb3.cell (p:=⟨w.heap.size,2,none⟩) hz (by show w.heap.size≠rb;omega)).trans e2;clear hs3 hb3)|(go_at_call 112;refine(take_no rb sb _ (43::r) [45] false S1.out (.inr (by rw[pre1];simp))).mono ?_;rintro e w2 ⟨rfl,rfl⟩)|(go_at_call 95;obtain⟨d0,d1,d2,z0,b0⟩:=ST.out _ rfl;refine(HSG.out _).mono ?_;rintro e w1 ⟨rfl,hb1⟩;have b01:=below_join b0 hb1;have hz:=Nat.lt_of_lt_of_le (Nat.lt_succ_self _) (Nat.le_of_lt z0.lt);have e0:=(hb1.cell (p:=⟨w.heap.size,0,none⟩) hz).trans d0;have e1:=(hb1.cell (p:=⟨w.heap.size,1,none⟩) hz).trans d1;have e2:=(hb1.cell (p:=⟨w.heap.size,2,none⟩) hz).trans d2;have S1:=hid (HH.out.below b01);have HB1:=hid (Beside.of_below (rb:=rb) b01 (Nat.le_refl _));have Z1:=hid (z0.below hb1 z0.lt);have hz:=Nat.lt_of_lt_of_le hz hb1.size;clear hb1 b01 b0 d0 d1 d2 z0))
 all_goals exact bodyPost_ret (v:=.agg #[.int .u8 63, .string ⟨#[]⟩, .int .i64 (0:Nat), .slice (some ⟨w5.heap.size,0,none⟩) 1 1]) (by simp[results,Tryz.results74,go_sem, *]) rfl (by
  have hR:∀ W4,Beside (w.heap.size+1) w5 W4→w5.heap.size<W4.heap.size→(∀ j u,[Value.int .u8 q2,Value.string T2,Value.int .i64 g2,Value.slice a2 n2 c2][j]? = some u→W4.cell? ⟨w5.heap.size,0+j,none⟩=some u)→RdOut (Wf.parse x (n+1) (.opt k) (43::r)) (43::r) rb sb w (.returned (.agg #[.int .u8 63, .string ⟨#[]⟩, .int .i64 (0:Nat), .slice (some ⟨w5.heap.size,0,none⟩) 1 1])) W4:=fun W4 hb hl hc=>by
   refine⟨_, .mk 63 [] 0 [v],r5,rfl,VC.one (VC.keep (P:=fun b=>w4.heap.size≤b) (fun b hp hlt=>⟨by omega,hb.block b hlt (by omega)⟩) hb.size _ _ HVC.out) (by omega) hl hc 63 [] 0 ⟨by omega,fun _=>.inr (.inl rfl),fun h=>absurd h (by decide)⟩,HB5.out.on hb (by omega), ?_⟩
   rcases HO.out with⟨hp,sn⟩|⟨hp,hbv,sn⟩
   ·exact .inl ⟨by rw[HP.out,hp];rfl,sn.beside hb (by omega)⟩
   ·exact .inr ⟨by rw[HP.out,hp];rfl,Wf.bad_opt rfl hbv,sn.beside hb (by omega)⟩
  refine hR _ ?_ ?_ ?_
  ·repeat (first|with_reducible exact Beside.refl _ _|with_reducible refine Beside.drew ?_|with_reducible refine Beside.alloc ?_ _|with_reducible refine Beside.trans ?_ (Beside.set _ _ _ _))
  ·simp
  ·intro j u hu
   rcases j with _|_|_|_|j <;> simp at hu <;> subst hu <;> simp[go_sem])
set_option maxRecDepth 20000 in
set_option maxHeartbeats 1000000 in
theorem value_opt_no (x:Wf.Sc) (rb sb:Nat) (W:World) (n:Nat) (k:Wf.K) (r:List UInt8) (w:World) (h1:r.head? ≠ some 45) (h2:r.head? ≠ some 43) (hW:Below W.heap.size W w) (hWr:W.heap.size≤rb) (H:Sn w rb sb r false):Calls Tryz.prog 74 #[ptr rb,kV (.opt k)] w fun e w'=>RdOut (Wf.parse x (n+1) (.opt k) r) r rb sb w e w':=by
 have hrb:=H.lt
 have c2:=H.c2
 have HH:=hid H
 have HW:=hid hW
 have HP:=hid (Wf.parse_opt_no x n k h1 h2)
 have HY:=hid (And.intro (fun hp=>h1 ((pre1 45 r).1 hp)) (fun hp=>h2 ((pre1 43 r).1 hp)))
 have HPT:=hid fun w2=>part_opt k w2
 have HSG:=hid fun w2=>sign (.opt k) w2
 obtain⟨SG,hSG⟩:∃ SG:ByteArray,(⟨(Wf.K.opt k).signs.toArray⟩:ByteArray)=SG:=⟨_,rfl⟩
 obtain⟨BS,hBS⟩:∃ BS:ByteArray,(⟨(Wf.K.opt k).base.toArray⟩:ByteArray)=BS:=⟨_,rfl⟩
 obtain⟨NM,hNM⟩:∃ NM:ByteArray,(⟨(Wf.K.opt k).name.toArray⟩:ByteArray)=NM:=⟨_,rfl⟩
 have hkv:kV (.opt k)=.agg #[.string SG, .string BS, .string NM]:=by simp only[kV,tx,hSG,hBS,hNM]
 rw[hkv] at HSG HPT
 rw[hkv]
 have hsn:signN (.opt k)=63:=rfl
 rw[hsn] at HSG
 have ST:=hid fun W1 h=>start_value w SG BS NM W1 h
 clear H hW h1 h2 hSG hBS hNM hkv hsn
 go_enter Tryz.func74,Tryz.ntmps74
 go_wp2_with (first|(go_at_call 74;refine(value_bad rb sb r _ k S4.out).mono ?_;rintro e w5 ⟨rfl,hb5,ho⟩;have HO:=hid ho;have HB5:=hid (HB4.out.trans hb5);have Z5:=hid (Z4.out.step hb5 (by omega));obtain⟨zl,zr0,zr1,zr2,zr3,zf0,zf1,zf2,zf3⟩:=Z5.out;clear ho hb5)|(go_at_call 96;refine(HPT.out _).mono ?_;rintro e w4 ⟨rfl,hb4⟩;have S4:=hid (S3.out.below hb4);have HB4:=hid (HB3.out.trans (Beside.of_below hb4 (Nat.le_refl _)));have Z4:=hid (Z3.out.below hb4 Z3.out.lt);have hz4:=Z4.out.lt;have BW4:=hid (Beside.below HW.out HW.out.size hWr HB4.out);clear hb4)|(go_at_call 113;refine(want_no rb sb _ r [43] false S1.out (.inr HY.out.2)).mono ?_;rintro e w3 ⟨rfl,hs3,hb3⟩;have S3:=hid hs3;have HB3:=hid (HB1.out.trans hb3);have Z3:=hid (Z1.out.step hb3 (by omega));have k0:=(hb3.cell (p:=⟨w.heap.size,0,none⟩) hz (by show w.heap.size≠rb;omega)).trans e0;have k1:=(hb3.cell (p:=⟨w.heap.size,1,none⟩) hz (by show w.heap.size≠rb;omega)).trans e1;have k2:=(hb3.cell (p:=⟨w.heap.size,2,none⟩) hz (by show w.heap.size≠rb;omega)).trans e2;clear hs3 hb3)|(go_at_call 112;refine(take_no rb sb _ r [45] false S1.out (.inr HY.out.1)).mono ?_;rintro e w2 ⟨rfl,rfl⟩)|(go_at_call 95;obtain⟨d0,d1,d2,z0,b0⟩:=ST.out _ rfl;refine(HSG.out _).mono ?_;rintro e w1 ⟨rfl,hb1⟩;have b01:=below_join b0 hb1;have hz:=Nat.lt_of_lt_of_le (Nat.lt_succ_self _) (Nat.le_of_lt z0.lt);have e0:=(hb1.cell (p:=⟨w.heap.size,0,none⟩) hz).trans d0;have e1:=(hb1.cell (p:=⟨w.heap.size,1,none⟩) hz).trans d1;have e2:=(hb1.cell (p:=⟨w.heap.size,2,none⟩) hz).trans d2;have S1:=hid (HH.out.below b01);have HB1:=hid (Beside.of_below (rb:=rb) b01 (Nat.le_refl _));have Z1:=hid (z0.below hb1 z0.lt);have hz:=Nat.lt_of_lt_of_le hz hb1.size;clear hb1 b01 b0 d0 d1 d2 z0))
 all_goals exact bodyPost_ret (v:=.agg #[.int .u8 63, .string ⟨#[]⟩, .int .i64 (0:Nat), .slice (some ⟨w5.heap.size,0,none⟩) 1 1]) (by simp[results,Tryz.results74,go_sem, *]) rfl (by
  have hR:∀ W4,Beside (w.heap.size+1) w5 W4→w5.heap.size<W4.heap.size→(∀ j u,[Value.int .u8 0,Value.string ⟨#[]⟩,Value.int .i64 (0:Nat),Value.slice none 0 0][j]? = some u→W4.cell? ⟨w5.heap.size,0+j,none⟩=some u)→RdOut (Wf.parse x (n+1) (.opt k) r) r rb sb w (.returned (.agg #[.int .u8 63, .string ⟨#[]⟩, .int .i64 (0:Nat), .slice (some ⟨w5.heap.size,0,none⟩) 1 1])) W4:=fun W4 hb hl hc=>by
   exact⟨_, .mk 63 [] 0 [.mk 0 [] 0 []],r,rfl,VC.one (VC.leaf 0 [] 0 (by omega) (by decide)) (by omega) hl hc 63 [] 0 ⟨by omega,fun _=>.inr (.inl rfl),fun h=>absurd h (by decide)⟩,HB5.out.on hb (by omega), .inr ⟨HP.out,Wf.bad_opt0,HO.out.beside hb (by omega)⟩⟩
  refine hR _ ?_ ?_ ?_
  ·repeat (first|with_reducible exact Beside.refl _ _|with_reducible refine Beside.drew ?_|with_reducible refine Beside.alloc ?_ _|with_reducible refine Beside.trans ?_ (Beside.set _ _ _ _))
  ·simp
  ·intro j u hu
   rcases j with _|_|_|_|j <;> simp at hu <;> subst hu <;> simp[go_sem])
end Go.Proofs.YtidjpalnmnehmaaGreatDoor
