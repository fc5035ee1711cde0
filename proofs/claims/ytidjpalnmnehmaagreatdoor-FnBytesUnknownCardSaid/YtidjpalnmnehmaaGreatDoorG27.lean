/- Packed. -/
import Derived.Test.YtidjpalnmnehmaaGreatDoorG26
set_option maxRecDepth 99999
set_option maxHeartbeats 40000000
set_option linter.all false
namespace Go.Proofs.YtidjpalnmnehmaaGreatDoor
open Go.ChangeShapes Go.WideShapes Go.ChangeAt Go.RowKit Go.Lib
theorem eQ (w:World) (SG BS NM:ByteArray) (W1:World) (hW1:(w.alloc (.cells #[.string SG,.string BS,.string NM] 48)).alloc (.cells #[.int .u8 0,.string ⟨#[]⟩,.int .i64 0,.slice none 0 0] 51)=W1) :
  W1.cell? ⟨w.heap.size,0,none⟩=some (.string SG)/\W1.cell? ⟨w.heap.size,1,none⟩=some (.string BS)/\W1.cell? ⟨w.heap.size,2,none⟩=some (.string NM)/\Zero W1 (w.heap.size+1)/\Below w.heap.size w W1:=by
 have hB:Below w.heap.size w W1:=by
  rw[<-hW1];exact(((zaB).alloc (zaA) _).alloc (by simp) _)
 subst hW1;refine⟨?_,?_,?_,⟨?_,?_,?_,?_,?_,?_,?_,?_,?_⟩,hB⟩;all_goals first|(simp[go_sem];done)|(simp[go_sem];omega)
section
variable (rb sb:Nat) (W:World) (s:List UInt8) (w:World)
theorem a2T (k:Wf.K) (H:Sn w rb sb s true):Calls Tryz.prog 74 #[ptr rb,kV k] w fun e w'=>e=.returned (.agg #[.int .u8 0,.string ⟨#[]⟩,.int .i64 0,.slice none 0 0])/\aA rb w w'/\Sn w' rb sb s true:=by
 have hrb:=H.lt;have c2:=H.c2;have HH:=hid H;obtain⟨SG,hSG⟩:∃ SG:ByteArray,(⟨k.signs.toArray⟩:ByteArray)=SG:=⟨_,rfl⟩;obtain⟨BS,hBS⟩:∃ BS:ByteArray,(⟨k.base.toArray⟩:ByteArray)=BS:=⟨_,rfl⟩;obtain⟨NM,hNM⟩:∃ NM:ByteArray,(⟨k.name.toArray⟩:ByteArray)=NM:=⟨_,rfl⟩;simp only[kV,tx,hSG,hBS,hNM];clear H hSG hBS hNM;go_enter Tryz.func74,Tryz.ntmps74;go_wp2_with fail
 exact zbD (v:=.agg #[.int .u8 0,.string ⟨#[]⟩,.int .i64 0,.slice none 0 0]) (by simp[results,Tryz.results74,go_sem, *]) rfl (by
  have hB:∀ W4,Below w.heap.size w W4->(Ending.returned (.agg #[.int .u8 0,.string ⟨#[]⟩,.int .i64 0,.slice none 0 0])=.returned (.agg #[.int .u8 0,.string ⟨#[]⟩,.int .i64 0,.slice none 0 0])/\aA rb w W4/\Sn W4 rb sb s true):=fun W4 hb=>⟨rfl,aA.aF hb (zaA),HH.out.below hb⟩;refine hB _ ?_;repeat (first|with_reducible exact zaB|with_reducible refine zbE ?_|with_reducible refine zbF ?_ (by simp) _|with_reducible refine zbG ?_ (by simp) _))
theorem a0Z (x:Wf.Sc) (n:Nat) (hs:s.length<=400) (H:Sn w rb sb s false):Calls Tryz.prog 74 #[ptr rb,kV .num] w fun e w'=>aP (Wf.parse x (n+1) .num s) s rb sb w e w':=by
 obtain⟨m,hm⟩:∃ m,numV (s.takeWhile Wf.aB)=m:=⟨_,rfl⟩;obtain⟨s1,hs1⟩:∃ s1,s.dropWhile Wf.aB=s1:=⟨_,rfl⟩;obtain⟨b1,hb1⟩:∃ b1,(false || !(Wf.aH (s.takeWhile Wf.aB) 999999).isSome)=b1:=⟨_,rfl⟩;have HNUM:=hid fun w2 (h:Sn w2 rb sb s false)=>number rb sb w2 s false 999999 (by omega) (by omega) h;rw[hm,hs1,hb1] at HNUM;have hmle:m<=999999:=by rw[<-hm];exact fZ _
 have HP:=hid (show(b1=false/\Wf.parse x (n+1) .num s=some (.mk 110 (Wf.dec m) 0 [],s1))\/(b1=true/\Wf.parse x (n+1) .num s=none) by
  rw[Bool.false_or] at hb1;cases hp:Wf.aH (s.takeWhile Wf.aB) 999999 with
  | none =>
   rw[hp] at hb1;exact .inr ⟨by rw[<-hb1];rfl,by rw[Wf.jV,Wf.aM,hp];rfl⟩
  | some g =>
   have hmg:m=g:=(by rw[<-hm];exact iN hp);rw[hp] at hb1;exact .inl ⟨by rw[<-hb1];rfl,by rw[Wf.jV,Wf.aM,hp,hs1,hmg];rfl⟩)
 have HLE:=hid (show s1.length<=s.length by rw[<-hs1];exact(List.dropWhile_suffix _).length_le);have hrb:=H.lt;have c2:=H.c2;have HH:=hid H;have ST:=hid fun W1 h=>eQ w ⟨#[]⟩ ⟨#[110]⟩ ⟨#[]⟩ W1 h;have HSG:=hid fun w2=>kD ⟨#[]⟩ ⟨#[110]⟩ ⟨#[]⟩ 0 (.inl ⟨by rw[zaZ];rfl,rfl⟩) w2;have hkv:kV .num=.agg #[.string ⟨#[]⟩,.string ⟨#[110]⟩,.string ⟨#[]⟩]:=by rfl
 rw[hkv];clear H hm hs1 hb1 hkv;go_enter Tryz.func74,Tryz.ntmps74;go_wp2_with (first|(go_at_call 60;refine(gS m m _ (zaA) hmle).mono ?_;rintro e w3 ⟨rfl,hb3⟩;have S3:=hid (S2.out.below hb3);have HB3:=hid (HB2.out.trans (aA.aF hb3 (zaA)));have Z3:=hid (Z2.out.below hb3 Z2.out.lt);obtain⟨zl,zr0,zr1,zr2,zr3,zf0,zf1,zf2,zf3⟩:=Z3.out;clear hb3)|(go_at_call 114;refine(HNUM.out _ S1.out).mono ?_;rintro e w2 ⟨rfl,hs2,hb2⟩;have S2:=hid hs2;have HB2:=hid (HB1.out.trans hb2);have Z2:=hid (Z1.out.step hb2 (by omega));clear hs2 hb2)|(go_at_call 95;obtain⟨d0,d1,d2,z0,b0⟩:=ST.out _ rfl;refine(HSG.out _).mono ?_;rintro e w1 ⟨rfl,hb1⟩;have b01:=aE b0 hb1;have e1:=(hb1.cell (p:=⟨w.heap.size,1,none⟩) (zaC (zaH _) (Nat.le_of_lt z0.lt))).trans d1;have S1:=hid (HH.out.below b01);have HB1:=hid (aA.aF (rb:=rb) b01 (zaA));have Z1:=hid (z0.below hb1 z0.lt);clear hb1 b01 b0 d0 d1 d2 z0))
 all_goals exact zbD (v:=.agg #[.int .u8 110,tx (Wf.dec m),.int .i64 (0:Nat),.slice none 0 0]) (by simp[results,Tryz.results74,go_sem, *]) rfl (by
  have hR:∀ W4,aA (w.heap.size+1) w3 W4->aP (Wf.parse x (n+1) .num s) s rb sb w (.returned (.agg #[.int .u8 110,tx (Wf.dec m),.int .i64 (0:Nat),.slice none 0 0])) W4:=fun W4 hb=>by
   refine⟨_,.mk 110 (Wf.dec m) 0 [],s1,rfl,VC.leaf 110 (Wf.dec m) 0 (by omega) (by decide),HB3.out.on hb (by omega),?_⟩;have sn:=S3.out.beside hb (by omega);rcases HP.out with⟨rfl,hp⟩|⟨rfl,hp⟩
   ·exact .inl ⟨hp,sn⟩
   ·exact .inr ⟨hp,Wf.a0K hmle HLE.out,sn⟩
  refine hR _ ?_;repeat (first|with_reducible exact aA.refl _ _|with_reducible refine aA.drew ?_|with_reducible refine aA.trans ?_ (aA.set _ _ _ _)))
theorem a1J (x:Wf.Sc) (n:Nat) (hs:s.length<=400) (H:Sn w rb sb s false):Calls Tryz.prog 74 #[ptr rb,kV .txt] w fun e w'=>aP (Wf.parse x (n+1) .txt s) s rb sb w e w':=by
 have HQ:Hid (∀ w2,Sn w2 rb sb s false->Calls Tryz.prog 115 #[ptr rb] w2 fun e w'=>∃ t r bad,e=.returned (tx t)/\Sn w' rb sb r bad/\aA rb w2 w'/\((bad=false/\Wf.parse x (n+1) .txt s=some (.mk 116 t 0 [],r))\/(bad=true/\Wf.parse x (n+1) .txt s=none/\t.length+r.length<=s.length))):=by
  refine hid fun w2 h=>?_;have hno:Wf.parse x (n+1) .txt s=none->Calls Tryz.prog 115 #[ptr rb] w2 fun e w'=>∃ t r bad,e=.returned (tx t)/\Sn w' rb sb r bad/\aA rb w2 w'/\((bad=false/\Wf.parse x (n+1) .txt s=some (.mk 116 t 0 [],r))\/(bad=true/\Wf.parse x (n+1) .txt s=none/\t.length+r.length<=s.length)):=fun hp=>by
   refine(xG rb sb w2 x n s (by omega) h hp).mono ?_;rintro e w' ⟨t,r,rfl,hl,hsn,hb⟩;exact⟨t,r,true,rfl,hsn,hb,.inr ⟨rfl,hp,hl⟩⟩
  by_cases h1:∃ r q,s=39::r/\r.dropWhile Wf.aG=39::q/\(r.takeWhile Wf.aG).length<=12
  ·obtain⟨r,q,h1,h2,h3⟩:=h1
   refine(a5D rb sb w2 s r q (by omega) h h1 h2 h3).mono ?_;rintro e w' ⟨rfl,hsn,hb⟩;exact⟨_,q,false,rfl,hsn,hb,.inl ⟨rfl,Wf.mL x n h1 h2 h3⟩⟩
  ·apply hno
   by_cases h39:s.head? = some 39
   ·obtain⟨r,hr⟩:∃ r,s=39::r:=by
     cases s with
     | nil=>simp at h39
     | cons a r=>simp at h39;exact⟨r,by rw[h39]⟩
    by_cases h3:(r.takeWhile Wf.aG).length<=12
    ·refine Wf.mV x n hr fun h2=>?_
     obtain⟨q,hq⟩:∃ q,r.dropWhile Wf.aG=39::q:=by
      cases hd:r.dropWhile Wf.aG with
      | nil=>rw[hd] at h2;simp at h2
      | cons a q=>rw[hd] at h2;simp at h2;exact⟨q,by rw[h2]⟩
     exact h1 ⟨r,q,hr,hq,h3⟩
    ·exact Wf.rW x n hr h3
   ·exact Wf.kR x n h39
 have hrb:=H.lt;have c2:=H.c2;have HH:=hid H;have ST:=hid fun W1 h=>eQ w ⟨#[]⟩ ⟨#[116]⟩ ⟨#[]⟩ W1 h;have HSG:=hid fun w2=>kD ⟨#[]⟩ ⟨#[116]⟩ ⟨#[]⟩ 0 (.inl ⟨by rw[zaZ];rfl,rfl⟩) w2;have hkv:kV .txt=.agg #[.string ⟨#[]⟩,.string ⟨#[116]⟩,.string ⟨#[]⟩]:=by rfl
 rw[hkv];clear H hkv;go_enter Tryz.func74,Tryz.ntmps74;go_wp2_with (first|(go_at_call 115;refine(HQ.out _ S1.out).mono ?_;rintro e w3 ⟨t,r,bad,rfl,hs3,hb3,hd⟩;have HD:=hid hd;have S3:=hid hs3;have HB3:=hid (HB1.out.trans hb3);have Z3:=hid (Z1.out.step hb3 (by omega));obtain⟨zl,zr0,zr1,zr2,zr3,zf0,zf1,zf2,zf3⟩:=Z3.out;clear hs3 hb3 hd)|(go_at_call 95;obtain⟨d0,d1,d2,z0,b0⟩:=ST.out _ rfl;refine(HSG.out _).mono ?_;rintro e w1 ⟨rfl,hb1⟩;have b01:=aE b0 hb1;have e1:=(hb1.cell (p:=⟨w.heap.size,1,none⟩) (zaC (zaH _) (Nat.le_of_lt z0.lt))).trans d1;have S1:=hid (HH.out.below b01);have c21:=S1.out.c2;have HB1:=hid (aA.aF (rb:=rb) b01 (zaA));have Z1:=hid (z0.below hb1 z0.lt);clear hb1 b01 b0 d0 d1 d2 z0))
 all_goals exact zbD (v:=.agg #[.int .u8 116,tx t,.int .i64 (0:Nat),.slice none 0 0]) (by simp[results,Tryz.results74,go_sem, *]) rfl (by
  have hR:∀ W4,aA (w.heap.size+1) w3 W4->aP (Wf.parse x (n+1) .txt s) s rb sb w (.returned (.agg #[.int .u8 116,tx t,.int .i64 (0:Nat),.slice none 0 0])) W4:=fun W4 hb=>by
   refine⟨_,.mk 116 t 0 [],r,rfl,VC.leaf 116 t 0 (by omega) (by decide),HB3.out.on hb (by omega),?_⟩;have sn:=S3.out.beside hb (by omega);rcases HD.out with⟨rfl,hp⟩|⟨rfl,hp,hl⟩
   ·exact .inl ⟨hp,sn⟩
   ·exact .inr ⟨hp,Wf.a5Y hl,sn⟩
  refine hR _ ?_;repeat (first|with_reducible exact aA.refl _ _|with_reducible refine aA.drew ?_|with_reducible refine aA.trans ?_ (aA.set _ _ _ _)))
theorem a1S (x:Wf.Sc) (n:Nat) (H:Sn w rb sb s false):Calls Tryz.prog 74 #[ptr rb,kV .flag] w fun e w'=>aP (Wf.parse x (n+1) .flag s) s rb sb w e w':=by
 have hrb:=H.lt;have c2:=H.c2;have HH:=hid H;have ST:=hid fun W1 h=>eQ w ⟨#[]⟩ ⟨#[102]⟩ ⟨#[]⟩ W1 h;have HSG:=hid fun w2=>kD ⟨#[]⟩ ⟨#[102]⟩ ⟨#[]⟩ 0 (.inl ⟨by rw[zaZ];rfl,rfl⟩) w2;have hkv:kV .flag=.agg #[.string ⟨#[]⟩,.string ⟨#[102]⟩,.string ⟨#[]⟩]:=by rfl
 rw[hkv];by_cases hy:[121,101,115] <+: s
 ·obtain⟨q,hq⟩:=hy
  have HP:=hid (show Wf.parse x (n+1) .flag s=some (.mk 102 [121,101,115] 0 [],q) by rw[<-hq];exact Wf.tM x n q);have HT:=hid fun w2 (h:Sn w2 rb sb s false)=>fJ rb sb w2 [121,101,115] q (by rw[hq];exact h);clear H hkv hq;go_enter Tryz.func74,Tryz.ntmps74;go_wp2_with (first|(go_at_call 112;refine(HT.out _ S1.out).mono ?_;rintro e w3 ⟨rfl,hs3,hb3⟩;have S3:=hid hs3;have HB3:=hid (HB1.out.trans hb3);have Z3:=hid (Z1.out.step hb3 (by omega));obtain⟨zl,zr0,zr1,zr2,zr3,zf0,zf1,zf2,zf3⟩:=Z3.out;clear hs3 hb3)|(go_at_call 95;obtain⟨d0,d1,d2,z0,b0⟩:=ST.out _ rfl;refine(HSG.out _).mono ?_;rintro e w1 ⟨rfl,hb1⟩;have b01:=aE b0 hb1;have e1:=(hb1.cell (p:=⟨w.heap.size,1,none⟩) (zaC (zaH _) (Nat.le_of_lt z0.lt))).trans d1;have S1:=hid (HH.out.below b01);have HB1:=hid (aA.aF (rb:=rb) b01 (zaA));have Z1:=hid (z0.below hb1 z0.lt);clear hb1 b01 b0 d0 d1 d2 z0))
  all_goals exact zbD (v:=.agg #[.int .u8 102,.string ⟨#[121,101,115]⟩,.int .i64 (0:Nat),.slice none 0 0]) (by simp[results,Tryz.results74,go_sem, *]) rfl (by
   have hR:∀ W4,aA (w.heap.size+1) w3 W4->aP (Wf.parse x (n+1) .flag s) s rb sb w (.returned (.agg #[.int .u8 102,.string ⟨#[121,101,115]⟩,.int .i64 (0:Nat),.slice none 0 0])) W4:=fun W4 hb=>by
    refine⟨_,.mk 102 [121,101,115] 0 [],q,rfl,VC.leaf 102 [121,101,115] 0 (by omega) (by decide),HB3.out.on hb (by omega),?_⟩;have sn:=S3.out.beside hb (by omega);exact .inl ⟨HP.out,sn⟩
   refine hR _ ?_;repeat (first|with_reducible exact aA.refl _ _|with_reducible refine aA.drew ?_|with_reducible refine aA.trans ?_ (aA.set _ _ _ _)))
 ·have HT:=hid fun w2 (h:Sn w2 rb sb s false)=>dE rb sb w2 s [121,101,115] false h (.inr hy)
  obtain⟨r,b,hwant,hp⟩:∃ r b,(∀ w2,Sn w2 rb sb s false->Calls Tryz.prog 113 #[ptr rb,tx [110,111]] w2 fun e w'=>e=.returned (.tuple #[])/\Sn w' rb sb r b/\aA rb w2 w')/\((b=false/\Wf.parse x (n+1) .flag s=some (.mk 102 [110,111] 0 [],r))\/(b=true/\Wf.parse x (n+1) .flag s=none/\r.length<=s.length)):=by
   by_cases hn:[110,111] <+: s
   ·obtain⟨q,rfl⟩:=hn
    exact⟨q,false,fun w2 h=>bP rb sb w2 [110,111] q h,.inl ⟨rfl,Wf.rT x n q⟩⟩
   ·exact⟨s,true,fun w2 h=>bT rb sb w2 s [110,111] false h (.inr hn),.inr ⟨rfl,Wf.qN x n hy hn,zaA⟩⟩
  have HWANT:=hid hwant;have HP:=hid hp;clear H hkv hy hwant hp;go_enter Tryz.func74,Tryz.ntmps74;go_wp2_with (first|(go_at_call 113;refine(HWANT.out _ S1.out).mono ?_;rintro e w3 ⟨rfl,hs3,hb3⟩;have S3:=hid hs3;have HB3:=hid (HB1.out.trans hb3);have Z3:=hid (Z1.out.step hb3 (by omega));obtain⟨zl,zr0,zr1,zr2,zr3,zf0,zf1,zf2,zf3⟩:=Z3.out;clear hs3 hb3)|(go_at_call 112;refine(HT.out _ S1.out).mono ?_;rintro e w2 ⟨rfl,rfl⟩)|(go_at_call 95;obtain⟨d0,d1,d2,z0,b0⟩:=ST.out _ rfl;refine(HSG.out _).mono ?_;rintro e w1 ⟨rfl,hb1⟩;have b01:=aE b0 hb1;have e1:=(hb1.cell (p:=⟨w.heap.size,1,none⟩) (zaC (zaH _) (Nat.le_of_lt z0.lt))).trans d1;have S1:=hid (HH.out.below b01);have HB1:=hid (aA.aF (rb:=rb) b01 (zaA));have Z1:=hid (z0.below hb1 z0.lt);clear hb1 b01 b0 d0 d1 d2 z0))
  all_goals exact zbD (v:=.agg #[.int .u8 102,.string ⟨#[110,111]⟩,.int .i64 (0:Nat),.slice none 0 0]) (by simp[results,Tryz.results74,go_sem, *]) rfl (by
   have hR:∀ W4,aA (w.heap.size+1) w3 W4->aP (Wf.parse x (n+1) .flag s) s rb sb w (.returned (.agg #[.int .u8 102,.string ⟨#[110,111]⟩,.int .i64 (0:Nat),.slice none 0 0])) W4:=fun W4 hb=>by
    refine⟨_,.mk 102 [110,111] 0 [],r,rfl,VC.leaf 102 [110,111] 0 (by omega) (by decide),HB3.out.on hb (by omega),?_⟩;have sn:=S3.out.beside hb (by omega);rcases HP.out with⟨rfl,hp⟩|⟨rfl,hp,hl⟩
    ·exact .inl ⟨hp,sn⟩
    ·exact .inr ⟨hp,Wf.wW (by decide) hl,sn⟩
   refine hR _ ?_;repeat (first|with_reducible exact aA.refl _ _|with_reducible refine aA.drew ?_|with_reducible refine aA.trans ?_ (aA.set _ _ _ _)))
end

theorem pU (SG S1 BS NM:ByteArray) (c:UInt8) (h:SG=⟨(c::S1.data.toList).toArray⟩) (w:World):Calls Tryz.prog 96 #[.agg #[.string SG,.string BS,.string NM]] w fun e w'=>e=.returned (.agg #[.string S1,.string BS,.string NM])/\Below w.heap.size w w':=by
 have h1:1<=SG.size:=by
  rw[h];show 1<=(c::S1.data.toList).toArray.size;simp
 have h2:SG.extract 1 SG.size=S1:=by
  apply ByteArray.ext;rw[ByteArray.data_extract,h];show(c::S1.data.toList).toArray.extract 1 (c::S1.data.toList).toArray.size=S1.data;simp;have hz:S1.size=S1.data.toList.length:=rfl;rw[hz,List.take_length]
 clear h;go_enter Tryz.func96,Tryz.ntmps96;go_wp2_with fail
 exact zbD (v:=.agg #[.string S1,.string BS,.string NM]) (by simp[results,Tryz.results96,go_sem, *]) rfl ⟨rfl,((zaB).alloc (zaA) _).alloc (by simp) _⟩
theorem tB (k:Wf.K) (w:World):Calls Tryz.prog 96 #[kV (.list k)] w fun e w'=>e=.returned (kV k)/\Below w.heap.size w w' :=
 pU _ ⟨k.signs.toArray⟩ _ _ 91 rfl w
theorem lQ (k:Wf.K) (w:World):Calls Tryz.prog 96 #[kV (.opt k)] w fun e w'=>e=.returned (kV k)/\Below w.heap.size w w' :=
 pU _ ⟨k.signs.toArray⟩ _ _ 63 rfl w
theorem a5A (x:Wf.Sc) (rb sb:Nat) (W:World) (n:Nat) (k:Wf.K) (s:List UInt8) (w:World) (hW:Below W.heap.size W w) (hWr:W.heap.size<=rb) (IH:Reads x rb sb W n k) (hn:s.length<n+1) (h400:s.length<=400) (H:Sn w rb sb s false):Calls Tryz.prog 74 #[ptr rb,kV (.list k)] w fun e w'=>aP (Wf.parse x (n+1) (.list k) s) s rb sb w e w':=by
 have hrb:=H.lt;have c2:=H.c2;have HH:=hid H;have HW:=hid hW;have HLS:=hid fun(w2:World) (hb:Below W.heap.size W w2) (h:Sn w2 rb sb s false)=>xP x rb sb W n k s w2 hb hWr IH hn h400 h;have HPT:=hid fun w2=>tB k w2;have HSG:=hid fun w2=>sign (.list k) w2;obtain⟨SG,hSG⟩:∃ SG:ByteArray,(⟨(Wf.K.list k).signs.toArray⟩:ByteArray)=SG:=⟨_,rfl⟩;obtain⟨BS,hBS⟩:∃ BS:ByteArray,(⟨(Wf.K.list k).base.toArray⟩:ByteArray)=BS:=⟨_,rfl⟩;obtain⟨NM,hNM⟩:∃ NM:ByteArray,(⟨(Wf.K.list k).name.toArray⟩:ByteArray)=NM:=⟨_,rfl⟩;have hkv:kV (.list k)=.agg #[.string SG,.string BS,.string NM]:=by simp only[kV,tx,hSG,hBS,hNM]
 rw[hkv] at HPT HSG;rw[hkv];have hsn:bV (.list k)=91:=rfl;rw[hsn] at HSG;have ST:=hid fun W1 h=>eQ w SG BS NM W1 h;clear H hW IH hSG hBS hNM hkv hsn;go_enter Tryz.func74,Tryz.ntmps74;go_wp2_with (first|(go_at_call 111;refine(HLS.out _ BW2.out S2.out).mono ?_;rintro e w3 ⟨cs,v,r,rfl,hvc,hb3,ho⟩;obtain⟨q2,g2,n2,c2,T2,a2,rfl⟩:=hvc.bA;have HVC:=hid hvc;have HO:=hid ho;have HB3:=hid (HB2.out.trans hb3);have Z3:=hid (Z2.out.step hb3 (by omega));obtain⟨zl,zr0,zr1,zr2,zr3,zf0,zf1,zf2,zf3⟩:=Z3.out;clear hvc ho hb3)|(go_at_call 96;refine(HPT.out _).mono ?_;rintro e w2 ⟨rfl,hb2⟩;have S2:=hid (S1.out.below hb2);have HB2:=hid (HB1.out.trans (aA.aF hb2 (zaA)));have Z2:=hid (Z1.out.below hb2 Z1.out.lt);have BW2:=hid (aA.below HW.out HW.out.size hWr HB2.out);have hsz2:=zaC Z1.out.lt hb2.size;clear hb2)|(go_at_call 95;obtain⟨d0,d1,d2,z0,b0⟩:=ST.out _ rfl;refine(HSG.out _).mono ?_;rintro e w1 ⟨rfl,hb1⟩;have b01:=aE b0 hb1;have hz:=zaC (zaH _) (Nat.le_of_lt z0.lt);have e0:=(hb1.cell (p:=⟨w.heap.size,0,none⟩) hz).trans d0;have e1:=(hb1.cell (p:=⟨w.heap.size,1,none⟩) hz).trans d1;have e2:=(hb1.cell (p:=⟨w.heap.size,2,none⟩) hz).trans d2;have S1:=hid (HH.out.below b01);have HB1:=hid (aA.aF (rb:=rb) b01 (zaA));have Z1:=hid (z0.below hb1 z0.lt);clear hb1 b01 b0 d0 d1 d2 z0 hz))
 all_goals exact zbD (v:=.agg #[.int .u8 q2,.string T2,.int .i64 g2,.slice a2 n2 c2]) (by simp[results,Tryz.results74,go_sem, *]) rfl (by
  have hR:∀ W4,aA (w.heap.size+1) w3 W4->aP (Wf.parse x (n+1) (.list k) s) s rb sb w (.returned (.agg #[.int .u8 q2,.string T2,.int .i64 g2,.slice a2 n2 c2])) W4:=fun W4 hb=>by
   refine⟨[.int .u8 q2,.string T2,.int .i64 g2,.slice a2 n2 c2],v,r,rfl,VC.keep (P:=fun b=>w2.heap.size<=b) (fun b hp hlt=>⟨by omega,hb.block b hlt (by omega)⟩) hb.size _ _ HVC.out,HB3.out.on hb (by omega),?_⟩;rcases HO.out with⟨hp,sn⟩|⟨hp,hbv,sn⟩
   ·exact .inl ⟨hp,sn.beside hb (by omega)⟩
   ·exact .inr ⟨hp,hbv,sn.beside hb (by omega)⟩
  refine hR _ ?_;repeat (first|with_reducible exact aA.refl _ _|with_reducible refine aA.drew ?_|with_reducible refine aA.trans ?_ (aA.set _ _ _ _)))
theorem xN (x:Wf.Sc) (rb sb:Nat) (n:Nat) (k:Wf.K) (q:List UInt8) (w:World) (H:Sn w rb sb (45::q) false):Calls Tryz.prog 74 #[ptr rb,kV (.opt k)] w fun e w'=>aP (Wf.parse x (n+1) (.opt k) (45::q)) (45::q) rb sb w e w':=by
 have hrb:=H.lt;have c2:=H.c2;have HH:=hid H;have HP:=hid (Wf.pM x n k q);have HSG:=hid fun w2=>sign (.opt k) w2;obtain⟨SG,hSG⟩:∃ SG:ByteArray,(⟨(Wf.K.opt k).signs.toArray⟩:ByteArray)=SG:=⟨_,rfl⟩;obtain⟨BS,hBS⟩:∃ BS:ByteArray,(⟨(Wf.K.opt k).base.toArray⟩:ByteArray)=BS:=⟨_,rfl⟩;obtain⟨NM,hNM⟩:∃ NM:ByteArray,(⟨(Wf.K.opt k).name.toArray⟩:ByteArray)=NM:=⟨_,rfl⟩;have hkv:kV (.opt k)=.agg #[.string SG,.string BS,.string NM]:=by simp only[kV,tx,hSG,hBS,hNM]
 rw[hkv] at HSG;rw[hkv];have hsn:bV (.opt k)=63:=rfl;rw[hsn] at HSG;have ST:=hid fun W1 h=>eQ w SG BS NM W1 h;clear H hSG hBS hNM hkv hsn;go_enter Tryz.func74,Tryz.ntmps74;go_wp2_with (first|(go_at_call 112;refine(fJ rb sb _ [45] q S1.out).mono ?_;rintro e w3 ⟨rfl,hs3,hb3⟩;have S3:=hid hs3;have HB3:=hid (HB1.out.trans hb3);have Z3:=hid (Z1.out.step hb3 (by omega));obtain⟨zl,zr0,zr1,zr2,zr3,zf0,zf1,zf2,zf3⟩:=Z3.out;clear hs3 hb3)|(go_at_call 95;obtain⟨d0,d1,d2,z0,b0⟩:=ST.out _ rfl;refine(HSG.out _).mono ?_;rintro e w1 ⟨rfl,hb1⟩;have b01:=aE b0 hb1;have S1:=hid (HH.out.below b01);have HB1:=hid (aA.aF (rb:=rb) b01 (zaA));have Z1:=hid (z0.below hb1 z0.lt);clear hb1 b01 b0 d0 d1 d2 z0))
 all_goals exact zbD (v:=.agg #[.int .u8 63,.string ⟨#[]⟩,.int .i64 (0:Nat),.slice none 0 0]) (by simp[results,Tryz.results74,go_sem, *]) rfl (by
  have hR:∀ W4,aA (w.heap.size+1) w3 W4->aP (Wf.parse x (n+1) (.opt k) (45::q)) (45::q) rb sb w (.returned (.agg #[.int .u8 63,.string ⟨#[]⟩,.int .i64 (0:Nat),.slice none 0 0])) W4:=fun W4 hb =>
   ⟨_,.mk 63 [] 0 [],q,rfl,VC.leaf 63 [] 0 (by omega) (by decide),HB3.out.on hb (by omega),.inl ⟨HP.out,S3.out.beside hb (by omega)⟩⟩
  refine hR _ ?_;repeat (first|with_reducible exact aA.refl _ _|with_reducible refine aA.drew ?_|with_reducible refine aA.trans ?_ (aA.set _ _ _ _)))
theorem wF (x:Wf.Sc) (rb sb:Nat) (W:World) (n:Nat) (k:Wf.K) (r:List UInt8) (w:World) (hW:Below W.heap.size W w) (hWr:W.heap.size<=rb) (IH:Reads x rb sb W n k) (hn:r.length<n) (h400:r.length<=400) (H:Sn w rb sb (43::r) false):Calls Tryz.prog 74 #[ptr rb,kV (.opt k)] w fun e w'=>aP (Wf.parse x (n+1) (.opt k) (43::r)) (43::r) rb sb w e w':=by
 have hrb:=H.lt;have c2:=H.c2;have HH:=hid H;have HW:=hid hW;have HP:=hid (Wf.tZ x n k r);have HIH:=hid IH;have HPT:=hid fun w2=>lQ k w2;have HSG:=hid fun w2=>sign (.opt k) w2;obtain⟨SG,hSG⟩:∃ SG:ByteArray,(⟨(Wf.K.opt k).signs.toArray⟩:ByteArray)=SG:=⟨_,rfl⟩;obtain⟨BS,hBS⟩:∃ BS:ByteArray,(⟨(Wf.K.opt k).base.toArray⟩:ByteArray)=BS:=⟨_,rfl⟩;obtain⟨NM,hNM⟩:∃ NM:ByteArray,(⟨(Wf.K.opt k).name.toArray⟩:ByteArray)=NM:=⟨_,rfl⟩;have hkv:kV (.opt k)=.agg #[.string SG,.string BS,.string NM]:=by simp only[kV,tx,hSG,hBS,hNM]
 rw[hkv] at HSG HPT;rw[hkv];have hsn:bV (.opt k)=63:=rfl;rw[hsn] at HSG;have ST:=hid fun W1 h=>eQ w SG BS NM W1 h;clear H hW IH hSG hBS hNM hkv hsn;go_enter Tryz.func74,Tryz.ntmps74;go_wp2_with (first|(go_at_call 74;refine(HIH.out r _ BW4.out S4.out hn h400).mono ?_;rintro e w5 ⟨cs,v,r5,rfl,hvc,hb5,ho⟩;obtain⟨q2,g2,n2,c2,T2,a2,rfl⟩:=hvc.bA;have HVC:=hid hvc;have HO:=hid ho;have HB5:=hid (HB4.out.trans hb5);have Z5:=hid (Z4.out.step hb5 (by omega));obtain⟨zl,zr0,zr1,zr2,zr3,zf0,zf1,zf2,zf3⟩:=Z5.out;clear hvc ho hb5)|(go_at_call 96;refine(HPT.out _).mono ?_;rintro e w4 ⟨rfl,hb4⟩;have S4:=hid (S3.out.below hb4);have HB4:=hid (HB3.out.trans (aA.aF hb4 (zaA)));have Z4:=hid (Z3.out.below hb4 Z3.out.lt);have hz4:=Z4.out.lt;have BW4:=hid (aA.below HW.out HW.out.size hWr HB4.out);clear hb4)|(go_at_call 113;refine(bP rb sb _ [43] r S1.out).mono ?_;rintro e w3 ⟨rfl,hs3,hb3⟩;have S3:=hid hs3;have HB3:=hid (HB1.out.trans hb3);have Z3:=hid (Z1.out.step hb3 (by omega));have k0:=(hb3.cell (p:=⟨w.heap.size,0,none⟩) hz (by show w.heap.size≠rb;omega)).trans e0;have k1:=(hb3.cell (p:=⟨w.heap.size,1,none⟩) hz (by show w.heap.size≠rb;omega)).trans e1;have k2:=(hb3.cell (p:=⟨w.heap.size,2,none⟩) hz (by show w.heap.size≠rb;omega)).trans e2;clear hs3 hb3)|(go_at_call 112;refine(dE rb sb _ (43::r) [45] false S1.out (.inr (by rw[pre1];simp))).mono ?_;rintro e w2 ⟨rfl,rfl⟩)|(go_at_call 95;obtain⟨d0,d1,d2,z0,b0⟩:=ST.out _ rfl;refine(HSG.out _).mono ?_;rintro e w1 ⟨rfl,hb1⟩;have b01:=aE b0 hb1;have hz:=zaC (zaH _) (Nat.le_of_lt z0.lt);have e0:=(hb1.cell (p:=⟨w.heap.size,0,none⟩) hz).trans d0;have e1:=(hb1.cell (p:=⟨w.heap.size,1,none⟩) hz).trans d1;have e2:=(hb1.cell (p:=⟨w.heap.size,2,none⟩) hz).trans d2;have S1:=hid (HH.out.below b01);have HB1:=hid (aA.aF (rb:=rb) b01 (zaA));have Z1:=hid (z0.below hb1 z0.lt);have hz:=zaC hz hb1.size;clear hb1 b01 b0 d0 d1 d2 z0))
 all_goals exact zbD (v:=.agg #[.int .u8 63,.string ⟨#[]⟩,.int .i64 (0:Nat),.slice (some ⟨w5.heap.size,0,none⟩) 1 1]) (by simp[results,Tryz.results74,go_sem, *]) rfl (by
  have hR:∀ W4,aA (w.heap.size+1) w5 W4->w5.heap.size<W4.heap.size->(∀ j u,[Value.int .u8 q2,Value.string T2,Value.int .i64 g2,Value.slice a2 n2 c2][j]? = some u->W4.cell? ⟨w5.heap.size,0+j,none⟩=some u)->aP (Wf.parse x (n+1) (.opt k) (43::r)) (43::r) rb sb w (.returned (.agg #[.int .u8 63,.string ⟨#[]⟩,.int .i64 (0:Nat),.slice (some ⟨w5.heap.size,0,none⟩) 1 1])) W4:=fun W4 hb hl hc=>by
   refine⟨_,.mk 63 [] 0 [v],r5,rfl,VC.one (VC.keep (P:=fun b=>w4.heap.size<=b) (fun b hp hlt=>⟨by omega,hb.block b hlt (by omega)⟩) hb.size _ _ HVC.out) (by omega) hl hc 63 [] 0 ⟨by omega,fun _=>.inr (.inl rfl),fun h=>absurd h (by decide)⟩,HB5.out.on hb (by omega),?_⟩;rcases HO.out with⟨hp,sn⟩|⟨hp,hbv,sn⟩
   ·exact .inl ⟨by rw[HP.out,hp];rfl,sn.beside hb (by omega)⟩
   ·exact .inr ⟨by rw[HP.out,hp];rfl,Wf.a2L rfl hbv,sn.beside hb (by omega)⟩
  refine hR _ ?_ ?_ ?_
  ·repeat (first|with_reducible exact aA.refl _ _|with_reducible refine aA.drew ?_|with_reducible refine aA.alloc ?_ _|with_reducible refine aA.trans ?_ (aA.set _ _ _ _))
  ·simp
  ·intro j u hu
   rcases j with _|_|_|_|j <;> simp at hu <;> subst hu <;> simp[go_sem])
theorem qE (x:Wf.Sc) (rb sb:Nat) (W:World) (n:Nat) (k:Wf.K) (r:List UInt8) (w:World) (h1:r.head? ≠ some 45) (h2:r.head? ≠ some 43) (hW:Below W.heap.size W w) (hWr:W.heap.size<=rb) (H:Sn w rb sb r false):Calls Tryz.prog 74 #[ptr rb,kV (.opt k)] w fun e w'=>aP (Wf.parse x (n+1) (.opt k) r) r rb sb w e w':=by
 have hrb:=H.lt;have c2:=H.c2;have HH:=hid H;have HW:=hid hW;have HP:=hid (Wf.uB x n k h1 h2);have HY:=hid (And.intro (fun hp=>h1 ((pre1 45 r).1 hp)) (fun hp=>h2 ((pre1 43 r).1 hp)));have HPT:=hid fun w2=>lQ k w2;have HSG:=hid fun w2=>sign (.opt k) w2;obtain⟨SG,hSG⟩:∃ SG:ByteArray,(⟨(Wf.K.opt k).signs.toArray⟩:ByteArray)=SG:=⟨_,rfl⟩;obtain⟨BS,hBS⟩:∃ BS:ByteArray,(⟨(Wf.K.opt k).base.toArray⟩:ByteArray)=BS:=⟨_,rfl⟩;obtain⟨NM,hNM⟩:∃ NM:ByteArray,(⟨(Wf.K.opt k).name.toArray⟩:ByteArray)=NM:=⟨_,rfl⟩;have hkv:kV (.opt k)=.agg #[.string SG,.string BS,.string NM]:=by simp only[kV,tx,hSG,hBS,hNM]
 rw[hkv] at HSG HPT;rw[hkv];have hsn:bV (.opt k)=63:=rfl;rw[hsn] at HSG;have ST:=hid fun W1 h=>eQ w SG BS NM W1 h;clear H hW h1 h2 hSG hBS hNM hkv hsn;go_enter Tryz.func74,Tryz.ntmps74;go_wp2_with (first|(go_at_call 74;refine(a2T rb sb r _ k S4.out).mono ?_;rintro e w5 ⟨rfl,hb5,ho⟩;have HO:=hid ho;have HB5:=hid (HB4.out.trans hb5);have Z5:=hid (Z4.out.step hb5 (by omega));obtain⟨zl,zr0,zr1,zr2,zr3,zf0,zf1,zf2,zf3⟩:=Z5.out;clear ho hb5)|(go_at_call 96;refine(HPT.out _).mono ?_;rintro e w4 ⟨rfl,hb4⟩;have S4:=hid (S3.out.below hb4);have HB4:=hid (HB3.out.trans (aA.aF hb4 (zaA)));have Z4:=hid (Z3.out.below hb4 Z3.out.lt);have hz4:=Z4.out.lt;have BW4:=hid (aA.below HW.out HW.out.size hWr HB4.out);clear hb4)|(go_at_call 113;refine(bT rb sb _ r [43] false S1.out (.inr HY.out.2)).mono ?_;rintro e w3 ⟨rfl,hs3,hb3⟩;have S3:=hid hs3;have HB3:=hid (HB1.out.trans hb3);have Z3:=hid (Z1.out.step hb3 (by omega));have k0:=(hb3.cell (p:=⟨w.heap.size,0,none⟩) hz (by show w.heap.size≠rb;omega)).trans e0;have k1:=(hb3.cell (p:=⟨w.heap.size,1,none⟩) hz (by show w.heap.size≠rb;omega)).trans e1;have k2:=(hb3.cell (p:=⟨w.heap.size,2,none⟩) hz (by show w.heap.size≠rb;omega)).trans e2;clear hs3 hb3)|(go_at_call 112;refine(dE rb sb _ r [45] false S1.out (.inr HY.out.1)).mono ?_;rintro e w2 ⟨rfl,rfl⟩)|(go_at_call 95;obtain⟨d0,d1,d2,z0,b0⟩:=ST.out _ rfl;refine(HSG.out _).mono ?_;rintro e w1 ⟨rfl,hb1⟩;have b01:=aE b0 hb1;have hz:=zaC (zaH _) (Nat.le_of_lt z0.lt);have e0:=(hb1.cell (p:=⟨w.heap.size,0,none⟩) hz).trans d0;have e1:=(hb1.cell (p:=⟨w.heap.size,1,none⟩) hz).trans d1;have e2:=(hb1.cell (p:=⟨w.heap.size,2,none⟩) hz).trans d2;have S1:=hid (HH.out.below b01);have HB1:=hid (aA.aF (rb:=rb) b01 (zaA));have Z1:=hid (z0.below hb1 z0.lt);have hz:=zaC hz hb1.size;clear hb1 b01 b0 d0 d1 d2 z0))
 all_goals exact zbD (v:=.agg #[.int .u8 63,.string ⟨#[]⟩,.int .i64 (0:Nat),.slice (some ⟨w5.heap.size,0,none⟩) 1 1]) (by simp[results,Tryz.results74,go_sem, *]) rfl (by
  have hR:∀ W4,aA (w.heap.size+1) w5 W4->w5.heap.size<W4.heap.size->(∀ j u,[Value.int .u8 0,Value.string ⟨#[]⟩,Value.int .i64 (0:Nat),Value.slice none 0 0][j]? = some u->W4.cell? ⟨w5.heap.size,0+j,none⟩=some u)->aP (Wf.parse x (n+1) (.opt k) r) r rb sb w (.returned (.agg #[.int .u8 63,.string ⟨#[]⟩,.int .i64 (0:Nat),.slice (some ⟨w5.heap.size,0,none⟩) 1 1])) W4:=fun W4 hb hl hc=>by
   exact⟨_,.mk 63 [] 0 [.mk 0 [] 0 []],r,rfl,VC.one (VC.leaf 0 [] 0 (by omega) (by decide)) (by omega) hl hc 63 [] 0 ⟨by omega,fun _=>.inr (.inl rfl),fun h=>absurd h (by decide)⟩,HB5.out.on hb (by omega),.inr ⟨HP.out,Wf.a4I,HO.out.beside hb (by omega)⟩⟩
  refine hR _ ?_ ?_ ?_
  ·repeat (first|with_reducible exact aA.refl _ _|with_reducible refine aA.drew ?_|with_reducible refine aA.alloc ?_ _|with_reducible refine aA.trans ?_ (aA.set _ _ _ _))
  ·simp
  ·intro j u hu
   rcases j with _|_|_|_|j <;> simp at hu <;> subst hu <;> simp[go_sem])

theorem jY (w:World) (rb q:Nat) (W1:World) (hW1:(w.alloc (.cells #[.int .u8 0,.string ⟨#[]⟩,.int .i64 0,.slice none 0 0] 51)).alloc (.cells #[.int .u8 q,.string ⟨#[]⟩,.int .i64 0,.slice none 0 0] 51)=W1) :
  Zero W1 w.heap.size/\Bld w W1 rb (w.heap.size+1) (w.heap.size+1+1) q none 0 [] []/\Below w.heap.size w W1:=by
 have hB:Below w.heap.size w W1:=by
  rw[<-hW1];exact(((zaB).alloc (zaA) _).alloc (by simp) _)
 subst hW1;refine⟨⟨?_,?_,?_,?_,?_,?_,?_,?_,?_⟩,⟨aA.aF hB (zaA),?_,?_,?_,?_,?_,?_,?_,?_,World.ownsRow_nil _ _ _ _,?_,rfl,?_⟩,hB⟩;all_goals first|(simp[go_sem];done)|(simp[go_sem];omega)|omega|(intro e he;simp at he)|(intro i h1;simp at h1)
section
variable (x:Wf.Sc) (rb sb:Nat) (W:World) (n:Nat) (t:Wf.Ty) (nm:List UInt8) (s:List UInt8) (w:World)
theorem nG (hf:x.find nm=some t) (lo tb:Nat) (hW:Below W.heap.size W w) (hT:TyL W lo tb t) (h82:t.sort=82) (H:Sn w rb sb s false) (h:s.head? ≠ some 123):Calls Tryz.prog 116 #[ptr rb,ptr tb] w fun e w'=>aP (Wf.parse x (n+1) (.ref nm) s) s rb sb w e w':=by
 have HP:=hid (Wf.nM x n hf h82 h);obtain⟨htb,c0⟩:=hT.sort;rw[h82] at c0;have y0:w.cell? ⟨tb,0,none⟩=some (.int .u8 82):=(hW.cell (p:=⟨tb,0,none⟩) htb).trans c0;have htw:tb<w.heap.size:=zaC htb hW.size;have htw1:tb<w.heap.size+1:=by omega
 have hrb:=H.lt;have HH:=hid H;have HN:=hid fun hp=>h ((pre1 123 s).1 hp);have ST:=hid fun W1 h=>jY w rb 82 W1 h;clear H h hW hT c0 h82 hf;go_enter Tryz.func116,Tryz.ntmps116;go_wp2_with (first|(go_at_call 112;have _u:=hS1;refine(dE rb sb _ s [125] true hS1.out (.inl rfl)).mono ?_;rintro e w2 ⟨rfl,rfl⟩)|(go_at_call 113;obtain⟨z0,bl0,b0⟩:=ST.out _ rfl;refine(bT rb sb _ s [123] false (HH.out.below b0) (.inr HN.out)).mono ?_;rintro e w1 ⟨rfl,hs1,hb1⟩;have Z1:=hid (z0.step hb1 (by omega));have BL:=hid (bl0.step hrb hb1);have hS1:=hid hs1;have HB1:=hid ((aA.aF b0 (zaA)).trans hb1);have cb2:=hs1.c2;have hbl:=hs1.lt;clear z0 bl0 b0 hs1 hb1))
 go_loopw [8] (fun s8 wr=>wr=w1) (fun _ _=>0)
 case atStart=>rfl
 case round =>
  subst hrel;go_wp2_with (go_at_call 113;refine(bT rb sb _ s [125] true hS1.out (.inl rfl)).mono ?_;rintro e w3 ⟨rfl,hs3,hb3⟩;have hS3:=hid hs3;have HB3:=hid (HB1.out.trans hb3);have Z3:=hid (Z1.out.step hb3 (by omega));have BL3:=hid (BL.out.step hrb hb3);clear hs3 hb3;have v0:=BL3.out.v0;have v1:=BL3.out.v1;have v2:=BL3.out.v2;have v3:=BL3.out.v3;obtain⟨zl,zr0,zr1,zr2,zr3,zf0,zf1,zf2,zf3⟩:=Z3.out;have hvl:w.heap.size+1<w3.heap.size:=(by have:=BL3.out.sz;omega))
  exact zbD (v:=.agg #[.int .u8 82,.string ⟨#[]⟩,.int .i64 0,.slice none 0 0]) (by simp[results,Tryz.results116,go_sem, *]) rfl (by
   have hB4:∀ W4,aA w.heap.size w3 W4->aP (Wf.parse x (n+1) (.ref nm) s) s rb sb w (.returned (.agg #[.int .u8 82,.string ⟨#[]⟩,.int .i64 0,.slice none 0 0])) W4:=fun W4 hb=>by
    refine⟨_,.mk 82 [] 0 [],s,rfl,VC.leaf 82 [] 0 (by omega) (by decide),HB3.out.on hb (zaA),.inr ⟨HP.out,Wf.kM (.inr rfl) (zaA),hS3.out.beside hb (by omega)⟩⟩
   refine hB4 _ ?_;repeat (first|with_reducible exact aA.refl _ _|with_reducible refine aA.drew ?_|with_reducible refine aA.trans ?_ (aA.set _ _ _ _)))
theorem zF (q:List UInt8) (hf:x.find nm=some t) (lo tb:Nat) (hW:Below W.heap.size W w) (hT:TyL W lo tb t) (h82:t.sort=82) (H:Sn w rb sb (123::125::q) false):Calls Tryz.prog 116 #[ptr rb,ptr tb] w fun e w'=>aP (Wf.parse x (n+1) (.ref nm) (123::125::q)) (123::125::q) rb sb w e w':=by
 have HP:=hid (Wf.oY x n hf h82 q);obtain⟨htb,c0⟩:=hT.sort;rw[h82] at c0;have y0:w.cell? ⟨tb,0,none⟩=some (.int .u8 82):=(hW.cell (p:=⟨tb,0,none⟩) htb).trans c0;have htw:tb<w.heap.size:=zaC htb hW.size;have htw1:tb<w.heap.size+1:=by omega
 have hrb:=H.lt;have HH:=hid H;have ST:=hid fun W1 h=>jY w rb 82 W1 h;clear H hW hT c0 h82 hf;go_enter Tryz.func116,Tryz.ntmps116;go_wp2_with (first|(go_at_call 112;have _u:=hS1;refine(fJ rb sb _ [125] q hS1.out).mono ?_;rintro e w3 ⟨rfl,hs3,hb3⟩;have hS3:=hid hs3;have HB3:=hid (HB1.out.trans hb3);have Z3:=hid (Z1.out.step hb3 (by omega));have BL3:=hid (BL.out.step hrb hb3);clear hs3 hb3;have v0:=BL3.out.v0;have v1:=BL3.out.v1;have v2:=BL3.out.v2;have v3:=BL3.out.v3;obtain⟨zl,zr0,zr1,zr2,zr3,zf0,zf1,zf2,zf3⟩:=Z3.out;have hvl:w.heap.size+1<w3.heap.size:=(by have:=BL3.out.sz;omega))|(go_at_call 113;obtain⟨z0,bl0,b0⟩:=ST.out _ rfl;refine(bP rb sb _ [123] (125::q) (HH.out.below b0)).mono ?_;rintro e w1 ⟨rfl,hs1,hb1⟩;have Z1:=hid (z0.step hb1 (by omega));have BL:=hid (bl0.step hrb hb1);have hS1:=hid hs1;have HB1:=hid ((aA.aF b0 (zaA)).trans hb1);have cb2:=hs1.c2;have hbl:=hs1.lt;clear z0 bl0 b0 hs1 hb1))
 all_goals exact zbD (v:=.agg #[.int .u8 82,.string ⟨#[]⟩,.int .i64 0,.slice none 0 0]) (by simp[results,Tryz.results116,go_sem, *]) rfl (by
   have hB4:∀ W4,aA w.heap.size w3 W4->aP (Wf.parse x (n+1) (.ref nm) (123::125::q)) (123::125::q) rb sb w (.returned (.agg #[.int .u8 82,.string ⟨#[]⟩,.int .i64 0,.slice none 0 0])) W4:=fun W4 hb=>by
    refine⟨_,.mk 82 [] 0 [],q,rfl,VC.leaf 82 [] 0 (by omega) (by decide),HB3.out.on hb (zaA),.inl ⟨HP.out,hS3.out.beside hb (by omega)⟩⟩
   refine hB4 _ ?_;repeat (first|with_reducible exact aA.refl _ _|with_reducible refine aA.drew ?_|with_reducible refine aA.trans ?_ (aA.set _ _ _ _)))
end

theorem VC.fld {W:World} {P:Nat->Prop} {g:Nat} {v:Wf.V} {cs:List Value} (h:VC W P (.mk 61 [] g [v]) cs):∃ (b2 o2 c2 q3 g3 n3 c3:Nat) (T3:ByteArray) (a3:Option Addr),cs=[.int .u8 61,.string ⟨#[]⟩,.int .i64 g,.slice (some ⟨b2,o2,none⟩) 1 c2]/\1<=c2/\c2<=maxLen/\P b2/\b2<W.heap.size/\VC W P v [.int .u8 q3,.string T3,.int .i64 g3,.slice a3 n3 c3]/\W.cell? ⟨b2,o2,none⟩=some (.int .u8 q3)/\W.cell? ⟨b2,o2+1,none⟩=some (.string T3)/\W.cell? ⟨b2,o2+2,none⟩=some (.int .i64 g3)/\W.cell? ⟨b2,o2+3,none⟩=some (.slice a3 n3 c3):=by
 obtain⟨a,c,rfl,h1,h2,h3,h4⟩:=h.form;rcases h4 with h4|⟨b2,o2,ha,hp,hb,hv⟩
 ·simp[Wf.V.kids] at h4
 ·simp only[Wf.V.kids,VCs] at hv
  obtain⟨⟨ks,hk,hc⟩,_⟩:=hv;obtain⟨q3,g3,n3,c3,T3,a3,rfl⟩:=hk.bA;subst ha;refine⟨b2,o2,c,q3,g3,n3,c3,T3,a3,rfl,h1,h2,hp,hb,hk,by simpa using hc 0 _ rfl,hc 1 _ rfl,hc 2 _ rfl,hc 3 _ rfl⟩
structure Rst (rb sb:Nat) (w wr:World) (cur:List UInt8) (bad:Bool) (a:Option Addr) (c:Nat) (l:List Wf.V) (es:List (List Value)):Prop where
 zero:Zero wr w.heap.size
 bld:Bld w wr rb (w.heap.size+1) (w.heap.size+1+1) 82 a c l es
 sn:Sn wr rb sb cur bad
theorem Rst.step {rb sb:Nat} {w wr w2:World} {cur cur2:List UInt8} {bad bad2:Bool} {a:Option Addr} {c:Nat} {l:List Wf.V} {es:List (List Value)} (h:Rst rb sb w wr cur bad a c l es) (hr:rb<w.heap.size) (hb:aA rb wr w2) (hs:Sn w2 rb sb cur2 bad2):Rst rb sb w w2 cur2 bad2 a c l es :=
 ⟨h.zero.step hb (by omega),h.bld.step hr hb,hs⟩
theorem Rst.put {rb sb:Nat} {w wr:World} {cur:List UInt8} {bad0:Bool} {a:Option Addr} {c:Nat} {l:List Wf.V} {es:List (List Value)} {m:Nat} (h:Rst rb sb w wr cur bad0 a c l es) (hrb:rb<w.heap.size) {w2:World} (hb:aA rb wr w2) (hm:es.length=m) {q2 g2 n2 c2:Nat} {T2:ByteArray} {a2:Option Addr} {v:Wf.V}
  (hvc:VC w2 (fun b=>wr.heap.size<=b) v [.int .u8 q2,.string T2,.int .i64 g2,.slice a2 n2 c2]) {wx w4:World} {g cap:Nat} (hx:Below w2.heap.size w2 wx)
  (hg:wx.grownBy w4 (Value.slice a m c).ownBlock)
  (ho:w4.ownsRow (w.heap.size+1+1) 51 4 (.slice (some ⟨g,0,none⟩) (m+1) cap) (m+1) (es.flatten++[.int .u8 q2,.string T2,.int .i64 g2,.slice a2 n2 c2]))
  (hat:(Value.slice a m c).ownBlock=some g\/g=wx.heap.size)
  {r2:List UInt8} {bad:Bool} (hs:Sn w2 rb sb r2 bad) :
  Rst rb sb w (w4.setCell ⟨w.heap.size+1,3,none⟩ (.slice (some ⟨g,0,none⟩) (m+1) cap)) r2 bad (some ⟨g,0,none⟩) cap (l++[v]) (es++[[.int .u8 q2,.string T2,.int .i64 g2,.slice a2 n2 c2]]):=by
 subst hm;have hXb:aA rb wr wx:=hb.trans (aA.aF hx (zaA));have hs0:=(h.bld.step hrb hXb).sz;have hlo:=aQ h.bld.own;have hB:Below (w.heap.size+1+1) wx w4:=aV hg (fun g hgk=>(hlo g hgk).1) hs0;have hS:Below (w.heap.size+1) w4 (w4.setCell ⟨w.heap.size+1,3,none⟩ (.slice (some ⟨g,0,none⟩) (es.length+1) cap)):=zbF (Below.refl _ w4) (p:=⟨w.heap.size+1,3,none⟩) (zaA) _;refine⟨((h.zero.step hXb (by omega)).below hB (by omega)).below hS (by omega),h.bld.put hrb hXb hg (hvc.below hx) ho ?_,((hs.below hx).cZ hB (by omega)).cZ hS (by omega)⟩;rcases hat with hat|hat
 ·exact .inl hat.symm
 ·exact .inr (by rw[<-hat];rfl)
theorem sO {r cur q:List UInt8} {l:List Wf.V} (h1:Wf.pl l+cur.length=r.length) (h2:q.length<=cur.length):Wf.Badv (123::r) q (.mk 82 [] 0 l):=by
 cases l with
 | nil=>exact Wf.kM (.inr rfl) (by simp;omega)
 | cons v l=>exact Wf.lH (.inr rfl) (s0:=r) rfl (by simp) (by omega)
theorem iQ {x:Wf.Sc} {n:Nat} {t:Wf.Ty} {s r:List UInt8} {f:Wf.Fd} {v:Wf.V} (h:Wf.fieldTok t (fun k s=>Wf.parse x n k s) s=some (f,v,r)):s.length=(Wf.V.mk 61 [] f.tag [v]).print.length+r.length:=by
 have h2:=(Wf.jL (Q:=fun _ _=>True) (fun f s v r h=>⟨trivial,(Wf.eH _ _ _ _ _ h).2⟩) h).2.2.2;rw[h2,Wf.dO];simp;omega
