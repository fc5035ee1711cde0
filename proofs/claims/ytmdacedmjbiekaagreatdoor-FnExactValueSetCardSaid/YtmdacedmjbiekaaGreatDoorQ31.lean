/- Packed by pack.py: Vv Vw Vr Vs PlainY PlainZ. -/
import Derived.Test.YtmdacedmjbiekaaGreatDoorQ30
import Derived.Deep.CutRange
import Derived.Deep.AppendLies
import Derived.Deep.RegionHeld3
import Derived.Test.YtmdacedmjbiekaaGreatDoorQ4
import Derived.Test.YtmdacedmjbiekaaGreatDoorQ5
namespace Go.Proofs.YtmdacedmjbiekaaGreatDoor
open Go.ChangeShapes Go.WideShapes Go.ChangeAt Go.RowKit Go.Lib
set_option linter.unusedVariables false
set_option linter.unusedSimpArgs false
theorem start_value (w:World) (SG BS NM:ByteArray) (W1:World) (hW1:(w.alloc (.cells #[.string SG, .string BS, .string NM] 57)).alloc (.cells #[.int .u8 0, .string ⟨#[]⟩, .int .i64 0, .slice none 0 0] 92)=W1) :
  W1.cell? ⟨w.heap.size,0,none⟩=some (.string SG)∧W1.cell? ⟨w.heap.size,1,none⟩=some (.string BS)∧W1.cell? ⟨w.heap.size,2,none⟩=some (.string NM)∧Zero W1 (w.heap.size+1)∧Below w.heap.size w W1:=by
 have hB:Below w.heap.size w W1:=by
  rw[← hW1]
  exact(((Below.refl _ _).alloc (Nat.le_refl _) _).alloc (by simp) _)
 subst hW1
 refine⟨?_, ?_, ?_,⟨?_, ?_, ?_, ?_, ?_, ?_, ?_, ?_, ?_⟩,hB⟩
 all_goals first|(simp[go_sem];done)|(simp[go_sem];omega)
section
variable (rb sb:Nat) (W:World) (s:List UInt8) (w:World)
set_option maxRecDepth 20000 in
set_option maxHeartbeats 1000000 in
theorem value_bad (k:Wf.K) (H:Sn w rb sb s true):Calls Tryz.prog 98 #[ptr rb,kV k] w fun e w'=>e=.returned (.agg #[.int .u8 0, .string ⟨#[]⟩, .int .i64 0, .slice none 0 0])∧Beside rb w w'∧Sn w' rb sb s true:=by
 have hrb:=H.lt
 have c2:=H.c2
 have HH:=hid H
 obtain⟨SG,hSG⟩:∃ SG:ByteArray,(⟨k.signs.toArray⟩:ByteArray)=SG:=⟨_,rfl⟩
 obtain⟨BS,hBS⟩:∃ BS:ByteArray,(⟨k.base.toArray⟩:ByteArray)=BS:=⟨_,rfl⟩
 obtain⟨NM,hNM⟩:∃ NM:ByteArray,(⟨k.name.toArray⟩:ByteArray)=NM:=⟨_,rfl⟩
 simp only[kV,tx,hSG,hBS,hNM]
 clear H hSG hBS hNM
 go_enter Tryz.func98,Tryz.ntmps98
 go_wp2_with fail
 exact bodyPost_ret (v:=.agg #[.int .u8 0, .string ⟨#[]⟩, .int .i64 0, .slice none 0 0]) (by simp[results,Tryz.results98,go_sem, *]) rfl (by
  have hB:∀ W4,Below w.heap.size w W4→(Ending.returned (.agg #[.int .u8 0, .string ⟨#[]⟩, .int .i64 0, .slice none 0 0])=.returned (.agg #[.int .u8 0, .string ⟨#[]⟩, .int .i64 0, .slice none 0 0])∧Beside rb w W4∧Sn W4 rb sb s true):=fun W4 hb=>⟨rfl,Beside.of_below hb (Nat.le_refl _),HH.out.below hb⟩
  refine hB _ ?_
  repeat (first|with_reducible exact Below.refl _ _|with_reducible refine Below.drew ?_|with_reducible refine Below.setCell ?_ (by simp) _|with_reducible refine Below.alloc ?_ (by simp) _))
set_option maxRecDepth 20000 in
set_option maxHeartbeats 1000000 in
theorem value_num (x:Wf.Sc) (n:Nat) (hs:s.length≤400) (H:Sn w rb sb s false):Calls Tryz.prog 98 #[ptr rb,kV .num] w fun e w'=>RdOut (Wf.parse x (n+1) .num s) s rb sb w e w':=by
 obtain⟨m,hm⟩:∃ m,numV (s.takeWhile Wf.isDig)=m:=⟨_,rfl⟩
 obtain⟨s1,hs1⟩:∃ s1,s.dropWhile Wf.isDig=s1:=⟨_,rfl⟩
 obtain⟨b1,hb1⟩:∃ b1,(false || !(Wf.plainN (s.takeWhile Wf.isDig) 999999).isSome)=b1:=⟨_,rfl⟩
 have HNUM:=hid fun w2 (h:Sn w2 rb sb s false)=>number rb sb w2 s false 999999 (by omega) (by omega) h
 rw[hm,hs1,hb1] at HNUM
 have hmle:m≤999999:=by rw[← hm];exact numV_le _
 have HP:=hid (show(b1=false∧Wf.parse x (n+1) .num s=some (.mk 110 (Wf.dec m) 0 [],s1))∨(b1=true∧Wf.parse x (n+1) .num s=none) by
  rw[Bool.false_or] at hb1
  cases hp:Wf.plainN (s.takeWhile Wf.isDig) 999999 with
  | none =>
   rw[hp] at hb1
   exact .inr ⟨by rw[← hb1];rfl,by rw[Wf.parse_num,Wf.numTok,hp];rfl⟩
  | some g =>
   have hmg:m=g:=by rw[← hm];exact numV_some hp
   rw[hp] at hb1
   exact .inl ⟨by rw[← hb1];rfl,by rw[Wf.parse_num,Wf.numTok,hp,hs1,hmg];rfl⟩)
 have HLE:=hid (show s1.length≤s.length by rw[← hs1];exact(List.dropWhile_suffix _).length_le)
 have hrb:=H.lt
 have c2:=H.c2
 have HH:=hid H
 have ST:=hid fun W1 h=>start_value w ⟨#[]⟩ ⟨#[110]⟩ ⟨#[]⟩ W1 h
 have HSG:=hid fun w2=>sign_w ⟨#[]⟩ ⟨#[110]⟩ ⟨#[]⟩ 0 (.inl ⟨by rw[ByteArray.toList_eq];rfl,rfl⟩) w2
 have hkv:kV .num=.agg #[.string ⟨#[]⟩, .string ⟨#[110]⟩, .string ⟨#[]⟩]:=by rfl
 rw[hkv]
 clear H hm hs1 hb1 hkv
 go_enter Tryz.func98,Tryz.ntmps98
 go_wp2_with (first|(go_at_call 94;refine(decimal m m _ (Nat.le_refl _) hmle).mono ?_;rintro e w3 ⟨rfl,hb3⟩;have S3:=hid (S2.out.below hb3);have HB3:=hid (HB2.out.trans (Beside.of_below hb3 (Nat.le_refl _)));have Z3:=hid (Z2.out.below hb3 Z2.out.lt);obtain⟨zl,zr0,zr1,zr2,zr3,zf0,zf1,zf2,zf3⟩:=Z3.out;clear hb3)|(go_at_call 141;refine(HNUM.out _ S1.out).mono ?_;rintro e w2 ⟨rfl,hs2,hb2⟩;have S2:=hid hs2;have HB2:=hid (HB1.out.trans hb2);have Z2:=hid (Z1.out.step hb2 (by omega));clear hs2 hb2)|(go_at_call 122;obtain⟨d0,d1,d2,z0,b0⟩:=ST.out _ rfl;refine(HSG.out _).mono ?_;rintro e w1 ⟨rfl,hb1⟩;have b01:=below_join b0 hb1;have e1:=(hb1.cell (p:=⟨w.heap.size,1,none⟩) (Nat.lt_of_lt_of_le (Nat.lt_succ_self _) (Nat.le_of_lt z0.lt))).trans d1;have S1:=hid (HH.out.below b01);have HB1:=hid (Beside.of_below (rb:=rb) b01 (Nat.le_refl _));have Z1:=hid (z0.below hb1 z0.lt);clear hb1 b01 b0 d0 d1 d2 z0))
 all_goals exact bodyPost_ret (v:=.agg #[.int .u8 110,tx (Wf.dec m), .int .i64 (0:Nat), .slice none 0 0]) (by simp[results,Tryz.results98,go_sem, *]) rfl (by
  have hR:∀ W4,Beside (w.heap.size+1) w3 W4→RdOut (Wf.parse x (n+1) .num s) s rb sb w (.returned (.agg #[.int .u8 110,tx (Wf.dec m), .int .i64 (0:Nat), .slice none 0 0])) W4:=fun W4 hb=>by
   refine⟨_, .mk 110 (Wf.dec m) 0 [],s1,rfl,VC.leaf 110 (Wf.dec m) 0 (by omega) (by decide),HB3.out.on hb (by omega), ?_⟩
   have sn:=S3.out.beside hb (by omega)
   rcases HP.out with⟨rfl,hp⟩|⟨rfl,hp⟩
   ·exact .inl ⟨hp,sn⟩
   ·exact .inr ⟨hp,Wf.bad_num hmle HLE.out,sn⟩
  refine hR _ ?_
  repeat (first|with_reducible exact Beside.refl _ _|with_reducible refine Beside.drew ?_|with_reducible refine Beside.trans ?_ (Beside.set _ _ _ _)))
set_option maxRecDepth 20000 in
set_option maxHeartbeats 1000000 in
theorem value_txt (x:Wf.Sc) (n:Nat) (hs:s.length≤400) (H:Sn w rb sb s false):Calls Tryz.prog 98 #[ptr rb,kV .txt] w fun e w'=>RdOut (Wf.parse x (n+1) .txt s) s rb sb w e w':=by
 have HQ:Hid (∀ w2,Sn w2 rb sb s false→Calls Tryz.prog 142 #[ptr rb] w2 fun e w'=>∃ t r bad,e=.returned (tx t)∧Sn w' rb sb r bad∧Beside rb w2 w'∧((bad=false∧Wf.parse x (n+1) .txt s=some (.mk 116 t 0 [],r))∨(bad=true∧Wf.parse x (n+1) .txt s=none∧t.length+r.length≤s.length))):=by
  refine hid fun w2 h => ?_
  have hno:Wf.parse x (n+1) .txt s=none→Calls Tryz.prog 142 #[ptr rb] w2 fun e w'=>∃ t r bad,e=.returned (tx t)∧Sn w' rb sb r bad∧Beside rb w2 w'∧((bad=false∧Wf.parse x (n+1) .txt s=some (.mk 116 t 0 [],r))∨(bad=true∧Wf.parse x (n+1) .txt s=none∧t.length+r.length≤s.length)):=fun hp=>by
   refine(quote_no rb sb w2 x n s (by omega) h hp).mono ?_
   rintro e w' ⟨t,r,rfl,hl,hsn,hb⟩
   exact⟨t,r,true,rfl,hsn,hb, .inr ⟨rfl,hp,hl⟩⟩
  by_cases h1:∃ r q,s=39::r∧r.dropWhile Wf.isTxt=39::q∧(r.takeWhile Wf.isTxt).length≤12
  ·obtain⟨r,q,h1,h2,h3⟩:=h1
   refine(quote_yes rb sb w2 s r q (by omega) h h1 h2 h3).mono ?_
   rintro e w' ⟨rfl,hsn,hb⟩
   exact⟨_,q,false,rfl,hsn,hb, .inl ⟨rfl,Wf.parse_txt_yes x n h1 h2 h3⟩⟩
  ·apply hno
   by_cases h39:s.head? = some 39
   ·obtain⟨r,hr⟩:∃ r,s=39::r:=by
     cases s with
     | nil=>simp at h39
     | cons a r=>simp at h39;exact⟨r,by rw[h39]⟩
    by_cases h3:(r.takeWhile Wf.isTxt).length≤12
    ·refine Wf.parse_txt_no2 x n hr fun h2 => ?_
     obtain⟨q,hq⟩:∃ q,r.dropWhile Wf.isTxt=39::q:=by
      cases hd:r.dropWhile Wf.isTxt with
      | nil=>rw[hd] at h2;simp at h2
      | cons a q=>rw[hd] at h2;simp at h2;exact⟨q,by rw[h2]⟩
     exact h1 ⟨r,q,hr,hq,h3⟩
    ·exact Wf.parse_txt_no3 x n hr h3
   ·exact Wf.parse_txt_no1 x n h39
 have hrb:=H.lt
 have c2:=H.c2
 have HH:=hid H
 have ST:=hid fun W1 h=>start_value w ⟨#[]⟩ ⟨#[116]⟩ ⟨#[]⟩ W1 h
 have HSG:=hid fun w2=>sign_w ⟨#[]⟩ ⟨#[116]⟩ ⟨#[]⟩ 0 (.inl ⟨by rw[ByteArray.toList_eq];rfl,rfl⟩) w2
 have hkv:kV .txt=.agg #[.string ⟨#[]⟩, .string ⟨#[116]⟩, .string ⟨#[]⟩]:=by rfl
 rw[hkv]
 clear H hkv
 go_enter Tryz.func98,Tryz.ntmps98
 go_wp2_with (first|(go_at_call 142;refine(HQ.out _ S1.out).mono ?_;rintro e w3 ⟨t,r,bad,rfl,hs3,hb3,hd⟩;have HD:=hid hd;have S3:=hid hs3;have HB3:=hid (HB1.out.trans hb3);have Z3:=hid (Z1.out.step hb3 (by omega));obtain⟨zl,zr0,zr1,zr2,zr3,zf0,zf1,zf2,zf3⟩:=Z3.out;clear hs3 hb3 hd)|(go_at_call 122;obtain⟨d0,d1,d2,z0,b0⟩:=ST.out _ rfl;refine(HSG.out _).mono ?_;rintro e w1 ⟨rfl,hb1⟩;have b01:=below_join b0 hb1;have e1:=(hb1.cell (p:=⟨w.heap.size,1,none⟩) (Nat.lt_of_lt_of_le (Nat.lt_succ_self _) (Nat.le_of_lt z0.lt))).trans d1;have S1:=hid (HH.out.below b01);have c21:=S1.out.c2;have HB1:=hid (Beside.of_below (rb:=rb) b01 (Nat.le_refl _));have Z1:=hid (z0.below hb1 z0.lt);clear hb1 b01 b0 d0 d1 d2 z0))
 all_goals exact bodyPost_ret (v:=.agg #[.int .u8 116,tx t, .int .i64 (0:Nat), .slice none 0 0]) (by simp[results,Tryz.results98,go_sem, *]) rfl (by
  have hR:∀ W4,Beside (w.heap.size+1) w3 W4→RdOut (Wf.parse x (n+1) .txt s) s rb sb w (.returned (.agg #[.int .u8 116,tx t, .int .i64 (0:Nat), .slice none 0 0])) W4:=fun W4 hb=>by
   refine⟨_, .mk 116 t 0 [],r,rfl,VC.leaf 116 t 0 (by omega) (by decide),HB3.out.on hb (by omega), ?_⟩
   have sn:=S3.out.beside hb (by omega)
   rcases HD.out with⟨rfl,hp⟩|⟨rfl,hp,hl⟩
   ·exact .inl ⟨hp,sn⟩
   ·exact .inr ⟨hp,Wf.bad_txt hl,sn⟩
  refine hR _ ?_
  repeat (first|with_reducible exact Beside.refl _ _|with_reducible refine Beside.drew ?_|with_reducible refine Beside.trans ?_ (Beside.set _ _ _ _)))
set_option maxRecDepth 20000 in
set_option maxHeartbeats 1000000 in
theorem value_flag (x:Wf.Sc) (n:Nat) (H:Sn w rb sb s false):Calls Tryz.prog 98 #[ptr rb,kV .flag] w fun e w'=>RdOut (Wf.parse x (n+1) .flag s) s rb sb w e w':=by
 have hrb:=H.lt
 have c2:=H.c2
 have HH:=hid H
 have ST:=hid fun W1 h=>start_value w ⟨#[]⟩ ⟨#[102]⟩ ⟨#[]⟩ W1 h
 have HSG:=hid fun w2=>sign_w ⟨#[]⟩ ⟨#[102]⟩ ⟨#[]⟩ 0 (.inl ⟨by rw[ByteArray.toList_eq];rfl,rfl⟩) w2
 have hkv:kV .flag=.agg #[.string ⟨#[]⟩, .string ⟨#[102]⟩, .string ⟨#[]⟩]:=by rfl
 rw[hkv]
 by_cases hy:[121,101,115] <+: s
 ·obtain⟨q,hq⟩:=hy
  have HP:=hid (show Wf.parse x (n+1) .flag s=some (.mk 102 [121,101,115] 0 [],q) by rw[← hq];exact Wf.parse_yes x n q)
  have HT:=hid fun w2 (h:Sn w2 rb sb s false)=>take_yes rb sb w2 [121,101,115] q (by rw[hq];exact h)
  clear H hkv hq
  go_enter Tryz.func98,Tryz.ntmps98
  go_wp2_with (first|(go_at_call 139;refine(HT.out _ S1.out).mono ?_;rintro e w3 ⟨rfl,hs3,hb3⟩;have S3:=hid hs3;have HB3:=hid (HB1.out.trans hb3);have Z3:=hid (Z1.out.step hb3 (by omega));obtain⟨zl,zr0,zr1,zr2,zr3,zf0,zf1,zf2,zf3⟩:=Z3.out;clear hs3 hb3)|(go_at_call 122;obtain⟨d0,d1,d2,z0,b0⟩:=ST.out _ rfl;refine(HSG.out _).mono ?_;rintro e w1 ⟨rfl,hb1⟩;have b01:=below_join b0 hb1;have e1:=(hb1.cell (p:=⟨w.heap.size,1,none⟩) (Nat.lt_of_lt_of_le (Nat.lt_succ_self _) (Nat.le_of_lt z0.lt))).trans d1;have S1:=hid (HH.out.below b01);have HB1:=hid (Beside.of_below (rb:=rb) b01 (Nat.le_refl _));have Z1:=hid (z0.below hb1 z0.lt);clear hb1 b01 b0 d0 d1 d2 z0))
  all_goals exact bodyPost_ret (v:=.agg #[.int .u8 102, .string ⟨#[121,101,115]⟩, .int .i64 (0:Nat), .slice none 0 0]) (by simp[results,Tryz.results98,go_sem, *]) rfl (by
   have hR:∀ W4,Beside (w.heap.size+1) w3 W4→RdOut (Wf.parse x (n+1) .flag s) s rb sb w (.returned (.agg #[.int .u8 102, .string ⟨#[121,101,115]⟩, .int .i64 (0:Nat), .slice none 0 0])) W4:=fun W4 hb=>by
    refine⟨_, .mk 102 [121,101,115] 0 [],q,rfl,VC.leaf 102 [121,101,115] 0 (by omega) (by decide),HB3.out.on hb (by omega), ?_⟩
    have sn:=S3.out.beside hb (by omega)
    exact .inl ⟨HP.out,sn⟩
   refine hR _ ?_
   repeat (first|with_reducible exact Beside.refl _ _|with_reducible refine Beside.drew ?_|with_reducible refine Beside.trans ?_ (Beside.set _ _ _ _)))
 ·have HT:=hid fun w2 (h:Sn w2 rb sb s false)=>take_no rb sb w2 s [121,101,115] false h (.inr hy)
  obtain⟨r,b,hwant,hp⟩:∃ r b,(∀ w2,Sn w2 rb sb s false→Calls Tryz.prog 140 #[ptr rb,tx [110,111]] w2 fun e w'=>e=.returned (.tuple #[])∧Sn w' rb sb r b∧Beside rb w2 w')∧((b=false∧Wf.parse x (n+1) .flag s=some (.mk 102 [110,111] 0 [],r))∨(b=true∧Wf.parse x (n+1) .flag s=none∧r.length≤s.length)):=by
   by_cases hn:[110,111] <+: s
   ·obtain⟨q,rfl⟩:=hn
    exact⟨q,false,fun w2 h=>want_yes rb sb w2 [110,111] q h, .inl ⟨rfl,Wf.parse_no x n q⟩⟩
   ·exact⟨s,true,fun w2 h=>want_no rb sb w2 s [110,111] false h (.inr hn), .inr ⟨rfl,Wf.parse_flag_none x n hy hn,Nat.le_refl _⟩⟩
  have HWANT:=hid hwant
  have HP:=hid hp
  clear H hkv hy hwant hp
  go_enter Tryz.func98,Tryz.ntmps98
  go_wp2_with (first|(go_at_call 140;refine(HWANT.out _ S1.out).mono ?_;rintro e w3 ⟨rfl,hs3,hb3⟩;have S3:=hid hs3;have HB3:=hid (HB1.out.trans hb3);have Z3:=hid (Z1.out.step hb3 (by omega));obtain⟨zl,zr0,zr1,zr2,zr3,zf0,zf1,zf2,zf3⟩:=Z3.out;clear hs3 hb3)|(go_at_call 139;refine(HT.out _ S1.out).mono ?_;rintro e w2 ⟨rfl,rfl⟩)|(go_at_call 122;obtain⟨d0,d1,d2,z0,b0⟩:=ST.out _ rfl;refine(HSG.out _).mono ?_;rintro e w1 ⟨rfl,hb1⟩;have b01:=below_join b0 hb1;have e1:=(hb1.cell (p:=⟨w.heap.size,1,none⟩) (Nat.lt_of_lt_of_le (Nat.lt_succ_self _) (Nat.le_of_lt z0.lt))).trans d1;have S1:=hid (HH.out.below b01);have HB1:=hid (Beside.of_below (rb:=rb) b01 (Nat.le_refl _));have Z1:=hid (z0.below hb1 z0.lt);clear hb1 b01 b0 d0 d1 d2 z0))
  all_goals exact bodyPost_ret (v:=.agg #[.int .u8 102, .string ⟨#[110,111]⟩, .int .i64 (0:Nat), .slice none 0 0]) (by simp[results,Tryz.results98,go_sem, *]) rfl (by
   have hR:∀ W4,Beside (w.heap.size+1) w3 W4→RdOut (Wf.parse x (n+1) .flag s) s rb sb w (.returned (.agg #[.int .u8 102, .string ⟨#[110,111]⟩, .int .i64 (0:Nat), .slice none 0 0])) W4:=fun W4 hb=>by
    refine⟨_, .mk 102 [110,111] 0 [],r,rfl,VC.leaf 102 [110,111] 0 (by omega) (by decide),HB3.out.on hb (by omega), ?_⟩
    have sn:=S3.out.beside hb (by omega)
    rcases HP.out with⟨rfl,hp⟩|⟨rfl,hp,hl⟩
    ·exact .inl ⟨hp,sn⟩
    ·exact .inr ⟨hp,Wf.bad_flag (by decide) hl,sn⟩
   refine hR _ ?_
   repeat (first|with_reducible exact Beside.refl _ _|with_reducible refine Beside.drew ?_|with_reducible refine Beside.trans ?_ (Beside.set _ _ _ _)))
end

set_option maxRecDepth 20000 in
theorem part_w (SG S1 BS NM:ByteArray) (c:UInt8) (h:SG=⟨(c::S1.data.toList).toArray⟩) (w:World):Calls Tryz.prog 138 #[.agg #[.string SG, .string BS, .string NM]] w fun e w'=>e=.returned (.agg #[.string S1, .string BS, .string NM])∧Below w.heap.size w w':=by
 have h1:1≤SG.size:=by
  rw[h]
  show 1≤(c::S1.data.toList).toArray.size
  simp
 have h2:SG.extract 1 SG.size=S1:=by
  apply ByteArray.ext
  rw[ByteArray.data_extract,h]
  show(c::S1.data.toList).toArray.extract 1 (c::S1.data.toList).toArray.size=S1.data
  simp
  have hz:S1.size=S1.data.toList.length:=rfl
  rw[hz,List.take_length]
 clear h
 go_enter Tryz.func138,Tryz.ntmps138
 go_wp2_with fail
 exact bodyPost_ret (v:=.agg #[.string S1, .string BS, .string NM]) (by simp[results,Tryz.results138,go_sem, *]) rfl ⟨rfl,((Below.refl _ _).alloc (Nat.le_refl _) _).alloc (by simp) _⟩
theorem part_list (k:Wf.K) (w:World):Calls Tryz.prog 138 #[kV (.list k)] w fun e w'=>e=.returned (kV k)∧Below w.heap.size w w' :=
 part_w _ ⟨k.signs.toArray⟩ _ _ 91 rfl w
theorem part_opt (k:Wf.K) (w:World):Calls Tryz.prog 138 #[kV (.opt k)] w fun e w'=>e=.returned (kV k)∧Below w.heap.size w w' :=
 part_w _ ⟨k.signs.toArray⟩ _ _ 63 rfl w
set_option maxRecDepth 20000 in
set_option maxHeartbeats 1000000 in
theorem value_list (x:Wf.Sc) (rb sb:Nat) (W:World) (n:Nat) (k:Wf.K) (s:List UInt8) (w:World) (hW:Below W.heap.size W w) (hWr:W.heap.size≤rb) (IH:Reads x rb sb W n k) (hn:s.length<n+1) (h400:s.length≤400) (H:Sn w rb sb s false):Calls Tryz.prog 98 #[ptr rb,kV (.list k)] w fun e w'=>RdOut (Wf.parse x (n+1) (.list k) s) s rb sb w e w':=by
 have hrb:=H.lt
 have c2:=H.c2
 have HH:=hid H
 have HW:=hid hW
 have HLS:=hid fun(w2:World) (hb:Below W.heap.size W w2) (h:Sn w2 rb sb s false)=>list_any x rb sb W n k s w2 hb hWr IH hn h400 h
 have HPT:=hid fun w2=>part_list k w2
 have HSG:=hid fun w2=>sign (.list k) w2
 obtain⟨SG,hSG⟩:∃ SG:ByteArray,(⟨(Wf.K.list k).signs.toArray⟩:ByteArray)=SG:=⟨_,rfl⟩
 obtain⟨BS,hBS⟩:∃ BS:ByteArray,(⟨(Wf.K.list k).base.toArray⟩:ByteArray)=BS:=⟨_,rfl⟩
 obtain⟨NM,hNM⟩:∃ NM:ByteArray,(⟨(Wf.K.list k).name.toArray⟩:ByteArray)=NM:=⟨_,rfl⟩
 have hkv:kV (.list k)=.agg #[.string SG, .string BS, .string NM]:=by simp only[kV,tx,hSG,hBS,hNM]
 rw[hkv] at HPT HSG
 rw[hkv]
 have hsn:signN (.list k)=91:=rfl
 rw[hsn] at HSG
 have ST:=hid fun W1 h=>start_value w SG BS NM W1 h
 clear H hW IH hSG hBS hNM hkv hsn
 go_enter Tryz.func98,Tryz.ntmps98
 go_wp2_with (first|(go_at_call 137;refine(HLS.out _ BW2.out S2.out).mono ?_;rintro e w3 ⟨cs,v,r,rfl,hvc,hb3,ho⟩;obtain⟨q2,g2,n2,c2,T2,a2,rfl⟩:=hvc.cells4;have HVC:=hid hvc;have HO:=hid ho;have HB3:=hid (HB2.out.trans hb3);have Z3:=hid (Z2.out.step hb3 (by omega));obtain⟨zl,zr0,zr1,zr2,zr3,zf0,zf1,zf2,zf3⟩:=Z3.out;clear hvc ho hb3)|(go_at_call 138;refine(HPT.out _).mono ?_;rintro e w2 ⟨rfl,hb2⟩;have S2:=hid (S1.out.below hb2);have HB2:=hid (HB1.out.trans (Beside.of_below hb2 (Nat.le_refl _)));have Z2:=hid (Z1.out.below hb2 Z1.out.lt);have BW2:=hid (Beside.below HW.out HW.out.size hWr HB2.out);have hsz2:=Nat.lt_of_lt_of_le Z1.out.lt hb2.size;clear hb2)|(go_at_call 122;obtain⟨d0,d1,d2,z0,b0⟩:=ST.out _ rfl;refine(HSG.out _).mono ?_;rintro e w1 ⟨rfl,hb1⟩;have b01:=below_join b0 hb1;have hz:=Nat.lt_of_lt_of_le (Nat.lt_succ_self _) (Nat.le_of_lt z0.lt);have e0:=(hb1.cell (p:=⟨w.heap.size,0,none⟩) hz).trans d0;have e1:=(hb1.cell (p:=⟨w.heap.size,1,none⟩) hz).trans d1;have e2:=(hb1.cell (p:=⟨w.heap.size,2,none⟩) hz).trans d2;have S1:=hid (HH.out.below b01);have HB1:=hid (Beside.of_below (rb:=rb) b01 (Nat.le_refl _));have Z1:=hid (z0.below hb1 z0.lt);clear hb1 b01 b0 d0 d1 d2 z0 hz))
 all_goals exact bodyPost_ret (v:=.agg #[.int .u8 q2, .string T2, .int .i64 g2, .slice a2 n2 c2]) (by simp[results,Tryz.results98,go_sem, *]) rfl (by
  have hR:∀ W4,Beside (w.heap.size+1) w3 W4→RdOut (Wf.parse x (n+1) (.list k) s) s rb sb w (.returned (.agg #[.int .u8 q2, .string T2, .int .i64 g2, .slice a2 n2 c2])) W4:=fun W4 hb=>by
   refine⟨[.int .u8 q2, .string T2, .int .i64 g2, .slice a2 n2 c2],v,r,rfl,VC.keep (P:=fun b=>w2.heap.size≤b) (fun b hp hlt=>⟨by omega,hb.block b hlt (by omega)⟩) hb.size _ _ HVC.out,HB3.out.on hb (by omega), ?_⟩
   rcases HO.out with⟨hp,sn⟩|⟨hp,hbv,sn⟩
   ·exact .inl ⟨hp,sn.beside hb (by omega)⟩
   ·exact .inr ⟨hp,hbv,sn.beside hb (by omega)⟩
  refine hR _ ?_
  repeat (first|with_reducible exact Beside.refl _ _|with_reducible refine Beside.drew ?_|with_reducible refine Beside.trans ?_ (Beside.set _ _ _ _)))
set_option maxRecDepth 20000 in
set_option maxHeartbeats 1000000 in
theorem value_opt_none (x:Wf.Sc) (rb sb:Nat) (n:Nat) (k:Wf.K) (q:List UInt8) (w:World) (H:Sn w rb sb (45::q) false):Calls Tryz.prog 98 #[ptr rb,kV (.opt k)] w fun e w'=>RdOut (Wf.parse x (n+1) (.opt k) (45::q)) (45::q) rb sb w e w':=by
 have hrb:=H.lt
 have c2:=H.c2
 have HH:=hid H
 have HP:=hid (Wf.parse_opt_none x n k q)
 have HSG:=hid fun w2=>sign (.opt k) w2
 obtain⟨SG,hSG⟩:∃ SG:ByteArray,(⟨(Wf.K.opt k).signs.toArray⟩:ByteArray)=SG:=⟨_,rfl⟩
 obtain⟨BS,hBS⟩:∃ BS:ByteArray,(⟨(Wf.K.opt k).base.toArray⟩:ByteArray)=BS:=⟨_,rfl⟩
 obtain⟨NM,hNM⟩:∃ NM:ByteArray,(⟨(Wf.K.opt k).name.toArray⟩:ByteArray)=NM:=⟨_,rfl⟩
 have hkv:kV (.opt k)=.agg #[.string SG, .string BS, .string NM]:=by simp only[kV,tx,hSG,hBS,hNM]
 rw[hkv] at HSG
 rw[hkv]
 have hsn:signN (.opt k)=63:=rfl
 rw[hsn] at HSG
 have ST:=hid fun W1 h=>start_value w SG BS NM W1 h
 clear H hSG hBS hNM hkv hsn
 go_enter Tryz.func98,Tryz.ntmps98
 go_wp2_with (first|(go_at_call 139;refine(take_yes rb sb _ [45] q S1.out).mono ?_;rintro e w3 ⟨rfl,hs3,hb3⟩;have S3:=hid hs3;have HB3:=hid (HB1.out.trans hb3);have Z3:=hid (Z1.out.step hb3 (by omega));obtain⟨zl,zr0,zr1,zr2,zr3,zf0,zf1,zf2,zf3⟩:=Z3.out;clear hs3 hb3)|(go_at_call 122;obtain⟨d0,d1,d2,z0,b0⟩:=ST.out _ rfl;refine(HSG.out _).mono ?_;rintro e w1 ⟨rfl,hb1⟩;have b01:=below_join b0 hb1;have S1:=hid (HH.out.below b01);have HB1:=hid (Beside.of_below (rb:=rb) b01 (Nat.le_refl _));have Z1:=hid (z0.below hb1 z0.lt);clear hb1 b01 b0 d0 d1 d2 z0))
 all_goals exact bodyPost_ret (v:=.agg #[.int .u8 63, .string ⟨#[]⟩, .int .i64 (0:Nat), .slice none 0 0]) (by simp[results,Tryz.results98,go_sem, *]) rfl (by
  have hR:∀ W4,Beside (w.heap.size+1) w3 W4→RdOut (Wf.parse x (n+1) (.opt k) (45::q)) (45::q) rb sb w (.returned (.agg #[.int .u8 63, .string ⟨#[]⟩, .int .i64 (0:Nat), .slice none 0 0])) W4:=fun W4 hb =>
   ⟨_, .mk 63 [] 0 [],q,rfl,VC.leaf 63 [] 0 (by omega) (by decide),HB3.out.on hb (by omega), .inl ⟨HP.out,S3.out.beside hb (by omega)⟩⟩
  refine hR _ ?_
  repeat (first|with_reducible exact Beside.refl _ _|with_reducible refine Beside.drew ?_|with_reducible refine Beside.trans ?_ (Beside.set _ _ _ _)))
set_option maxRecDepth 20000 in
set_option maxHeartbeats 1000000 in
theorem value_opt_some (x:Wf.Sc) (rb sb:Nat) (W:World) (n:Nat) (k:Wf.K) (r:List UInt8) (w:World) (hW:Below W.heap.size W w) (hWr:W.heap.size≤rb) (IH:Reads x rb sb W n k) (hn:r.length<n) (h400:r.length≤400) (H:Sn w rb sb (43::r) false):Calls Tryz.prog 98 #[ptr rb,kV (.opt k)] w fun e w'=>RdOut (Wf.parse x (n+1) (.opt k) (43::r)) (43::r) rb sb w e w':=by
 have hrb:=H.lt
 have c2:=H.c2
 have HH:=hid H
 have HW:=hid hW
 have HP:=hid (Wf.parse_opt_some x n k r)
 have HIH:=hid IH
 have HPT:=hid fun w2=>part_opt k w2
 have HSG:=hid fun w2=>sign (.opt k) w2
 obtain⟨SG,hSG⟩:∃ SG:ByteArray,(⟨(Wf.K.opt k).signs.toArray⟩:ByteArray)=SG:=⟨_,rfl⟩
 obtain⟨BS,hBS⟩:∃ BS:ByteArray,(⟨(Wf.K.opt k).base.toArray⟩:ByteArray)=BS:=⟨_,rfl⟩
 obtain⟨NM,hNM⟩:∃ NM:ByteArray,(⟨(Wf.K.opt k).name.toArray⟩:ByteArray)=NM:=⟨_,rfl⟩
 have hkv:kV (.opt k)=.agg #[.string SG, .string BS, .string NM]:=by simp only[kV,tx,hSG,hBS,hNM]
 rw[hkv] at HSG HPT
 rw[hkv]
 have hsn:signN (.opt k)=63:=rfl
 rw[hsn] at HSG
 have ST:=hid fun W1 h=>start_value w SG BS NM W1 h
 clear H hW IH hSG hBS hNM hkv hsn
 go_enter Tryz.func98,Tryz.ntmps98
 go_wp2_with (first|(go_at_call 98;refine(HIH.out r _ BW4.out S4.out hn h400).mono ?_;rintro e w5 ⟨cs,v,r5,rfl,hvc,hb5,ho⟩;obtain⟨q2,g2,n2,c2,T2,a2,rfl⟩:=hvc.cells4;have HVC:=hid hvc;have HO:=hid ho;have HB5:=hid (HB4.out.trans hb5);have Z5:=hid (Z4.out.step hb5 (by omega));obtain⟨zl,zr0,zr1,zr2,zr3,zf0,zf1,zf2,zf3⟩:=Z5.out;clear hvc ho hb5)|(go_at_call 138;refine(HPT.out _).mono ?_;rintro e w4 ⟨rfl,hb4⟩;have S4:=hid (S3.out.below hb4);have HB4:=hid (HB3.out.trans (Beside.of_below hb4 (Nat.le_refl _)));have Z4:=hid (Z3.out.below hb4 Z3.out.lt);have hz4:=Z4.out.lt;have BW4:=hid (Beside.below HW.out HW.out.size hWr HB4.out);clear hb4)|(go_at_call 140;refine(want_yes rb sb _ [43] r S1.out).mono ?_;rintro e w3 ⟨rfl,hs3,hb3⟩;have S3:=hid hs3;have HB3:=hid (HB1.out.trans hb3);have Z3:=hid (Z1.out.step hb3 (by omega));have k0:=(hb3.cell (p:=⟨w.heap.size,0,none⟩) hz (by show w.heap.size≠rb;omega)).trans e0;have k1:=(hb3.cell (p:=⟨w.heap.size,1,none⟩) hz (by show w.heap.size≠rb;omega)).trans e1;have k2:=(hb3.cell (p:=⟨w.heap.size,2,none⟩) hz (by show w.heap.size≠rb;omega)).trans e2;clear hs3 hb3)|(go_at_call 139;refine(take_no rb sb _ (43::r) [45] false S1.out (.inr (by rw[pre1];simp))).mono ?_;rintro e w2 ⟨rfl,rfl⟩)|(go_at_call 122;obtain⟨d0,d1,d2,z0,b0⟩:=ST.out _ rfl;refine(HSG.out _).mono ?_;rintro e w1 ⟨rfl,hb1⟩;have b01:=below_join b0 hb1;have hz:=Nat.lt_of_lt_of_le (Nat.lt_succ_self _) (Nat.le_of_lt z0.lt);have e0:=(hb1.cell (p:=⟨w.heap.size,0,none⟩) hz).trans d0;have e1:=(hb1.cell (p:=⟨w.heap.size,1,none⟩) hz).trans d1;have e2:=(hb1.cell (p:=⟨w.heap.size,2,none⟩) hz).trans d2;have S1:=hid (HH.out.below b01);have HB1:=hid (Beside.of_below (rb:=rb) b01 (Nat.le_refl _));have Z1:=hid (z0.below hb1 z0.lt);have hz:=Nat.lt_of_lt_of_le hz hb1.size;clear hb1 b01 b0 d0 d1 d2 z0))
 all_goals exact bodyPost_ret (v:=.agg #[.int .u8 63, .string ⟨#[]⟩, .int .i64 (0:Nat), .slice (some ⟨w5.heap.size,0,none⟩) 1 1]) (by simp[results,Tryz.results98,go_sem, *]) rfl (by
  have hR:∀ W4,Beside (w.heap.size+1) w5 W4→w5.heap.size<W4.heap.size→(∀ j u,[Value.int .u8 q2,Value.string T2,Value.int .i64 g2,Value.slice a2 n2 c2][j]? = some u→W4.cell? ⟨w5.heap.size,0+j,none⟩=some u)→RdOut (Wf.parse x (n+1) (.opt k) (43::r)) (43::r) rb sb w (.returned (.agg #[.int .u8 63, .string ⟨#[]⟩, .int .i64 (0:Nat), .slice (some ⟨w5.heap.size,0,none⟩) 1 1])) W4:=fun W4 hb hl hc=>by
   refine⟨_, .mk 63 [] 0 [v],r5,rfl,VC.one (VC.keep (P:=fun b=>w4.heap.size≤b) (fun b hp hlt=>⟨by omega,hb.block b hlt (by omega)⟩) hb.size _ _ HVC.out) (by omega) hl hc 63 [] 0 ⟨by omega,fun _=>.inr (.inl rfl),fun h=>absurd h (by decide)⟩,HB5.out.on hb (by omega), ?_⟩
   rcases HO.out with⟨hp,sn⟩|⟨hp,hbv,sn⟩
   ·exact .inl ⟨by rw[HP.out,hp];rfl,sn.beside hb (by omega)⟩
   ·exact .inr ⟨by rw[HP.out,hp];rfl,Wf.bad_opt rfl hbv,sn.beside hb (by omega)⟩
  refine hR _ ?_ ?_ ?_
  ·repeat (first|with_reducible exact Beside.refl _ _|with_reducible refine Beside.drew ?_|with_reducible refine Beside.alloc ?_ _|with_reducible refine Beside.trans ?_ (Beside.set _ _ _ _))
  ·simp
  ·intro j u hu
   rcases j with _|_|_|_|j <;> simp at hu <;> subst hu <;> simp[go_sem])
set_option maxRecDepth 20000 in
set_option maxHeartbeats 1000000 in
theorem value_opt_no (x:Wf.Sc) (rb sb:Nat) (W:World) (n:Nat) (k:Wf.K) (r:List UInt8) (w:World) (h1:r.head? ≠ some 45) (h2:r.head? ≠ some 43) (hW:Below W.heap.size W w) (hWr:W.heap.size≤rb) (H:Sn w rb sb r false):Calls Tryz.prog 98 #[ptr rb,kV (.opt k)] w fun e w'=>RdOut (Wf.parse x (n+1) (.opt k) r) r rb sb w e w':=by
 have hrb:=H.lt
 have c2:=H.c2
 have HH:=hid H
 have HW:=hid hW
 have HP:=hid (Wf.parse_opt_no x n k h1 h2)
 have HY:=hid (And.intro (fun hp=>h1 ((pre1 45 r).1 hp)) (fun hp=>h2 ((pre1 43 r).1 hp)))
 have HPT:=hid fun w2=>part_opt k w2
 have HSG:=hid fun w2=>sign (.opt k) w2
 obtain⟨SG,hSG⟩:∃ SG:ByteArray,(⟨(Wf.K.opt k).signs.toArray⟩:ByteArray)=SG:=⟨_,rfl⟩
 obtain⟨BS,hBS⟩:∃ BS:ByteArray,(⟨(Wf.K.opt k).base.toArray⟩:ByteArray)=BS:=⟨_,rfl⟩
 obtain⟨NM,hNM⟩:∃ NM:ByteArray,(⟨(Wf.K.opt k).name.toArray⟩:ByteArray)=NM:=⟨_,rfl⟩
 have hkv:kV (.opt k)=.agg #[.string SG, .string BS, .string NM]:=by simp only[kV,tx,hSG,hBS,hNM]
 rw[hkv] at HSG HPT
 rw[hkv]
 have hsn:signN (.opt k)=63:=rfl
 rw[hsn] at HSG
 have ST:=hid fun W1 h=>start_value w SG BS NM W1 h
 clear H hW h1 h2 hSG hBS hNM hkv hsn
 go_enter Tryz.func98,Tryz.ntmps98
 go_wp2_with (first|(go_at_call 98;refine(value_bad rb sb r _ k S4.out).mono ?_;rintro e w5 ⟨rfl,hb5,ho⟩;have HO:=hid ho;have HB5:=hid (HB4.out.trans hb5);have Z5:=hid (Z4.out.step hb5 (by omega));obtain⟨zl,zr0,zr1,zr2,zr3,zf0,zf1,zf2,zf3⟩:=Z5.out;clear ho hb5)|(go_at_call 138;refine(HPT.out _).mono ?_;rintro e w4 ⟨rfl,hb4⟩;have S4:=hid (S3.out.below hb4);have HB4:=hid (HB3.out.trans (Beside.of_below hb4 (Nat.le_refl _)));have Z4:=hid (Z3.out.below hb4 Z3.out.lt);have hz4:=Z4.out.lt;have BW4:=hid (Beside.below HW.out HW.out.size hWr HB4.out);clear hb4)|(go_at_call 140;refine(want_no rb sb _ r [43] false S1.out (.inr HY.out.2)).mono ?_;rintro e w3 ⟨rfl,hs3,hb3⟩;have S3:=hid hs3;have HB3:=hid (HB1.out.trans hb3);have Z3:=hid (Z1.out.step hb3 (by omega));have k0:=(hb3.cell (p:=⟨w.heap.size,0,none⟩) hz (by show w.heap.size≠rb;omega)).trans e0;have k1:=(hb3.cell (p:=⟨w.heap.size,1,none⟩) hz (by show w.heap.size≠rb;omega)).trans e1;have k2:=(hb3.cell (p:=⟨w.heap.size,2,none⟩) hz (by show w.heap.size≠rb;omega)).trans e2;clear hs3 hb3)|(go_at_call 139;refine(take_no rb sb _ r [45] false S1.out (.inr HY.out.1)).mono ?_;rintro e w2 ⟨rfl,rfl⟩)|(go_at_call 122;obtain⟨d0,d1,d2,z0,b0⟩:=ST.out _ rfl;refine(HSG.out _).mono ?_;rintro e w1 ⟨rfl,hb1⟩;have b01:=below_join b0 hb1;have hz:=Nat.lt_of_lt_of_le (Nat.lt_succ_self _) (Nat.le_of_lt z0.lt);have e0:=(hb1.cell (p:=⟨w.heap.size,0,none⟩) hz).trans d0;have e1:=(hb1.cell (p:=⟨w.heap.size,1,none⟩) hz).trans d1;have e2:=(hb1.cell (p:=⟨w.heap.size,2,none⟩) hz).trans d2;have S1:=hid (HH.out.below b01);have HB1:=hid (Beside.of_below (rb:=rb) b01 (Nat.le_refl _));have Z1:=hid (z0.below hb1 z0.lt);have hz:=Nat.lt_of_lt_of_le hz hb1.size;clear hb1 b01 b0 d0 d1 d2 z0))
 all_goals exact bodyPost_ret (v:=.agg #[.int .u8 63, .string ⟨#[]⟩, .int .i64 (0:Nat), .slice (some ⟨w5.heap.size,0,none⟩) 1 1]) (by simp[results,Tryz.results98,go_sem, *]) rfl (by
  have hR:∀ W4,Beside (w.heap.size+1) w5 W4→w5.heap.size<W4.heap.size→(∀ j u,[Value.int .u8 0,Value.string ⟨#[]⟩,Value.int .i64 (0:Nat),Value.slice none 0 0][j]? = some u→W4.cell? ⟨w5.heap.size,0+j,none⟩=some u)→RdOut (Wf.parse x (n+1) (.opt k) r) r rb sb w (.returned (.agg #[.int .u8 63, .string ⟨#[]⟩, .int .i64 (0:Nat), .slice (some ⟨w5.heap.size,0,none⟩) 1 1])) W4:=fun W4 hb hl hc=>by
   exact⟨_, .mk 63 [] 0 [.mk 0 [] 0 []],r,rfl,VC.one (VC.leaf 0 [] 0 (by omega) (by decide)) (by omega) hl hc 63 [] 0 ⟨by omega,fun _=>.inr (.inl rfl),fun h=>absurd h (by decide)⟩,HB5.out.on hb (by omega), .inr ⟨HP.out,Wf.bad_opt0,HO.out.beside hb (by omega)⟩⟩
  refine hR _ ?_ ?_ ?_
  ·repeat (first|with_reducible exact Beside.refl _ _|with_reducible refine Beside.drew ?_|with_reducible refine Beside.alloc ?_ _|with_reducible refine Beside.trans ?_ (Beside.set _ _ _ _))
  ·simp
  ·intro j u hu
   rcases j with _|_|_|_|j <;> simp at hu <;> subst hu <;> simp[go_sem])

theorem start_rec (w:World) (rb q:Nat) (W1:World) (hW1:(w.alloc (.cells #[.int .u8 0, .string ⟨#[]⟩, .int .i64 0, .slice none 0 0] 92)).alloc (.cells #[.int .u8 q, .string ⟨#[]⟩, .int .i64 0, .slice none 0 0] 92)=W1) :
  Zero W1 w.heap.size∧Bld w W1 rb (w.heap.size+1) (w.heap.size+1+1) q none 0 [] []∧Below w.heap.size w W1:=by
 have hB:Below w.heap.size w W1:=by
  rw[← hW1]
  exact(((Below.refl _ _).alloc (Nat.le_refl _) _).alloc (by simp) _)
 subst hW1
 refine⟨⟨?_, ?_, ?_, ?_, ?_, ?_, ?_, ?_, ?_⟩,⟨Beside.of_below hB (Nat.le_refl _), ?_, ?_, ?_, ?_, ?_, ?_, ?_, ?_,World.ownsRow_nil _ _ _ _, ?_,rfl, ?_⟩,hB⟩
 all_goals first|(simp[go_sem];done)|(simp[go_sem];omega)|omega|(intro e he;simp at he)|(intro i h1;simp at h1)
section
variable (x:Wf.Sc) (rb sb:Nat) (W:World) (n:Nat) (t:Wf.Ty) (nm:List UInt8) (s:List UInt8) (w:World)
set_option maxRecDepth 20000 in
set_option maxHeartbeats 1000000 in
theorem rec_no (hf:x.find nm=some t) (lo tb:Nat) (hW:Below W.heap.size W w) (hT:TyL W lo tb t) (h82:t.sort=82) (H:Sn w rb sb s false) (h:s.head? ≠ some 123):Calls Tryz.prog 143 #[ptr rb,ptr tb] w fun e w'=>RdOut (Wf.parse x (n+1) (.ref nm) s) s rb sb w e w':=by
 have HP:=hid (Wf.parse_rec_no x n hf h82 h)
 obtain⟨htb,c0⟩:=hT.sort
 rw[h82] at c0
 have y0:w.cell? ⟨tb,0,none⟩=some (.int .u8 82):=(hW.cell (p:=⟨tb,0,none⟩) htb).trans c0
 have htw:tb<w.heap.size:=Nat.lt_of_lt_of_le htb hW.size
 have htw1:tb<w.heap.size+1:=by omega
 have hrb:=H.lt
 have HH:=hid H
 have HN:=hid fun hp=>h ((pre1 123 s).1 hp)
 have ST:=hid fun W1 h=>start_rec w rb 82 W1 h
 clear H h hW hT c0 h82 hf
 go_enter Tryz.func143,Tryz.ntmps143
 go_wp2_with (first|(go_at_call 139;have _u:=hS1;refine(take_no rb sb _ s [125] true hS1.out (.inl rfl)).mono ?_;rintro e w2 ⟨rfl,rfl⟩)|(go_at_call 140;obtain⟨z0,bl0,b0⟩:=ST.out _ rfl;refine(want_no rb sb _ s [123] false (HH.out.below b0) (.inr HN.out)).mono ?_;rintro e w1 ⟨rfl,hs1,hb1⟩;have Z1:=hid (z0.step hb1 (by omega));have BL:=hid (bl0.step hrb hb1);have hS1:=hid hs1;have HB1:=hid ((Beside.of_below b0 (Nat.le_refl _)).trans hb1);have cb2:=hs1.c2;have hbl:=hs1.lt;clear z0 bl0 b0 hs1 hb1))
 go_loopw [8] (fun s8 wr=>wr=w1) (fun _ _=>0)
 case atStart=>rfl
 case round =>
  subst hrel
  go_wp2_with (go_at_call 140;refine(want_no rb sb _ s [125] true hS1.out (.inl rfl)).mono ?_;rintro e w3 ⟨rfl,hs3,hb3⟩;have hS3:=hid hs3;have HB3:=hid (HB1.out.trans hb3);have Z3:=hid (Z1.out.step hb3 (by omega));have BL3:=hid (BL.out.step hrb hb3);clear hs3 hb3;have v0:=BL3.out.v0;have v1:=BL3.out.v1;have v2:=BL3.out.v2;have v3:=BL3.out.v3;obtain⟨zl,zr0,zr1,zr2,zr3,zf0,zf1,zf2,zf3⟩:=Z3.out;have hvl:w.heap.size+1<w3.heap.size:=(by have:=BL3.out.sz;omega))
  exact bodyPost_ret (v:=.agg #[.int .u8 82, .string ⟨#[]⟩, .int .i64 0, .slice none 0 0]) (by simp[results,Tryz.results143,go_sem, *]) rfl (by
   have hB4:∀ W4,Beside w.heap.size w3 W4→RdOut (Wf.parse x (n+1) (.ref nm) s) s rb sb w (.returned (.agg #[.int .u8 82, .string ⟨#[]⟩, .int .i64 0, .slice none 0 0])) W4:=fun W4 hb=>by
    refine⟨_, .mk 82 [] 0 [],s,rfl,VC.leaf 82 [] 0 (by omega) (by decide),HB3.out.on hb (Nat.le_refl _), .inr ⟨HP.out,Wf.bad_row0 (.inr rfl) (Nat.le_refl _),hS3.out.beside hb (by omega)⟩⟩
   refine hB4 _ ?_
   repeat (first|with_reducible exact Beside.refl _ _|with_reducible refine Beside.drew ?_|with_reducible refine Beside.trans ?_ (Beside.set _ _ _ _)))
set_option maxRecDepth 20000 in
set_option maxHeartbeats 1000000 in
theorem rec_nil (q:List UInt8) (hf:x.find nm=some t) (lo tb:Nat) (hW:Below W.heap.size W w) (hT:TyL W lo tb t) (h82:t.sort=82) (H:Sn w rb sb (123::125::q) false):Calls Tryz.prog 143 #[ptr rb,ptr tb] w fun e w'=>RdOut (Wf.parse x (n+1) (.ref nm) (123::125::q)) (123::125::q) rb sb w e w':=by
 have HP:=hid (Wf.parse_rec_nil x n hf h82 q)
 obtain⟨htb,c0⟩:=hT.sort
 rw[h82] at c0
 have y0:w.cell? ⟨tb,0,none⟩=some (.int .u8 82):=(hW.cell (p:=⟨tb,0,none⟩) htb).trans c0
 have htw:tb<w.heap.size:=Nat.lt_of_lt_of_le htb hW.size
 have htw1:tb<w.heap.size+1:=by omega
 have hrb:=H.lt
 have HH:=hid H
 have ST:=hid fun W1 h=>start_rec w rb 82 W1 h
 clear H hW hT c0 h82 hf
 go_enter Tryz.func143,Tryz.ntmps143
 go_wp2_with (first|(go_at_call 139;have _u:=hS1;refine(take_yes rb sb _ [125] q hS1.out).mono ?_;rintro e w3 ⟨rfl,hs3,hb3⟩;have hS3:=hid hs3;have HB3:=hid (HB1.out.trans hb3);have Z3:=hid (Z1.out.step hb3 (by omega));have BL3:=hid (BL.out.step hrb hb3);clear hs3 hb3;have v0:=BL3.out.v0;have v1:=BL3.out.v1;have v2:=BL3.out.v2;have v3:=BL3.out.v3;obtain⟨zl,zr0,zr1,zr2,zr3,zf0,zf1,zf2,zf3⟩:=Z3.out;have hvl:w.heap.size+1<w3.heap.size:=(by have:=BL3.out.sz;omega))|(go_at_call 140;obtain⟨z0,bl0,b0⟩:=ST.out _ rfl;refine(want_yes rb sb _ [123] (125::q) (HH.out.below b0)).mono ?_;rintro e w1 ⟨rfl,hs1,hb1⟩;have Z1:=hid (z0.step hb1 (by omega));have BL:=hid (bl0.step hrb hb1);have hS1:=hid hs1;have HB1:=hid ((Beside.of_below b0 (Nat.le_refl _)).trans hb1);have cb2:=hs1.c2;have hbl:=hs1.lt;clear z0 bl0 b0 hs1 hb1))
 all_goals exact bodyPost_ret (v:=.agg #[.int .u8 82, .string ⟨#[]⟩, .int .i64 0, .slice none 0 0]) (by simp[results,Tryz.results143,go_sem, *]) rfl (by
   have hB4:∀ W4,Beside w.heap.size w3 W4→RdOut (Wf.parse x (n+1) (.ref nm) (123::125::q)) (123::125::q) rb sb w (.returned (.agg #[.int .u8 82, .string ⟨#[]⟩, .int .i64 0, .slice none 0 0])) W4:=fun W4 hb=>by
    refine⟨_, .mk 82 [] 0 [],q,rfl,VC.leaf 82 [] 0 (by omega) (by decide),HB3.out.on hb (Nat.le_refl _), .inl ⟨HP.out,hS3.out.beside hb (by omega)⟩⟩
   refine hB4 _ ?_
   repeat (first|with_reducible exact Beside.refl _ _|with_reducible refine Beside.drew ?_|with_reducible refine Beside.trans ?_ (Beside.set _ _ _ _)))
end

theorem VC.fld {W:World} {P:Nat→Prop} {g:Nat} {v:Wf.V} {cs:List Value} (h:VC W P (.mk 61 [] g [v]) cs):∃ (b2 o2 c2 q3 g3 n3 c3:Nat) (T3:ByteArray) (a3:Option Addr),cs=[.int .u8 61, .string ⟨#[]⟩, .int .i64 g, .slice (some ⟨b2,o2,none⟩) 1 c2]∧1≤c2∧c2≤maxLen∧P b2∧b2<W.heap.size∧VC W P v [.int .u8 q3, .string T3, .int .i64 g3, .slice a3 n3 c3]∧W.cell? ⟨b2,o2,none⟩=some (.int .u8 q3)∧W.cell? ⟨b2,o2+1,none⟩=some (.string T3)∧W.cell? ⟨b2,o2+2,none⟩=some (.int .i64 g3)∧W.cell? ⟨b2,o2+3,none⟩=some (.slice a3 n3 c3):=by
 obtain⟨a,c,rfl,h1,h2,h3,h4⟩:=h.form
 rcases h4 with h4|⟨b2,o2,ha,hp,hb,hv⟩
 ·simp[Wf.V.kids] at h4
 ·simp only[Wf.V.kids,VCs] at hv
  obtain⟨⟨ks,hk,hc⟩,_⟩:=hv
  obtain⟨q3,g3,n3,c3,T3,a3,rfl⟩:=hk.cells4
  subst ha
  refine⟨b2,o2,c,q3,g3,n3,c3,T3,a3,rfl,h1,h2,hp,hb,hk,by simpa using hc 0 _ rfl,hc 1 _ rfl,hc 2 _ rfl,hc 3 _ rfl⟩
structure Rst (rb sb:Nat) (w wr:World) (cur:List UInt8) (bad:Bool) (a:Option Addr) (c:Nat) (l:List Wf.V) (es:List (List Value)):Prop where
 zero:Zero wr w.heap.size
 bld:Bld w wr rb (w.heap.size+1) (w.heap.size+1+1) 82 a c l es
 sn:Sn wr rb sb cur bad
theorem Rst.step {rb sb:Nat} {w wr w2:World} {cur cur2:List UInt8} {bad bad2:Bool} {a:Option Addr} {c:Nat} {l:List Wf.V} {es:List (List Value)} (h:Rst rb sb w wr cur bad a c l es) (hr:rb<w.heap.size) (hb:Beside rb wr w2) (hs:Sn w2 rb sb cur2 bad2):Rst rb sb w w2 cur2 bad2 a c l es :=
 ⟨h.zero.step hb (by omega),h.bld.step hr hb,hs⟩
theorem Rst.put {rb sb:Nat} {w wr:World} {cur:List UInt8} {bad0:Bool} {a:Option Addr} {c:Nat} {l:List Wf.V} {es:List (List Value)} {m:Nat} (h:Rst rb sb w wr cur bad0 a c l es) (hrb:rb<w.heap.size) {w2:World} (hb:Beside rb wr w2) (hm:es.length=m) {q2 g2 n2 c2:Nat} {T2:ByteArray} {a2:Option Addr} {v:Wf.V}
  (hvc:VC w2 (fun b=>wr.heap.size≤b) v [.int .u8 q2, .string T2, .int .i64 g2, .slice a2 n2 c2]) {wx w4:World} {g cap:Nat} (hx:Below w2.heap.size w2 wx)
  (hg:wx.grownBy w4 (Value.slice a m c).ownBlock)
  (ho:w4.ownsRow (w.heap.size+1+1) 92 4 (.slice (some ⟨g,0,none⟩) (m+1) cap) (m+1) (es.flatten++[.int .u8 q2, .string T2, .int .i64 g2, .slice a2 n2 c2]))
  (hat:(Value.slice a m c).ownBlock=some g∨g=wx.heap.size)
  {r2:List UInt8} {bad:Bool} (hs:Sn w2 rb sb r2 bad) :
  Rst rb sb w (w4.setCell ⟨w.heap.size+1,3,none⟩ (.slice (some ⟨g,0,none⟩) (m+1) cap)) r2 bad (some ⟨g,0,none⟩) cap (l++[v]) (es++[[.int .u8 q2, .string T2, .int .i64 g2, .slice a2 n2 c2]]):=by
 subst hm
 have hXb:Beside rb wr wx:=hb.trans (Beside.of_below hx (Nat.le_refl _))
 have hs0:=(h.bld.step hrb hXb).sz
 have hlo:=owns_lt h.bld.own
 have hB:Below (w.heap.size+1+1) wx w4:=below_grown2 hg (fun g hgk=>(hlo g hgk).1) hs0
 have hS:Below (w.heap.size+1) w4 (w4.setCell ⟨w.heap.size+1,3,none⟩ (.slice (some ⟨g,0,none⟩) (es.length+1) cap)):=Below.setCell (Below.refl _ w4) (p:=⟨w.heap.size+1,3,none⟩) (Nat.le_refl _) _
 refine⟨((h.zero.step hXb (by omega)).below hB (by omega)).below hS (by omega),h.bld.put hrb hXb hg (hvc.below hx) ho ?_,((hs.below hx).belowB hB (by omega)).belowB hS (by omega)⟩
 rcases hat with hat|hat
 ·exact .inl hat.symm
 ·exact .inr (by rw[← hat];rfl)
theorem bad_rec_stop {r cur q:List UInt8} {l:List Wf.V} (h1:Wf.pl l+cur.length=r.length) (h2:q.length≤cur.length):Wf.Badv (123::r) q (.mk 82 [] 0 l):=by
 cases l with
 | nil=>exact Wf.bad_row0 (.inr rfl) (by simp;omega)
 | cons v l=>exact Wf.bad_row_end (.inr rfl) (s0:=r) rfl (by simp) (by omega)
theorem fld_len {x:Wf.Sc} {n:Nat} {t:Wf.Ty} {s r:List UInt8} {f:Wf.Fd} {v:Wf.V} (h:Wf.fieldTok t (fun k s=>Wf.parse x n k s) s=some (f,v,r)):s.length=(Wf.V.mk 61 [] f.tag [v]).print.length+r.length:=by
 have h2:=(Wf.fieldTok_say (Q:=fun _ _=>True) (fun f s v r h=>⟨trivial,(Wf.parse_say _ _ _ _ _ h).2⟩) h).2.2.2
 rw[h2,Wf.print_tag]
 simp
 omega
end Go.Proofs.YtmdacedmjbiekaaGreatDoor

namespace Wf
set_option linter.unusedVariables false
set_option linter.unusedSimpArgs false
def Ty.fieldZ (t:Ty) (g:Int):Option Fd:=t.fields.find? fun f=>(f.tag:Int)==g
theorem fieldZ_nat (t:Ty) (g:Nat):t.fieldZ g=t.field g:=by
 unfold Ty.fieldZ Ty.field
 refine congrArg (fun p=>List.find? p t.fields) (funext fun f => ?_)
 rw[Bool.eq_iff_iff,beq_iff_eq,beq_iff_eq]
 omega
theorem fieldZ_some {t:Ty} {g:Int} {f:Fd} (h:t.fieldZ g=some f):f∈t.fields∧(f.tag:Int)=g∧t.field f.tag=some f:=by
 have h1:=List.mem_of_find?_eq_some h
 have h2:(f.tag:Int)=g:=by have:=List.find?_some h;simpa using this
 refine⟨h1,h2, ?_⟩
 rw[← fieldZ_nat,h2]
 exact h
def recTy (x:Sc):K→Option Ty
 | .ref nm=>(x.find nm).bind fun t=>if t.sort=82 then some t else none
 | _=>none
theorem recTy_some {x:Sc} {k:K} {t:Ty} (h:recTy x k=some t):∃ nm,k=.ref nm∧x.find nm=some t∧t.sort=82:=by
 cases k with
 | ref nm =>
  simp only[recTy] at h
  cases hf:x.find nm with
  | none=>rw[hf] at h;cases h
  | some u =>
   rw[hf] at h
   simp only[Option.bind_some] at h
   split at h
   ·rename_i h82;cases h;exact⟨nm,rfl,hf,h82⟩
   ·cases h
 | _=>cases h
def recFd (x:Sc) (k:K) (g:Int):Option Fd:=(recTy x k).bind fun t=>t.fieldZ g
theorem recFd_some {x:Sc} {k:K} {g:Int} {f:Fd} (h:recFd x k g=some f):∃ nm t,k=.ref nm∧x.find nm=some t∧t.sort=82∧t.fieldZ g=some f:=by
 unfold recFd at h
 cases ht:recTy x k with
 | none=>rw[ht] at h;cases h
 | some t =>
  rw[ht] at h
  obtain⟨nm,h1,h2,h3⟩:=recTy_some ht
  exact⟨nm,t,h1,h2,h3,h⟩
def setV (x:Sc) (kids:List V) (f:Fd) (y:V):List V :=
 kids.filter (fun u=>decide (u.tag<f.tag))++(if y.print=standF x f then [] else [.mk 61 [] f.tag [y]])++kids.filter (fun u=>decide (f.tag<u.tag))
def setIn (x:Sc) (k:K) (v:V) (g:Int) (s:Bs):Option Bs :=
 (recFd x k g).bind fun f=>(valIn x f.kind s).bind fun y =>
  if (V.mk 82 [] 0 (setV x v.kids f y)).print.length≤400∧(V.mk 82 [] 0 (setV x v.kids f y)).deep≤12 then some (V.mk 82 [] 0 (setV x v.kids f y)).print else none
theorem filter_es (p:Nat→Bool) (es:List (Fd × V)):(es.map tagged).filter (fun u=>p u.tag)=(es.filter fun e=>p e.1.tag).map tagged:=by
 rw[List.filter_map]
 rfl
theorem setV_es (x:Sc) (es:List (Fd × V)) (f:Fd) (y:V):setV x (es.map tagged) f y=(setEs x es f y).map tagged:=by
 unfold setV setEs
 rw[List.map_append,List.map_append,filter_es (fun g=>decide (g<f.tag)),filter_es (fun g=>decide (f.tag<g))]
 congr 2
 split <;> rfl
def RecOf (x:Sc) (t:Ty) (n:Nat) (es:List (Fd × V)):Prop :=
 Asc es∧∀ e,e∈es→0<e.1.tag∧t.field e.1.tag=some e.1∧e.1.tag≤200∧Typed x n e.1.kind e.2∧e.2.print≠standF x e.1
abbrev recV (es:List (Fd × V)):V:=.mk 82 [] 0 (es.map tagged)
theorem rec_of {x:Sc} {n:Nat} {nm:Bs} {v:V} {t:Ty} (h:Typed x (n+1) (.ref nm) v) (ht:x.find nm=some t) (h82:t.sort=82):∃ es,RecOf x t n es∧v=recV es:=by
 simp only[Typed] at h
 obtain⟨u,hu,h⟩:=h
 rw[ht] at hu
 cases hu
 rcases h with⟨h1,_⟩|⟨_,h1,_⟩|⟨_,_,l,h1,h2,h3⟩
 ·rw[h82] at h1;exact absurd h1 (by decide)
 ·rw[h82] at h1;exact absurd h1 (by decide)
 ·exact⟨l,⟨h1,h2⟩,h3⟩
theorem rec_typed {x:Sc} {n:Nat} {nm:Bs} {t:Ty} {es:List (Fd × V)} (h:RecOf x t n es) (ht:x.find nm=some t) (h82:t.sort=82):Typed x (n+1) (.ref nm) (recV es):=by
 simp only[Typed]
 exact⟨t,ht, .inr (.inr ⟨by rw[h82];decide,by rw[h82];decide,es,h.1,h.2,rfl⟩)⟩
theorem rec_set {x:Sc} {t:Ty} {n:Nat} {es:List (Fd × V)} {f:Fd} {y:V} (h:RecOf x t n es) (h1:0<f.tag) (h2:f.tag≤200) (hf:t.field f.tag=some f) (hy:Typed x n f.kind y):RecOf x t n (setEs x es f y):=by
 refine⟨setEs_sorted h.1,fun e he => ?_⟩
 rcases setEs_mem.1 he with⟨h3,_⟩|⟨h3,rfl⟩
 ·exact h.2 e h3
 ·exact⟨h1,hf,h2,hy,h3⟩
theorem commas_part {l:List Bs} {a:Bs} (h:a∈l):a.length≤(commas l).length:=by
 induction l with
 | nil=>simp at h
 | cons b l ih =>
  cases l with
  | nil=>simp at h;subst h;exact Nat.le_refl _
  | cons c l =>
   simp only[commas,List.length_append,List.length_cons]
   rcases List.mem_cons.1 h with rfl|h
   ·omega
   ·have:=ih h;omega
theorem rec_part {es:List (Fd × V)} {e:Fd × V} (h:e∈es):e.2.print.length≤(recV es).print.length:=by
 rw[recV,print_rec]
 have h1:(tagged e).print∈(es.map tagged).map V.print:=List.mem_map_of_mem (List.mem_map_of_mem h)
 have h2:=commas_part h1
 rw[tagged_print] at h2
 simp at h2 ⊢
 omega
theorem stands_le {x:Sc} (hx:ScOk x):∀ (n:Nat) (k:K),(stands x n k).length≤7+9 * n:=by
 intro n
 induction n with
 | zero=>intro k;cases k <;> simp[stands]
 | succ n ih =>
  intro k
  cases k with
  | ref nm =>
   simp only[stands]
   cases ht:x.find nm with
   | none=>simp
   | some t =>
    dsimp only
    split
    ·simp;omega
    ·cases hf:t.fields with
     | nil=>simp
     | cons f fs =>
      dsimp only
      have hfo:=(hx.tys t (find_mem ht).1).fds f (by rw[hf];simp)
      have hd:(dec f.tag).length≤3:=dec_len f.tag 2 (by have:=hfo.tag2;omega)
      have:=ih f.kind
      split
      ·simp;omega
      ·simp;omega
  | _=>simp[stands] <;> omega
theorem standF_le {x:Sc} (hx:ScOk x) {t:Ty} (ht:t∈x) {f:Fd} (hf:f∈t.fields):(standF x f).length≤88:=by
 unfold standF
 by_cases hg:f.given=[]
 ·rw[if_pos hg]
  exact stands_le hx 9 f.kind
 ·rw[if_neg hg]
  have h:=(((hx.tys t ht).fds f hf).given hg).2
  cases hk:f.kind with
  | num =>
   rw[hk] at h
   simp only[stOk] at h
   cases hp:plainN f.given 999999 with
   | none=>rw[hp] at h;simp at h
   | some m =>
    obtain⟨h1,h2,_⟩:=plainN_some hp
    rw[h1]
    have:=dec_len6 h2
    omega
  | txt =>
   rw[hk] at h
   simp only[stOk,Bool.and_eq_true] at h
   obtain⟨b,hb,_,hl⟩:=quoted_iff.1 h.1
   rw[hb]
   simp;omega
  | flag=>rw[hk] at h;simp only[stOk,decide_eq_true_eq] at h;rw[h];simp
  | ref n=>rw[hk] at h;simp[stOk] at h
  | list k=>rw[hk] at h;simp[stOk] at h
  | opt k=>rw[hk] at h;simp[stOk] at h
theorem setIn_rec {x:Sc} {nm:Bs} {t:Ty} {es:List (Fd × V)} {g:Int} {s:Bs} (ht:x.find nm=some t) (h82:t.sort=82):setIn x (.ref nm) (recV es) g s=(t.fieldZ g).bind fun f=>(valIn x f.kind s).bind fun y=>if (recV (setEs x es f y)).print.length≤400∧(recV (setEs x es f y)).deep≤12 then some (recV (setEs x es f y)).print else none:=by
 have hr:recTy x (.ref nm)=some t:=by simp only[recTy,ht,Option.bind_some,if_pos h82]
 unfold setIn recFd
 rw[hr]
 simp only[Option.bind_some,V.kids,setV_es]
end Wf

namespace Wf
set_option linter.unusedVariables false
set_option linter.unusedSimpArgs false
def withL (o:Option (Fd × V)) (g:Int):Bool→List (Fd × V)→List (Fd × V)
 | done,[]=>if done then [] else o.toList
 | done,e::es=>(if done=false∧g<(e.1.tag:Int) then o.toList else [])++(if (e.1.tag:Int)≠g then [e] else [])++withL o g (done || decide (g<(e.1.tag:Int))) es
theorem withL_done (o:Option (Fd × V)) (g:Int):∀ (es:List (Fd × V)),withL o g true es=es.filter (fun e=>decide ((e.1.tag:Int)≠g)):=by
 intro es
 induction es with
 | nil=>rfl
 | cons e es ih =>
  simp only[withL,Bool.true_or,ih,List.filter_cons]
  by_cases h:(e.1.tag:Int)=g
  ·simp[h]
  ·simp[h]
theorem withL_open (o:Option (Fd × V)) (g:Int):∀ (es:List (Fd × V)),Asc es→withL o g false es=es.filter (fun e=>decide ((e.1.tag:Int)<g))++o.toList++es.filter (fun e=>decide (g<(e.1.tag:Int))):=by
 intro es
 induction es with
 | nil=>intro _;simp[withL]
 | cons e es ih =>
  intro h
  simp only[Asc,List.map_cons] at h
  obtain⟨h1,h2⟩:=List.pairwise_cons.1 h
  have hall:∀ d,d∈es→e.1.tag<d.1.tag:=fun d hd=>h1 _ (List.mem_map_of_mem hd)
  simp only[withL,List.filter_cons,Bool.false_or]
  by_cases hg:g<(e.1.tag:Int)
  ·have hf1:es.filter (fun d=>decide ((d.1.tag:Int)<g))=[]:=by
    rw[List.filter_eq_nil_iff]
    intro d hd
    have:=hall d hd
    simp;omega
   have hf2:es.filter (fun d=>decide ((d.1.tag:Int)≠g))=es:=by
    rw[List.filter_eq_self]
    intro d hd
    have:=hall d hd
    simp;omega
   have hf3:es.filter (fun d=>decide (g<(d.1.tag:Int)))=es:=by
    rw[List.filter_eq_self]
    intro d hd
    have:=hall d hd
    simp;omega
   have hne:(e.1.tag:Int)≠g:=by omega
   have hnl:¬ (e.1.tag:Int)<g:=by omega
   simp only[hg,decide_true,withL_done,hf1,hf2,hf3,hne,hnl,decide_false]
   simp
   rw[if_neg hne]
   rfl
  ·have hd:decide (g<(e.1.tag:Int))=false:=decide_eq_false hg
   rw[hd,ih h2]
   by_cases heq:(e.1.tag:Int)=g
   ·have hnl:¬ (e.1.tag:Int)<g:=by omega
    simp[hg,heq]
   ·have hlt:(e.1.tag:Int)<g:=by omega
    simp[hg,heq,hlt]
theorem withL_set {x:Sc} {es:List (Fd × V)} {f:Fd} {y:V} (h:Asc es):withL (if y.print=standF x f then none else some (f,y)) (f.tag:Int) (decide (y.print=standF x f)) es=setEs x es f y:=by
 have e1:es.filter (fun e=>decide ((e.1.tag:Int)<(f.tag:Int)))=es.filter (fun e=>decide (e.1.tag<f.tag)):=by
  congr 1;funext e;simp
 have e2:es.filter (fun e=>decide ((f.tag:Int)<(e.1.tag:Int)))=es.filter (fun e=>decide (f.tag<e.1.tag)):=by
  congr 1;funext e;simp
 unfold setEs
 by_cases hy:y.print=standF x f
 ·rw[if_pos hy,if_pos hy,decide_eq_true hy,withL_done]
  have hl:=withL_open none (f.tag:Int) es h
  rw[e1,e2] at hl
  rw[List.append_nil]
  have h3:∀ (l:List (Fd × V)),Asc l→l.filter (fun e=>decide ((e.1.tag:Int)≠(f.tag:Int)))=l.filter (fun e=>decide (e.1.tag<f.tag))++l.filter (fun e=>decide (f.tag<e.1.tag)):=by
   intro l hl
   have a1:=withL_open none (f.tag:Int) l hl
   have a2:∀ (b:Bool) (l:List (Fd × V)),withL none (f.tag:Int) b l=l.filter (fun e=>decide ((e.1.tag:Int)≠(f.tag:Int))):=by
    intro b l
    induction l generalizing b with
    | nil=>cases b <;> rfl
    | cons e l ih =>
     simp only[withL,ih,List.filter_cons]
     by_cases h:(e.1.tag:Int)=(f.tag:Int) <;> simp[h]
   rw[a2] at a1
   rw[a1]
   simp
  exact h3 es h
 ·rw[if_neg hy,if_neg hy,decide_eq_false hy,withL_open _ _ _ h,e1,e2]
  simp
end Wf
