/- Packed by pack.py: Vv. -/
import Derived.Test.YtidjpalnmnehmaaGreatDoorE28
namespace Go.Proofs.YtidjpalnmnehmaaGreatDoor
open Go.ChangeShapes Go.WideShapes Go.ChangeAt Go.RowKit Go.Lib
set_option linter.unusedVariables false
set_option linter.unusedSimpArgs false
theorem start_value (w:World) (SG BS NM:ByteArray) (W1:World) (hW1:(w.alloc (.cells #[.string SG, .string BS, .string NM] 48)).alloc (.cells #[.int .u8 0, .string ⟨#[]⟩, .int .i64 0, .slice none 0 0] 51)=W1) :
  W1.cell? ⟨w.heap.size,0,none⟩=some (.string SG)∧W1.cell? ⟨w.heap.size,1,none⟩=some (.string BS)∧W1.cell? ⟨w.heap.size,2,none⟩=some (.string NM)∧Zero W1 (w.heap.size+1)∧Below w.heap.size w W1:=by
 have hB:Below w.heap.size w W1:=by
  rw[← hW1]
  exact(((Below.refl _ _).alloc (Nat.le_refl _) _).alloc (by simp) _)
 subst hW1
 refine⟨?_, ?_, ?_,⟨?_, ?_, ?_, ?_, ?_, ?_, ?_, ?_, ?_⟩,hB⟩
 all_goals first|(simp[go_sem];done)|(simp[go_sem];omega)
section
variable (rb sb:Nat) (W:World) (s:List UInt8) (w:World)
set_option maxRecDepth 20000 in
set_option maxHeartbeats 1000000 in
theorem value_bad (k:Wf.K) (H:Sn w rb sb s true):Calls Tryz.prog 74 #[ptr rb,kV k] w fun e w'=>e=.returned (.agg #[.int .u8 0, .string ⟨#[]⟩, .int .i64 0, .slice none 0 0])∧Beside rb w w'∧Sn w' rb sb s true:=by
 have hrb:=H.lt
 have c2:=H.c2
 have HH:=hid H
 obtain⟨SG,hSG⟩:∃ SG:ByteArray,(⟨k.signs.toArray⟩:ByteArray)=SG:=⟨_,rfl⟩
 obtain⟨BS,hBS⟩:∃ BS:ByteArray,(⟨k.base.toArray⟩:ByteArray)=BS:=⟨_,rfl⟩
 obtain⟨NM,hNM⟩:∃ NM:ByteArray,(⟨k.name.toArray⟩:ByteArray)=NM:=⟨_,rfl⟩
 simp only[kV,tx,hSG,hBS,hNM]
 clear H hSG hBS hNM
 go_enter Tryz.func74,Tryz.ntmps74
 go_wp2_with fail
 exact bodyPost_ret (v:=.agg #[.int .u8 0, .string ⟨#[]⟩, .int .i64 0, .slice none 0 0]) (by simp[results,Tryz.results74,go_sem, *]) rfl (by
  have hB:∀ W4,Below w.heap.size w W4→(Ending.returned (.agg #[.int .u8 0, .string ⟨#[]⟩, .int .i64 0, .slice none 0 0])=.returned (.agg #[.int .u8 0, .string ⟨#[]⟩, .int .i64 0, .slice none 0 0])∧Beside rb w W4∧Sn W4 rb sb s true):=fun W4 hb=>⟨rfl,Beside.of_below hb (Nat.le_refl _),HH.out.below hb⟩
  refine hB _ ?_
  repeat (first|with_reducible exact Below.refl _ _|with_reducible refine Below.drew ?_|with_reducible refine Below.setCell ?_ (by simp) _|with_reducible refine Below.alloc ?_ (by simp) _))
set_option maxRecDepth 20000 in
set_option maxHeartbeats 1000000 in
theorem value_num (x:Wf.Sc) (n:Nat) (hs:s.length≤400) (H:Sn w rb sb s false):Calls Tryz.prog 74 #[ptr rb,kV .num] w fun e w'=>RdOut (Wf.parse x (n+1) .num s) s rb sb w e w':=by
 obtain⟨m,hm⟩:∃ m,numV (s.takeWhile Wf.isDig)=m:=⟨_,rfl⟩
 obtain⟨s1,hs1⟩:∃ s1,s.dropWhile Wf.isDig=s1:=⟨_,rfl⟩
 obtain⟨b1,hb1⟩:∃ b1,(false || !(Wf.plainN (s.takeWhile Wf.isDig) 999999).isSome)=b1:=⟨_,rfl⟩
 have HNUM:=hid fun w2 (h:Sn w2 rb sb s false)=>number rb sb w2 s false 999999 (by omega) (by omega) h
 rw[hm,hs1,hb1] at HNUM
 have hmle:m≤999999:=by rw[← hm];exact numV_le _
 have HP:=hid (show(b1=false∧Wf.parse x (n+1) .num s=some (.mk 110 (Wf.dec m) 0 [],s1))∨(b1=true∧Wf.parse x (n+1) .num s=none) by
  rw[Bool.false_or] at hb1
  cases hp:Wf.plainN (s.takeWhile Wf.isDig) 999999 with
  | none =>
   rw[hp] at hb1
   exact .inr ⟨by rw[← hb1];rfl,by rw[Wf.parse_num,Wf.numTok,hp];rfl⟩
  | some g =>
   have hmg:m=g:=by rw[← hm];exact numV_some hp
   rw[hp] at hb1
   exact .inl ⟨by rw[← hb1];rfl,by rw[Wf.parse_num,Wf.numTok,hp,hs1,hmg];rfl⟩)
 have HLE:=hid (show s1.length≤s.length by rw[← hs1];exact(List.dropWhile_suffix _).length_le)
 have hrb:=H.lt
 have c2:=H.c2
 have HH:=hid H
 have ST:=hid fun W1 h=>start_value w ⟨#[]⟩ ⟨#[110]⟩ ⟨#[]⟩ W1 h
 have HSG:=hid fun w2=>sign_w ⟨#[]⟩ ⟨#[110]⟩ ⟨#[]⟩ 0 (.inl ⟨by rw[ByteArray.toList_eq];rfl,rfl⟩) w2
 have hkv:kV .num=.agg #[.string ⟨#[]⟩, .string ⟨#[110]⟩, .string ⟨#[]⟩]:=by rfl
 rw[hkv]
 clear H hm hs1 hb1 hkv
 go_enter Tryz.func74,Tryz.ntmps74
 go_wp2_with (first|(go_at_call 60;refine(decimal m m _ (Nat.le_refl _) hmle).mono ?_;rintro e w3 ⟨rfl,hb3⟩;have S3:=hid (S2.out.below hb3);have HB3:=hid (HB2.out.trans (Beside.of_below hb3 (Nat.le_refl _)));have Z3:=hid (Z2.out.below hb3 Z2.out.lt);obtain⟨zl,zr0,zr1,zr2,zr3,zf0,zf1,zf2,zf3⟩:=Z3.out;clear hb3)|(go_at_call 114;refine(HNUM.out _ S1.out).mono ?_;rintro e w2 ⟨rfl,hs2,hb2⟩;have S2:=hid hs2;have HB2:=hid (HB1.out.trans hb2);have Z2:=hid (Z1.out.step hb2 (by omega));clear hs2 hb2)|(go_at_call 95;obtain⟨d0,d1,d2,z0,b0⟩:=ST.out _ rfl;refine(HSG.out _).mono ?_;rintro e w1 ⟨rfl,hb1⟩;have b01:=below_join b0 hb1;have e1:=(hb1.cell (p:=⟨w.heap.size,1,none⟩) (Nat.lt_of_lt_of_le (Nat.lt_succ_self _) (Nat.le_of_lt z0.lt))).trans d1;have S1:=hid (HH.out.below b01);have HB1:=hid (Beside.of_below (rb:=rb) b01 (Nat.le_refl _));have Z1:=hid (z0.below hb1 z0.lt);clear hb1 b01 b0 d0 d1 d2 z0))
 all_goals exact bodyPost_ret (v:=.agg #[.int .u8 110,tx (Wf.dec m), .int .i64 (0:Nat), .slice none 0 0]) (by simp[results,Tryz.results74,go_sem, *]) rfl (by
  have hR:∀ W4,Beside (w.heap.size+1) w3 W4→RdOut (Wf.parse x (n+1) .num s) s rb sb w (.returned (.agg #[.int .u8 110,tx (Wf.dec m), .int .i64 (0:Nat), .slice none 0 0])) W4:=fun W4 hb=>by
   refine⟨_, .mk 110 (Wf.dec m) 0 [],s1,rfl,VC.leaf 110 (Wf.dec m) 0 (by omega) (by decide),HB3.out.on hb (by omega), ?_⟩
   have sn:=S3.out.beside hb (by omega)
   rcases HP.out with⟨rfl,hp⟩|⟨rfl,hp⟩
   ·exact .inl ⟨hp,sn⟩
   ·exact .inr ⟨hp,Wf.bad_num hmle HLE.out,sn⟩
  refine hR _ ?_
  repeat (first|with_reducible exact Beside.refl _ _|with_reducible refine Beside.drew ?_|with_reducible refine Beside.trans ?_ (Beside.set _ _ _ _)))
set_option maxRecDepth 20000 in
set_option maxHeartbeats 1000000 in
theorem value_txt (x:Wf.Sc) (n:Nat) (hs:s.length≤400) (H:Sn w rb sb s false):Calls Tryz.prog 74 #[ptr rb,kV .txt] w fun e w'=>RdOut (Wf.parse x (n+1) .txt s) s rb sb w e w':=by
 have HQ:Hid (∀ w2,Sn w2 rb sb s false→Calls Tryz.prog 115 #[ptr rb] w2 fun e w'=>∃ t r bad,e=.returned (tx t)∧Sn w' rb sb r bad∧Beside rb w2 w'∧((bad=false∧Wf.parse x (n+1) .txt s=some (.mk 116 t 0 [],r))∨(bad=true∧Wf.parse x (n+1) .txt s=none∧t.length+r.length≤s.length))):=by
  refine hid fun w2 h => ?_
  have hno:Wf.parse x (n+1) .txt s=none→Calls Tryz.prog 115 #[ptr rb] w2 fun e w'=>∃ t r bad,e=.returned (tx t)∧Sn w' rb sb r bad∧Beside rb w2 w'∧((bad=false∧Wf.parse x (n+1) .txt s=some (.mk 116 t 0 [],r))∨(bad=true∧Wf.parse x (n+1) .txt s=none∧t.length+r.length≤s.length)):=fun hp=>by
   refine(quote_no rb sb w2 x n s (by omega) h hp).mono ?_
   rintro e w' ⟨t,r,rfl,hl,hsn,hb⟩
   exact⟨t,r,true,rfl,hsn,hb, .inr ⟨rfl,hp,hl⟩⟩
  by_cases h1:∃ r q,s=39::r∧r.dropWhile Wf.isTxt=39::q∧(r.takeWhile Wf.isTxt).length≤12
  ·obtain⟨r,q,h1,h2,h3⟩:=h1
   refine(quote_yes rb sb w2 s r q (by omega) h h1 h2 h3).mono ?_
   rintro e w' ⟨rfl,hsn,hb⟩
   exact⟨_,q,false,rfl,hsn,hb, .inl ⟨rfl,Wf.parse_txt_yes x n h1 h2 h3⟩⟩
  ·apply hno
   by_cases h39:s.head? = some 39
   ·obtain⟨r,hr⟩:∃ r,s=39::r:=by
     cases s with
     | nil=>simp at h39
     | cons a r=>simp at h39;exact⟨r,by rw[h39]⟩
    by_cases h3:(r.takeWhile Wf.isTxt).length≤12
    ·refine Wf.parse_txt_no2 x n hr fun h2 => ?_
     obtain⟨q,hq⟩:∃ q,r.dropWhile Wf.isTxt=39::q:=by
      cases hd:r.dropWhile Wf.isTxt with
      | nil=>rw[hd] at h2;simp at h2
      | cons a q=>rw[hd] at h2;simp at h2;exact⟨q,by rw[h2]⟩
     exact h1 ⟨r,q,hr,hq,h3⟩
    ·exact Wf.parse_txt_no3 x n hr h3
   ·exact Wf.parse_txt_no1 x n h39
 have hrb:=H.lt
 have c2:=H.c2
 have HH:=hid H
 have ST:=hid fun W1 h=>start_value w ⟨#[]⟩ ⟨#[116]⟩ ⟨#[]⟩ W1 h
 have HSG:=hid fun w2=>sign_w ⟨#[]⟩ ⟨#[116]⟩ ⟨#[]⟩ 0 (.inl ⟨by rw[ByteArray.toList_eq];rfl,rfl⟩) w2
 have hkv:kV .txt=.agg #[.string ⟨#[]⟩, .string ⟨#[116]⟩, .string ⟨#[]⟩]:=by rfl
 rw[hkv]
 clear H hkv
 go_enter Tryz.func74,Tryz.ntmps74
 go_wp2_with (first|(go_at_call 115;refine(HQ.out _ S1.out).mono ?_;rintro e w3 ⟨t,r,bad,rfl,hs3,hb3,hd⟩;have HD:=hid hd;have S3:=hid hs3;have HB3:=hid (HB1.out.trans hb3);have Z3:=hid (Z1.out.step hb3 (by omega));obtain⟨zl,zr0,zr1,zr2,zr3,zf0,zf1,zf2,zf3⟩:=Z3.out;clear hs3 hb3 hd)|(go_at_call 95;obtain⟨d0,d1,d2,z0,b0⟩:=ST.out _ rfl;refine(HSG.out _).mono ?_;rintro e w1 ⟨rfl,hb1⟩;have b01:=below_join b0 hb1;have e1:=(hb1.cell (p:=⟨w.heap.size,1,none⟩) (Nat.lt_of_lt_of_le (Nat.lt_succ_self _) (Nat.le_of_lt z0.lt))).trans d1;have S1:=hid (HH.out.below b01);have c21:=S1.out.c2;have HB1:=hid (Beside.of_below (rb:=rb) b01 (Nat.le_refl _));have Z1:=hid (z0.below hb1 z0.lt);clear hb1 b01 b0 d0 d1 d2 z0))
 all_goals exact bodyPost_ret (v:=.agg #[.int .u8 116,tx t, .int .i64 (0:Nat), .slice none 0 0]) (by simp[results,Tryz.results74,go_sem, *]) rfl (by
  have hR:∀ W4,Beside (w.heap.size+1) w3 W4→RdOut (Wf.parse x (n+1) .txt s) s rb sb w (.returned (.agg #[.int .u8 116,tx t, .int .i64 (0:Nat), .slice none 0 0])) W4:=fun W4 hb=>by
   refine⟨_, .mk 116 t 0 [],r,rfl,VC.leaf 116 t 0 (by omega) (by decide),HB3.out.on hb (by omega), ?_⟩
   have sn:=S3.out.beside hb (by omega)
   rcases HD.out with⟨rfl,hp⟩|⟨rfl,hp,hl⟩
   ·exact .inl ⟨hp,sn⟩
   ·exact .inr ⟨hp,Wf.bad_txt hl,sn⟩
  refine hR _ ?_
  repeat (first|with_reducible exact Beside.refl _ _|with_reducible refine Beside.drew ?_|with_reducible refine Beside.trans ?_ (Beside.set _ _ _ _)))
set_option maxRecDepth 20000 in
set_option maxHeartbeats 1000000 in
theorem value_flag (x:Wf.Sc) (n:Nat) (H:Sn w rb sb s false):Calls Tryz.prog 74 #[ptr rb,kV .flag] w fun e w'=>RdOut (Wf.parse x (n+1) .flag s) s rb sb w e w':=by
 have hrb:=H.lt
 have c2:=H.c2
 have HH:=hid H
 have ST:=hid fun W1 h=>start_value w ⟨#[]⟩ ⟨#[102]⟩ ⟨#[]⟩ W1 h
 have HSG:=hid fun w2=>sign_w ⟨#[]⟩ ⟨#[102]⟩ ⟨#[]⟩ 0 (.inl ⟨by rw[ByteArray.toList_eq];rfl,rfl⟩) w2
 have hkv:kV .flag=.agg #[.string ⟨#[]⟩, .string ⟨#[102]⟩, .string ⟨#[]⟩]:=by rfl
 rw[hkv]
 by_cases hy:[121,101,115] <+: s
 ·obtain⟨q,hq⟩:=hy
  have HP:=hid (show Wf.parse x (n+1) .flag s=some (.mk 102 [121,101,115] 0 [],q) by rw[← hq];exact Wf.parse_yes x n q)
  have HT:=hid fun w2 (h:Sn w2 rb sb s false)=>take_yes rb sb w2 [121,101,115] q (by rw[hq];exact h)
  clear H hkv hq
  go_enter Tryz.func74,Tryz.ntmps74
  go_wp2_with (first|(go_at_call 112;refine(HT.out _ S1.out).mono ?_;rintro e w3 ⟨rfl,hs3,hb3⟩;have S3:=hid hs3;have HB3:=hid (HB1.out.trans hb3);have Z3:=hid (Z1.out.step hb3 (by omega));obtain⟨zl,zr0,zr1,zr2,zr3,zf0,zf1,zf2,zf3⟩:=Z3.out;clear hs3 hb3)|(go_at_call 95;obtain⟨d0,d1,d2,z0,b0⟩:=ST.out _ rfl;refine(HSG.out _).mono ?_;rintro e w1 ⟨rfl,hb1⟩;have b01:=below_join b0 hb1;have e1:=(hb1.cell (p:=⟨w.heap.size,1,none⟩) (Nat.lt_of_lt_of_le (Nat.lt_succ_self _) (Nat.le_of_lt z0.lt))).trans d1;have S1:=hid (HH.out.below b01);have HB1:=hid (Beside.of_below (rb:=rb) b01 (Nat.le_refl _));have Z1:=hid (z0.below hb1 z0.lt);clear hb1 b01 b0 d0 d1 d2 z0))
  all_goals exact bodyPost_ret (v:=.agg #[.int .u8 102, .string ⟨#[121,101,115]⟩, .int .i64 (0:Nat), .slice none 0 0]) (by simp[results,Tryz.results74,go_sem, *]) rfl (by
   have hR:∀ W4,Beside (w.heap.size+1) w3 W4→RdOut (Wf.parse x (n+1) .flag s) s rb sb w (.returned (.agg #[.int .u8 102, .string ⟨#[121,101,115]⟩, .int .i64 (0:Nat), .slice none 0 0])) W4:=fun W4 hb=>by
    refine⟨_, .mk 102 [121,101,115] 0 [],q,rfl,VC.leaf 102 [121,101,115] 0 (by omega) (by decide),HB3.out.on hb (by omega), ?_⟩
    have sn:=S3.out.beside hb (by omega)
    exact .inl ⟨HP.out,sn⟩
   refine hR _ ?_
   repeat (first|with_reducible exact Beside.refl _ _|with_reducible refine Beside.drew ?_|with_reducible refine Beside.trans ?_ (Beside.set _ _ _ _)))
 ·have HT:=hid fun w2 (h:Sn w2 rb sb s false)=>take_no rb sb w2 s [121,101,115] false h (.inr hy)
  obtain⟨r,b,hwant,hp⟩:∃ r b,(∀ w2,Sn w2 rb sb s false→Calls Tryz.prog 113 #[ptr rb,tx [110,111]] w2 fun e w'=>e=.returned (.tuple #[])∧Sn w' rb sb r b∧Beside rb w2 w')∧((b=false∧Wf.parse x (n+1) .flag s=some (.mk 102 [110,111] 0 [],r))∨(b=true∧Wf.parse x (n+1) .flag s=none∧r.length≤s.length)):=by
   by_cases hn:[110,111] <+: s
   ·obtain⟨q,rfl⟩:=hn
    exact⟨q,false,fun w2 h=>want_yes rb sb w2 [110,111] q h, .inl ⟨rfl,Wf.parse_no x n q⟩⟩
   ·exact⟨s,true,fun w2 h=>want_no rb sb w2 s [110,111] false h (.inr hn), .inr ⟨rfl,Wf.parse_flag_none x n hy hn,Nat.le_refl _⟩⟩
  have HWANT:=hid hwant
  have HP:=hid hp
  clear H hkv hy hwant hp
  go_enter Tryz.func74,Tryz.ntmps74
  go_wp2_with (first|(go_at_call 113;refine(HWANT.out _ S1.out).mono ?_;rintro e w3 ⟨rfl,hs3,hb3⟩;have S3:=hid hs3;have HB3:=hid (HB1.out.trans hb3);have Z3:=hid (Z1.out.step hb3 (by omega));obtain⟨zl,zr0,zr1,zr2,zr3,zf0,zf1,zf2,zf3⟩:=Z3.out;clear hs3 hb3)|(go_at_call 112;refine(HT.out _ S1.out).mono ?_;rintro e w2 ⟨rfl,rfl⟩)|(go_at_call 95;obtain⟨d0,d1,d2,z0,b0⟩:=ST.out _ rfl;refine(HSG.out _).mono ?_;rintro e w1 ⟨rfl,hb1⟩;have b01:=below_join b0 hb1;have e1:=(hb1.cell (p:=⟨w.heap.size,1,none⟩) (Nat.lt_of_lt_of_le (Nat.lt_succ_self _) (Nat.le_of_lt z0.lt))).trans d1;have S1:=hid (HH.out.below b01);have HB1:=hid (Beside.of_below (rb:=rb) b01 (Nat.le_refl _));have Z1:=hid (z0.below hb1 z0.lt);clear hb1 b01 b0 d0 d1 d2 z0))
  all_goals exact bodyPost_ret (v:=.agg #[.int .u8 102, .string ⟨#[110,111]⟩, .int .i64 (0:Nat), .slice none 0 0]) (by simp[results,Tryz.results74,go_sem, *]) rfl (by
   have hR:∀ W4,Beside (w.heap.size+1) w3 W4→RdOut (Wf.parse x (n+1) .flag s) s rb sb w (.returned (.agg #[.int .u8 102, .string ⟨#[110,111]⟩, .int .i64 (0:Nat), .slice none 0 0])) W4:=fun W4 hb=>by
    refine⟨_, .mk 102 [110,111] 0 [],r,rfl,VC.leaf 102 [110,111] 0 (by omega) (by decide),HB3.out.on hb (by omega), ?_⟩
    have sn:=S3.out.beside hb (by omega)
    rcases HP.out with⟨rfl,hp⟩|⟨rfl,hp,hl⟩
    ·exact .inl ⟨hp,sn⟩
    ·exact .inr ⟨hp,Wf.bad_flag (by decide) hl,sn⟩
   refine hR _ ?_
   repeat (first|with_reducible exact Beside.refl _ _|with_reducible refine Beside.drew ?_|with_reducible refine Beside.trans ?_ (Beside.set _ _ _ _)))
end
end Go.Proofs.YtidjpalnmnehmaaGreatDoor
