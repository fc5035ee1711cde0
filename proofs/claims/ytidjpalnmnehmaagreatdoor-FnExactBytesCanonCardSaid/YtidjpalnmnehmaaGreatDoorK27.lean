/- Packed. -/
import Derived.Test.YtidjpalnmnehmaaGreatDoorK26
set_option maxRecDepth 99999
set_option maxHeartbeats 40000000
set_option linter.all false
namespace Go.Proofs.YtidjpalnmnehmaaGreatDoor
open Go.ChangeShapes Go.WideShapes Go.ChangeAt Go.RowKit Go.Lib
theorem bnum_any (s:List UInt8) (hs:s.length<=1000000):∃ (m:Nat) (r:List UInt8) (b:Bool),m<=999999/\r.length<=s.length/\((b=false/\Wf.getN s=some (m,r))\/(b=true/\Wf.getN s=none/\m=0/\r=[])) /\
  ∀ (rb sb:Nat) (bad:Bool) (sk:Value) (d:Nat) (w:World),Br w rb sb s bad sk d->Calls Tryz.prog 45 #[ptr rb] w fun e w'=>e=.returned (.int .i64 m)/\Br w' rb sb r (bad || b) sk d/\aA rb w w':=by
 cases hn:Wf.getN s with
 | none =>
  refine⟨0,[],true,by omega,by simp,.inr ⟨rfl,rfl,rfl,rfl⟩,fun rb sb bad sk d w H=>?_⟩;rw[Bool.or_true];exact bnum_no rb sb sk d w s bad hs H hn
 | some y =>
  obtain⟨m,r⟩:=y;obtain⟨h1,h2,_⟩:=Wf.getN_len hn;refine⟨m,r,false,h1,by omega,.inl ⟨rfl,rfl⟩,fun rb sb bad sk d w H=>?_⟩;rw[Bool.or_false];exact bnum_yes rb sb sk d w s r bad m hs H hn
theorem btk (s:List UInt8) (hs:s.length<=1000000) (bad:Bool):∃ (m:Nat) (r1:List UInt8) (b1:Bool) (t r:List UInt8) (b:Bool),m<=999999/\r1.length<=s.length/\t.length<=s.length/\r.length<=s.length /\
  ((b=false/\bad=false/\Wf.takeN s=some (t,r))\/(b=true/\(bad=true\/Wf.takeN s=none)/\t=[])) /\
  (∀ (rb sb:Nat) (sk:Value) (d:Nat) (w:World),Br w rb sb s bad sk d->Calls Tryz.prog 45 #[ptr rb] w fun e w'=>e=.returned (.int .i64 m)/\Br w' rb sb r1 b1 sk d/\aA rb w w') /\
  (∀ (rb sb:Nat) (sk:Value) (d:Nat) (w:World),Br w rb sb r1 b1 sk d->Calls Tryz.prog 46 #[ptr rb,.int .i64 m] w fun e w'=>e=.returned (tx t)/\Br w' rb sb r b sk d/\aA rb w w'):=by
 obtain⟨m,r1,b1,hm,hr1,hc,hN⟩:=bnum_any s hs;by_cases h:(bad || b1)=false/\m<=r1.length
 ·obtain⟨hb,hl⟩:=h
  have hb0:bad=false/\b1=false:=by simpa using hb
  obtain⟨rfl,rfl⟩:=hb0;rcases hc with⟨_,hg⟩|⟨h,_⟩
  ·refine⟨m,r1,false,r1.take m,r1.drop m,false,hm,hr1,by rw[List.length_take];omega,by rw[List.length_drop];omega,.inl ⟨rfl,rfl,?_⟩,fun rb sb sk d w H=>hN rb sb false sk d w H,fun rb sb sk d w H=>btake_yes rb sb sk d w r1 m (by omega) H hl⟩
   unfold Wf.takeN;rw[hg];dsimp only;rw[if_pos hl]
  ·cases h
 ·refine⟨m,r1,bad || b1,[],r1,true,hm,hr1,by simp,hr1,.inr ⟨rfl,?_,rfl⟩,fun rb sb sk d w H=>hN rb sb bad sk d w H,fun rb sb sk d w H=>btake_no rb sb sk d w r1 (bad || b1) m (by omega) H ?_⟩
  ·cases bad with
   | true=>exact .inl rfl
   | false =>
    right
    unfold Wf.takeN;rcases hc with⟨rfl,hg⟩|⟨_,hg,_⟩
    ·rw[hg]
     dsimp only;rw[if_neg fun hl=>h ⟨rfl,hl⟩]
    ·rw[hg]
  ·cases hb:(bad || b1) with
   | true=>exact .inl rfl
   | false=>exact .inr (by
    rcases Nat.lt_or_ge r1.length m with h1|h1
    ·exact h1
    ·exact absurd ⟨hb,h1⟩ h)
theorem bflag_any (s:List UInt8) (hs:s.length<=1000000):∃ (y:Bool) (r:List UInt8) (b:Bool),r.length<=s.length/\((b=false/\s=(if y then 1 else 0)::r)\/(b=true/\y=false/\s.head? ≠ some 0/\s.head? ≠ some 1)) /\
  ∀ (rb sb:Nat) (sk:Value) (d:Nat) (w:World),Br w rb sb s false sk d->Calls Tryz.prog 97 #[ptr rb] w fun e w'=>e=.returned (.bool y)/\Br w' rb sb r b sk d/\aA rb w w':=by
 cases s with
 | nil=>exact⟨false,[],true,by simp,.inr ⟨rfl,rfl,by simp,by simp⟩,fun rb sb sk d w H=>bflag_nil rb sb sk d w H⟩
 | cons c r =>
  by_cases h0:c=0
  ·subst h0
   exact⟨false,r,false,by simp,.inl ⟨rfl,rfl⟩,fun rb sb sk d w H=>bflag_some rb sb sk d w 0 r hs H⟩
  ·by_cases h1:c=1
   ·subst h1
    exact⟨true,r,false,by simp,.inl ⟨rfl,rfl⟩,fun rb sb sk d w H=>bflag_some rb sb sk d w 1 r hs H⟩
   ·refine⟨false,r,true,by simp,.inr ⟨rfl,rfl,by simpa using h0,by simpa using h1⟩,fun rb sb sk d w H=>?_⟩
    have:=bflag_some rb sb sk d w c r hs H;have e1:(c==1)=false:=(by rw[zaJ];exact h1);have e2:decide (1<c)=true:=by
     rw[decide_eq_true_eq,UInt8.lt_iff_toNat_lt];have g0:c.toNat≠0:=fun h=>h0 (UInt8.toNat_inj.1 h);have g1:c.toNat≠1:=fun h=>h1 (UInt8.toNat_inj.1 h);show 1<c.toNat;omega
    rw[e1,e2] at this;exact this
def BvOut (o:Option (Wf.V × List UInt8)) (s:List UInt8) (rb sb:Nat) (sk:Value) (d:Nat) (w:World) (e:Ending) (w':World):Prop :=
 ∃ cs v r,e=.returned (.agg cs.toArray)/\VC w' (fun b=>w.heap.size<=b) v cs/\aA rb w w'/\r.length<=s.length/\((o=some (v,r)/\Br w' rb sb r false sk d)\/(o=none/\Br w' rb sb r true sk d))
structure Ent (w w1:World) (rb:Nat) (SG BS NM:ByteArray):Prop where
 fr:aA rb w w1
 q:w1.cell? ⟨w.heap.size,0,none⟩=some (ptr rb)
 k0:w1.cell? ⟨w.heap.size+1,0,none⟩=some (.string SG)
 k1:w1.cell? ⟨w.heap.size+1,1,none⟩=some (.string BS)
 k2:w1.cell? ⟨w.heap.size+1,2,none⟩=some (.string NM)
 z:Zero w1 (w.heap.size+1+1)
theorem Ent.step {w w1 w2:World} {rb:Nat} {SG BS NM:ByteArray} (h:Ent w w1 rb SG BS NM) (hr:rb<w.heap.size) (hb:aA rb w1 w2):Ent w w2 rb SG BS NM:=by
 have hz:=h.z.lt;exact⟨h.fr.trans hb,(hb.cell (p:=⟨w.heap.size,0,none⟩) (by show w.heap.size<_;omega) (by show w.heap.size≠rb;omega)).trans h.q,(hb.cell (p:=⟨w.heap.size+1,0,none⟩) (by show w.heap.size+1<_;omega) (by show w.heap.size+1≠rb;omega)).trans h.k0,(hb.cell (p:=⟨w.heap.size+1,1,none⟩) (by show w.heap.size+1<_;omega) (by show w.heap.size+1≠rb;omega)).trans h.k1,(hb.cell (p:=⟨w.heap.size+1,2,none⟩) (by show w.heap.size+1<_;omega) (by show w.heap.size+1≠rb;omega)).trans h.k2,h.z.step hb (by omega)⟩
theorem start_bval {w:World} {rb sb:Nat} {s:List UInt8} {sk:Value} {d:Nat} (H:Br w rb sb s false sk d) (SG BS NM:ByteArray) (W1:World) (hW1:(((w.setCell ⟨rb,4,none⟩ (.int .i64 ((d:Int)+1))).alloc (.cells #[ptr rb] 86)).alloc (.cells #[.string SG,.string BS,.string NM] 48)).alloc (.cells #[.int .u8 0,.string ⟨#[]⟩,.int .i64 0,.slice none 0 0] 51)=W1) :
  Ent w W1 rb SG BS NM/\Br W1 rb sb s false sk (d+1):=by
 have h1:=H.dep (d+1);have hB:aA rb w W1:=by
  rw[<-hW1];exact(((aA.set rb w 4 _).alloc _).alloc _).alloc _
 have hL:Below (w.setCell ⟨rb,4,none⟩ (.int .i64 ((d:Int)+1))).heap.size (w.setCell ⟨rb,4,none⟩ (.int .i64 ((d:Int)+1))) W1:=by
  rw[<-hW1];exact((((zaB).alloc (zaA) _).alloc (by simp) _).alloc (by simp;omega) _)
 refine⟨⟨hB,?_,?_,?_,?_,⟨?_,?_,?_,?_,?_,?_,?_,?_,?_⟩⟩,h1.below hL⟩;all_goals subst hW1
 all_goals first|(simp[go_sem];done)|(simp[go_sem];omega)
theorem bdoor_out {tmps:Array Value} {o:Option (Wf.V × List UInt8)} {s r:List UInt8} {rb sb d:Nat} {sk:Value} {b:Bool} {w w3 W4:World} {SG BS NM:ByteArray} {v:Wf.V} {x0 x1 x2 x3:Value} (E:Ent w w3 rb SG BS NM) (S:Br w3 rb sb r b sk (d+1)) (hrb:rb<w.heap.size) (hd:d<=12) (ht:tmps.getD 4 undef=ptr (w.heap.size+1+1))
  (hb4:aA (w.heap.size+1+1) w3 W4) (v0:W4.cell? ⟨w.heap.size+1+1,0,none⟩=some x0) (v1:W4.cell? ⟨w.heap.size+1+1,1,none⟩=some x1) (v2:W4.cell? ⟨w.heap.size+1+1,2,none⟩=some x2) (v3:W4.cell? ⟨w.heap.size+1+1,3,none⟩=some x3)
  (hv:VC W4 (fun b=>w.heap.size<=b) v [x0,x1,x2,x3]) (hr:r.length<=s.length) (ho:(o=some (v,r)/\b=false)\/(o=none/\b=true)) :
  bodyPostD Tryz.prog Tryz.f57 (fun e w'=>BvOut o s rb sb sk d w e w') .ret { tmps:=tmps,defers:=[{ target:=.fn (.func 94) #[ptr w.heap.size],args:=#[] }] } W4:=by
 have hz:=E.z.lt;have S4:=S.beside hb4 (by omega);have q4:=(hb4.cell (p:=⟨w.heap.size,0,none⟩) (by show w.heap.size<_;omega) (by show w.heap.size≠_;omega)).trans E.q;have hs4:=hb4.size;refine bdoor w.heap.size rb (w.heap.size+1+1) d x0 x1 x2 x3 (by omega) ht (by omega) S4.lt q4 (by have:=S4.c4;simpa using this) S4.f4 (by omega) (by omega) v0 v1 v2 v3 ?_;have S5:=S4.dep d;refine⟨[x0,x1,x2,x3],v,r,rfl,?_,?_,hr,?_⟩
 ·exact VC.keep (fun b hp hlt=>⟨hp,(aA.set rb W4 4 (.int .i64 d)).block b hlt (by omega)⟩) (aA.set rb W4 4 (.int .i64 d)).size _ _ hv
 ·exact(E.fr.on hb4 (by omega)).trans (aA.set rb W4 4 _)
 ·rcases ho with⟨h1,rfl⟩|⟨h1,rfl⟩
  ·exact .inl ⟨h1,S5⟩
  ·exact .inr ⟨h1,S5⟩
theorem bval_num (x:Wf.Sc) (n rb sb:Nat) (s:List UInt8) (sk:Value) (d:Nat) (w:World) (hs:s.length<=600) (hd:d<=12) (H:Br w rb sb s false sk d):Calls Tryz.prog 57 #[ptr rb,kV .num] w fun e w'=>BvOut (Wf.getB x (n+1) .num s) s rb sb sk d w e w':=by
 have hrb:=H.lt;have hc2:=H.c2;have hc4:=H.c4;have f2:=H.f2;have f4:=H.f4;have hrb1:rb<w.heap.size+1:=by omega
 have hrb2:rb<w.heap.size+1+1:=by omega
 obtain⟨m,r,b,hm,hr,hc,hN⟩:=bnum_any s (by omega);have HN:=hid fun(wz:World) (h:Br wz rb sb s false sk (d+1))=>hN rb sb false sk (d+1) wz h;simp only[Bool.false_or] at HN;have HC:=hid hc;have HRL:=hid hr;have HD:=hid fun wz=>gV m m wz (zaA) hm;obtain⟨D,hD⟩:∃ D:ByteArray,(⟨(Wf.dec m).toArray⟩:ByteArray)=D:=⟨_,rfl⟩;have HDD:=hid hD;simp only[tx,hD] at HD;have HSG:=hid fun w2=>sign .num w2;have hkv:kV .num=.agg #[.string ⟨#[]⟩,.string ⟨#[110]⟩,.string ⟨#[]⟩]:=rfl;rw[hkv] at HSG ⊢;have hsn:bX .num=0:=rfl;rw[hsn] at HSG;have ST:=hid fun W1 h=>start_bval H ⟨#[]⟩ ⟨#[110]⟩ ⟨#[]⟩ W1 h;have hmf:∀ (fn:Fn) (first cap:Array Value) (w:World),(Instr.makeFunc fn first cap).run Tryz.prog w=.ok (.func fn first cap) w:=fun _ _ _ _=>rfl;have kd:IntKind.i64.wrap ((d:Int)+1)=(d:Int)+1:=zbI _ (by omega);clear H hN hc hr hD hkv hsn hs;go_enter_defers Tryz.func57,Tryz.ntmps57
 go_wp2_with (first|(go_at_call 60;have _u:=S2;refine(HD.out _).mono ?_;rintro e w3 ⟨rfl,hb3⟩;have S3:=hid (S2.out.below hb3);have E3:=hid (E2.out.step hrb (aA.aF hb3 (zaA)));have q3:=E3.out.q;obtain⟨zl,zr0,zr1,zr2,zr3,zf0,zf1,zf2,zf3⟩:=E3.out.z;clear hb3)|(go_at_call 45;refine(HN.out _ S1.out).mono ?_;rintro e w2 ⟨rfl,hs2,hb2⟩;have S2:=hid hs2;have E2:=hid (E1.out.step hrb hb2);clear hs2 hb2)|(go_at_call 95;obtain⟨e0,s0⟩:=ST.out _ rfl;refine(HSG.out _).mono ?_;rintro e w1 ⟨rfl,hb1⟩;have S1:=hid (s0.below hb1);have E1:=hid (e0.step hrb (aA.aF hb1 (zaA)));have q1:=E1.out.q;have k1:=E1.out.k1;have zl1:=E1.out.z.lt;clear hb1 e0 s0))
 all_goals refine bdoor_out E3.out S3.out hrb hd rfl ?_ (x0:=.int .u8 110) (x1:=.string D) (x2:=.int .i64 0) (x3:=.slice none 0 0) (by simp[go_sem, *]) (by simp[go_sem, *]) (by simp[go_sem, *]) (by simp[go_sem, *]) (v:=.mk 110 (Wf.dec m) 0 []) (by rw[<-HDD.out];exact VC.leaf 110 (Wf.dec m) 0 (by omega) (by decide)) HRL.out ?_
 ·repeat (first|with_reducible exact aA.refl _ _|with_reducible refine aA.drew ?_|with_reducible refine aA.trans ?_ (aA.set _ _ _ _))
 ·rcases HC.out with⟨h1,h2⟩|⟨h1,h2,_,_⟩
  ·exact .inl ⟨by simp only[Wf.getB,h2,zaL],h1⟩
  ·exact .inr ⟨by simp only[Wf.getB,h2,Option.map_none],h1⟩
theorem bval_txt (x:Wf.Sc) (n rb sb:Nat) (s:List UInt8) (sk:Value) (d:Nat) (w:World) (hs:s.length<=600) (hd:d<=12) (H:Br w rb sb s false sk d):Calls Tryz.prog 57 #[ptr rb,kV .txt] w fun e w'=>BvOut (Wf.getB x (n+1) .txt s) s rb sb sk d w e w':=by
 have hrb:=H.lt;have hc2:=H.c2;have hc4:=H.c4;have f2:=H.f2;have f4:=H.f4;have hrb1:rb<w.heap.size+1:=by omega
 have hrb2:rb<w.heap.size+1+1:=by omega
 obtain⟨m,r1,b1,t,r,b,hm,hr1,htl,hrl,hc,hN,hT⟩:=btk s (by omega) false;have HN:=hid fun(wz:World) (h:Br wz rb sb s false sk (d+1))=>hN rb sb sk (d+1) wz h;have HT:=hid fun(wz:World) (h:Br wz rb sb r1 b1 sk (d+1))=>hT rb sb sk (d+1) wz h;have HC:=hid hc;have HRL:=hid hrl;obtain⟨T,hTT⟩:∃ T:ByteArray,(⟨t.toArray⟩:ByteArray)=T:=⟨_,rfl⟩;have hTl:T.data.toList=t:=by rw[<-hTT]
 have HTT:=hid hTT;have hTs:T.size<=600:=by rw[<-aE,hTl];omega
 have HI:=hid fun wz=>oV T wz (by omega);obtain⟨Y,hY⟩:∃ Y,cZ t=Y:=⟨_,rfl⟩;rw[hTl,hY] at HI;have HY:=hid hY;simp only[tx,hTT] at HT;have HSG:=hid fun w2=>sign .txt w2;have hkv:kV .txt=.agg #[.string ⟨#[]⟩,.string ⟨#[116]⟩,.string ⟨#[]⟩]:=rfl;rw[hkv] at HSG ⊢;have hsn:bX .txt=0:=rfl;rw[hsn] at HSG;have ST:=hid fun W1 h=>start_bval H ⟨#[]⟩ ⟨#[116]⟩ ⟨#[]⟩ W1 h;have hmf:∀ (fn:Fn) (first cap:Array Value) (w:World),(Instr.makeFunc fn first cap).run Tryz.prog w=.ok (.func fn first cap) w:=fun _ _ _ _=>rfl;have kd:IntKind.i64.wrap ((d:Int)+1)=(d:Int)+1:=zbI _ (by omega);clear H hN hT hc hr1 htl hrl hTT hTl hkv hsn hs hY;go_enter_defers Tryz.func57,Tryz.ntmps57
 go_wp2_with (go_at_call 95;obtain⟨e0,s0⟩:=ST.out _ rfl;refine(HSG.out _).mono ?_;rintro e w1 ⟨rfl,hb1⟩;have S1:=hid (s0.below hb1);have E1:=hid (e0.step hrb (aA.aF hb1 (zaA)));have q1:=E1.out.q;have k1:=E1.out.k1;have zl1:=E1.out.z.lt;clear hb1 e0 s0)
 go_region_held3 (fun w'=>w'.cell? ⟨w.heap.size,0,none⟩=some (ptr rb)) (first|exact E3.out.q|exact E2.out.q|go_keep) (first|(go_at_call 46;have _u:=S2;refine(HT.out _ S2.out).mono ?_;rintro e w3 ⟨rfl,hs3,hb3⟩;have S3:=hid hs3;have E3:=hid (E2.out.step hrb hb3);clear hs3 hb3)|(go_at_call 45;refine(HN.out _ (by first|exact S1.out.drewN 1|exact S1.out)).mono ?_;rintro e w2 ⟨rfl,hs2,hb2⟩;have S2:=hid hs2;have E2:=hid (E1.out.step hrb ((aA.drewN (aA.refl rb w1) 1).trans hb2));clear hs2 hb2))
 cases Y with
 | true =>
  go_wp2_with (go_at_call 98;refine(HI.out _).mono ?_;rintro e w4 ⟨rfl,hb4⟩;have S4:=hid (S3.out.below hb4);have E4:=hid (E3.out.step hrb (aA.aF hb4 (zaA)));have q4:=E4.out.q;have c24:=S4.out.c2;have f24:=S4.out.f2;have l4:=S4.out.lt;obtain⟨zl,zr0,zr1,zr2,zr3,zf0,zf1,zf2,zf3⟩:=E4.out.z;clear hb4)
  all_goals refine bdoor_out E4.out S4.out hrb hd rfl ?_ (x0:=.int .u8 116) (x1:=.string T) (x2:=.int .i64 0) (x3:=.slice none 0 0) (by simp[go_sem, *]) (by simp[go_sem, *]) (by simp[go_sem, *]) (by simp[go_sem, *]) (v:=.mk 116 t 0 []) (by rw[<-HTT.out];exact VC.leaf 116 t 0 (by omega) (by decide)) HRL.out ?_
  ·repeat (first|with_reducible exact aA.refl _ _|with_reducible refine aA.drew ?_|with_reducible refine aA.trans ?_ (aA.set _ _ _ _))
  ·have hy:=HY.out
   unfold cZ at hy;simp only[Bool.and_eq_true,decide_eq_true_eq] at hy;rcases HC.out with⟨h1,_,h2⟩|⟨h1,h2,h3⟩
   ·exact .inl ⟨by simp only[Wf.getB,h2];rw[if_pos ⟨hy.2,hy.1⟩],h1⟩
   ·exact .inr ⟨by simp only[Wf.getB,h2.resolve_left (by simp)],h1⟩
 | false =>
  go_wp2_with (go_at_call 98;refine(HI.out _).mono ?_;rintro e w4 ⟨rfl,hb4⟩;have S4:=hid (S3.out.below hb4);have E4:=hid (E3.out.step hrb (aA.aF hb4 (zaA)));have q4:=E4.out.q;have c24:=S4.out.c2;have f24:=S4.out.f2;have l4:=S4.out.lt;have hne:¬ rb=w.heap.size+1+1:=(by omega);have hne2:¬ rb=w.heap.size:=(by omega);obtain⟨zl,zr0,zr1,zr2,zr3,zf0,zf1,zf2,zf3⟩:=E4.out.z;clear hb4)
  all_goals refine bdoor_out (E4.out.step hrb (aA.set rb w4 2 (.bool true))) S4.out.fail hrb hd rfl ?_ (x0:=.int .u8 116) (x1:=.string T) (x2:=.int .i64 0) (x3:=.slice none 0 0) (by simp[go_sem, *]) (by simp[go_sem, *]) (by simp[go_sem, *]) (by simp[go_sem, *]) (v:=.mk 116 t 0 []) (by rw[<-HTT.out];exact VC.leaf 116 t 0 (by omega) (by decide)) HRL.out ?_
  ·repeat (first|with_reducible exact aA.refl _ _|with_reducible refine aA.drew ?_|with_reducible refine aA.trans ?_ (aA.set _ _ _ _))
  ·have hy:=HY.out
   unfold cZ at hy;refine .inr ⟨?_,rfl⟩;rcases HC.out with⟨h1,_,h2⟩|⟨h1,h2,h3⟩
   ·simp only[Wf.getB,h2]
    rw[if_neg];rintro⟨g1,g2⟩;rw[g1,decide_eq_true g2] at hy;cases hy
   ·simp only[Wf.getB,h2.resolve_left (by simp)]
theorem bval_flag (x:Wf.Sc) (n rb sb:Nat) (s:List UInt8) (sk:Value) (d:Nat) (w:World) (hs:s.length<=600) (hd:d<=12) (H:Br w rb sb s false sk d):Calls Tryz.prog 57 #[ptr rb,kV .flag] w fun e w'=>BvOut (Wf.getB x (n+1) .flag s) s rb sb sk d w e w':=by
 have hrb:=H.lt;have hc2:=H.c2;have hc4:=H.c4;have f2:=H.f2;have f4:=H.f4;have hrb1:rb<w.heap.size+1:=by omega
 have hrb2:rb<w.heap.size+1+1:=by omega
 obtain⟨y,r,b,hrl,hc,hF⟩:=bflag_any s (by omega);have HF:=hid fun(wz:World) (h:Br wz rb sb s false sk (d+1))=>hF rb sb sk (d+1) wz h;have HC:=hid hc;have HRL:=hid hrl;have HSG:=hid fun w2=>sign .flag w2;have hkv:kV .flag=.agg #[.string ⟨#[]⟩,.string ⟨#[102]⟩,.string ⟨#[]⟩]:=rfl;rw[hkv] at HSG ⊢;have hsn:bX .flag=0:=rfl;rw[hsn] at HSG;have ST:=hid fun W1 h=>start_bval H ⟨#[]⟩ ⟨#[102]⟩ ⟨#[]⟩ W1 h;have hmf:∀ (fn:Fn) (first cap:Array Value) (w:World),(Instr.makeFunc fn first cap).run Tryz.prog w=.ok (.func fn first cap) w:=fun _ _ _ _=>rfl;have kd:IntKind.i64.wrap ((d:Int)+1)=(d:Int)+1:=zbI _ (by omega);clear H hF hc hrl hkv hsn hs;cases y with
 | true =>
  go_enter_defers Tryz.func57,Tryz.ntmps57
  go_wp2_with (first|(go_at_call 97;refine(HF.out _ S1.out).mono ?_;rintro e w3 ⟨rfl,hs3,hb3⟩;have S3:=hid hs3;have E3:=hid (E1.out.step hrb hb3);have q3:=E3.out.q;obtain⟨zl,zr0,zr1,zr2,zr3,zf0,zf1,zf2,zf3⟩:=E3.out.z;clear hs3 hb3)|(go_at_call 95;obtain⟨e0,s0⟩:=ST.out _ rfl;refine(HSG.out _).mono ?_;rintro e w1 ⟨rfl,hb1⟩;have S1:=hid (s0.below hb1);have E1:=hid (e0.step hrb (aA.aF hb1 (zaA)));have q1:=E1.out.q;have k1:=E1.out.k1;have zl1:=E1.out.z.lt;clear hb1 e0 s0))
  all_goals refine bdoor_out E3.out S3.out hrb hd rfl ?_ (x0:=.int .u8 102) (x1:=.string ⟨#[121,101,115]⟩) (x2:=.int .i64 0) (x3:=.slice none 0 0) (by simp[go_sem, *]) (by simp[go_sem, *]) (by simp[go_sem, *]) (by simp[go_sem, *]) (v:=.mk 102 [121,101,115] 0 []) (VC.leaf 102 [121,101,115] 0 (by omega) (by decide)) HRL.out ?_
  ·repeat (first|with_reducible exact aA.refl _ _|with_reducible refine aA.drew ?_|with_reducible refine aA.trans ?_ (aA.set _ _ _ _))
  ·rcases HC.out with⟨h1,h2⟩|⟨_,h2,_⟩
   ·exact .inl ⟨by rw[h2];rfl,h1⟩
   ·cases h2
 | false =>
  go_enter_defers Tryz.func57,Tryz.ntmps57
  go_wp2_with (first|(go_at_call 97;refine(HF.out _ S1.out).mono ?_;rintro e w3 ⟨rfl,hs3,hb3⟩;have S3:=hid hs3;have E3:=hid (E1.out.step hrb hb3);have q3:=E3.out.q;obtain⟨zl,zr0,zr1,zr2,zr3,zf0,zf1,zf2,zf3⟩:=E3.out.z;clear hs3 hb3)|(go_at_call 95;obtain⟨e0,s0⟩:=ST.out _ rfl;refine(HSG.out _).mono ?_;rintro e w1 ⟨rfl,hb1⟩;have S1:=hid (s0.below hb1);have E1:=hid (e0.step hrb (aA.aF hb1 (zaA)));have q1:=E1.out.q;have k1:=E1.out.k1;have zl1:=E1.out.z.lt;clear hb1 e0 s0))
  all_goals refine bdoor_out E3.out S3.out hrb hd rfl ?_ (x0:=.int .u8 102) (x1:=.string ⟨#[110,111]⟩) (x2:=.int .i64 0) (x3:=.slice none 0 0) (by simp[go_sem, *]) (by simp[go_sem, *]) (by simp[go_sem, *]) (by simp[go_sem, *]) (v:=.mk 102 [110,111] 0 []) (VC.leaf 102 [110,111] 0 (by omega) (by decide)) HRL.out ?_
  ·repeat (first|with_reducible exact aA.refl _ _|with_reducible refine aA.drew ?_|with_reducible refine aA.trans ?_ (aA.set _ _ _ _))
  ·rcases HC.out with⟨h1,h2⟩|⟨h1,_,h2,h3⟩
   ·exact .inl ⟨by rw[h2];rfl,h1⟩
   ·refine .inr ⟨?_,h1⟩
    cases s with
    | nil=>rfl
    | cons c r' =>
     simp only[List.head?_cons,ne_eq,zaE] at h2 h3;simp only[Wf.getB];split
     ·rename_i he;exact absurd (List.cons.inj he).1 h2
     ·rename_i he;exact absurd (List.cons.inj he).1 h3
     ·rfl
theorem bval_opt_no (x:Wf.Sc) (n rb sb:Nat) (k:Wf.K) (s r:List UInt8) (b:Bool) (sk:Value) (d:Nat) (w:World) (hs:s.length<=600) (hd:d<=12) (hrl:r.length<=s.length) (hc:(b=false/\s=0::r)\/(b=true/\s.head? ≠ some 0/\s.head? ≠ some 1)) (hF:∀ wz,Br wz rb sb s false sk (d+1)->Calls Tryz.prog 97 #[ptr rb] wz fun e w'=>e=.returned (.bool false)/\Br w' rb sb r b sk (d+1)/\aA rb wz w') (H:Br w rb sb s false sk d):Calls Tryz.prog 57 #[ptr rb,kV (.opt k)] w fun e w'=>BvOut (Wf.getB x (n+1) (.opt k) s) s rb sb sk d w e w':=by
 have hrb:=H.lt;have hc2:=H.c2;have hc4:=H.c4;have f2:=H.f2;have f4:=H.f4;have hrb1:rb<w.heap.size+1:=by omega
 have hrb2:rb<w.heap.size+1+1:=by omega
 have HF:=hid hF;have HC:=hid hc;have HRL:=hid hrl;have HSG:=hid fun w2=>sign (.opt k) w2;obtain⟨SG,hSG⟩:∃ SG:ByteArray,(⟨(Wf.K.opt k).signs.toArray⟩:ByteArray)=SG:=⟨_,rfl⟩;obtain⟨BS,hBS⟩:∃ BS:ByteArray,(⟨(Wf.K.opt k).base.toArray⟩:ByteArray)=BS:=⟨_,rfl⟩;obtain⟨NM,hNM⟩:∃ NM:ByteArray,(⟨(Wf.K.opt k).name.toArray⟩:ByteArray)=NM:=⟨_,rfl⟩;have hkv:kV (.opt k)=.agg #[.string SG,.string BS,.string NM]:=by simp only[kV,tx,hSG,hBS,hNM]
 rw[hkv] at HSG ⊢;have hsn:bX (.opt k)=63:=rfl;rw[hsn] at HSG;have ST:=hid fun W1 h=>start_bval H SG BS NM W1 h;have hmf:∀ (fn:Fn) (first cap:Array Value) (w:World),(Instr.makeFunc fn first cap).run Tryz.prog w=.ok (.func fn first cap) w:=fun _ _ _ _=>rfl;have kd:IntKind.i64.wrap ((d:Int)+1)=(d:Int)+1:=zbI _ (by omega);clear H hF hc hrl hkv hsn hs hSG hBS hNM;go_enter_defers Tryz.func57,Tryz.ntmps57
 go_wp2_with (first|(go_at_call 97;refine(HF.out _ S1.out).mono ?_;rintro e w3 ⟨rfl,hs3,hb3⟩;have S3:=hid hs3;have E3:=hid (E1.out.step hrb hb3);have q3:=E3.out.q;obtain⟨zl,zr0,zr1,zr2,zr3,zf0,zf1,zf2,zf3⟩:=E3.out.z;clear hs3 hb3)|(go_at_call 95;obtain⟨e0,s0⟩:=ST.out _ rfl;refine(HSG.out _).mono ?_;rintro e w1 ⟨rfl,hb1⟩;have S1:=hid (s0.below hb1);have E1:=hid (e0.step hrb (aA.aF hb1 (zaA)));have q1:=E1.out.q;have k1:=E1.out.k1;have zl1:=E1.out.z.lt;clear hb1 e0 s0))
 all_goals refine bdoor_out E3.out S3.out hrb hd rfl ?_ (x0:=.int .u8 63) (x1:=.string ⟨#[]⟩) (x2:=.int .i64 0) (x3:=.slice none 0 0) (by simp[go_sem, *]) (by simp[go_sem, *]) (by simp[go_sem, *]) (by simp[go_sem, *]) (v:=.mk 63 [] 0 []) (VC.leaf 63 [] 0 (by omega) (by decide)) HRL.out ?_
 ·repeat (first|with_reducible exact aA.refl _ _|with_reducible refine aA.drew ?_|with_reducible refine aA.trans ?_ (aA.set _ _ _ _))
 ·rcases HC.out with⟨h1,h2⟩|⟨h1,h2,h3⟩
  ·exact .inl ⟨by rw[h2];rfl,h1⟩
  ·refine .inr ⟨?_,h1⟩
   cases s with
   | nil=>rfl
   | cons c r' =>
    simp only[List.head?_cons,ne_eq,zaE] at h2 h3;simp only[Wf.getB];split
    ·rename_i he;exact absurd (List.cons.inj he).1 h2
    ·rename_i he;exact absurd (List.cons.inj he).1 h3
    ·rfl

def Rb (x:Wf.Sc) (sb:Nat) (W:World) (n:Nat) (k:Wf.K):Prop:=∀ (rb:Nat) (s:List UInt8) (d:Nat) (w:World),W.heap.size<=rb->n+d=13->1<=d->Below W.heap.size W w->Br w rb sb s false (.slice none 0 0) d->s.length<=600->Calls Tryz.prog 57 #[ptr rb,kV k] w fun e w'=>BvOut (Wf.getB x n k s) s rb sb (.slice none 0 0) d w e w'
theorem Rb.at {x:Wf.Sc} {sb:Nat} {W:World} {n:Nat} {k:Wf.K} (h:Rb x sb W n k) {sk:Value} (hsk:sk=.slice none 0 0) (rb:Nat) (s:List UInt8) (d:Nat) (w:World) (h1:W.heap.size<=rb) (h2:n+d=13) (h3:1<=d) (h4:Below W.heap.size W w) (h5:Br w rb sb s false sk d) (h6:s.length<=600):Calls Tryz.prog 57 #[ptr rb,kV k] w fun e w'=>BvOut (Wf.getB x n k s) s rb sb sk d w e w':=by
 subst hsk;exact h rb s d w h1 h2 h3 h4 h5 h6
theorem bval_opt_some (x:Wf.Sc) (n rb sb:Nat) (W:World) (k:Wf.K) (r:List UInt8) (sk:Value) (d:Nat) (w:World) (hW:Below W.heap.size W w) (hWr:W.heap.size<=rb) (IH:Rb x sb W n k) (hsk:sk=.slice none 0 0) (hs:(1::r).length<=600) (hd:n+1+d=13) (hF:∀ wz,Br wz rb sb (1::r) false sk (d+1)->Calls Tryz.prog 97 #[ptr rb] wz fun e w'=>e=.returned (.bool true)/\Br w' rb sb r false sk (d+1)/\aA rb wz w') (H:Br w rb sb (1::r) false sk d):Calls Tryz.prog 57 #[ptr rb,kV (.opt k)] w fun e w'=>BvOut (Wf.getB x (n+1) (.opt k) (1::r)) (1::r) rb sb sk d w e w':=by
 have hrb:=H.lt;have hc2:=H.c2;have hc4:=H.c4;have f2:=H.f2;have f4:=H.f4;have hrb1:rb<w.heap.size+1:=by omega
 have hrb2:rb<w.heap.size+1+1:=by omega
 have hd12:d<=12:=by omega
 have HF:=hid hF;have HW:=hid hW;have hs':r.length<=600:=by simp at hs;omega
 have hIH:=fun(wz:World) (hb:Below W.heap.size W wz) (h:Br wz rb sb r false sk (d+1))=>IH.at hsk rb r (d+1) wz hWr (by omega) (by omega) hb h hs';have HSG:=hid fun w2=>sign (.opt k) w2;have HPT:=hid fun w2=>kO k w2;obtain⟨SG,hSG⟩:∃ SG:ByteArray,(⟨(Wf.K.opt k).signs.toArray⟩:ByteArray)=SG:=⟨_,rfl⟩;obtain⟨BS,hBS⟩:∃ BS:ByteArray,(⟨(Wf.K.opt k).base.toArray⟩:ByteArray)=BS:=⟨_,rfl⟩;obtain⟨NM,hNM⟩:∃ NM:ByteArray,(⟨(Wf.K.opt k).name.toArray⟩:ByteArray)=NM:=⟨_,rfl⟩;have hkv:kV (.opt k)=.agg #[.string SG,.string BS,.string NM]:=by simp only[kV,tx,hSG,hBS,hNM]
 rw[hkv] at HSG HPT ⊢;obtain⟨KV,hKV⟩:∃ KV,kV k=KV:=⟨_,rfl⟩;rw[hKV] at HPT hIH;have HIH:=hid hIH;have hsn:bX (.opt k)=63:=rfl;rw[hsn] at HSG;have ST:=hid fun W1 h=>start_bval H SG BS NM W1 h;have hmf:∀ (fn:Fn) (first cap:Array Value) (w:World),(Instr.makeFunc fn first cap).run Tryz.prog w=.ok (.func fn first cap) w:=fun _ _ _ _=>rfl;have kd:IntKind.i64.wrap ((d:Int)+1)=(d:Int)+1:=zbI _ (by omega);clear H hF hkv hsn hs hSG hBS hNM hKV hIH IH hW hsk;go_enter_defers Tryz.func57,Tryz.ntmps57
 go_wp2_with (first|(go_at_call 97;refine(HF.out _ S1.out).mono ?_;rintro e w2 ⟨rfl,hs2,hb2⟩;have S2:=hid hs2;have E2:=hid (E1.out.step hrb hb2);clear hs2 hb2)|(go_at_call 95;obtain⟨e0,s0⟩:=ST.out _ rfl;refine(HSG.out _).mono ?_;rintro e w1 ⟨rfl,hb1⟩;have S1:=hid (s0.below hb1);have E1:=hid (e0.step hrb (aA.aF hb1 (zaA)));have q1:=E1.out.q;have k1:=E1.out.k1;have zl1:=E1.out.z.lt;clear hb1 e0 s0))
 have q2:=E2.out.q;have k20:=E2.out.k0;have k21:=E2.out.k1;have k22:=E2.out.k2;have zl2:=E2.out.z.lt;refine wp_region_noPanic ?_;go_region_law (first|((try go_simp);go_at_call 57;have _u:=E3;refine(HIH.out _ (aA.below HW.out HW.out.size hWr E3.out.fr) S3.out).mono ?_;rintro e w4 ⟨cs,v,r4,rfl,hvc,hb4,hrl,ho⟩;obtain⟨u0,u1,u2,u3,T4,a4,rfl⟩:=hvc.aY;have HVC:=hid hvc;have HO:=hid ho;have HRL:=hid hrl;have E4:=hid (E3.out.step hrb hb4);have Q4:=hid hb4;obtain⟨zl,zr0,zr1,zr2,zr3,zf0,zf1,zf2,zf3⟩:=E4.out.z;clear hvc ho hrl hb4)|((try go_simp);go_at_call 96;refine(HPT.out _).mono ?_;rintro e w3 ⟨rfl,hb3⟩;have hb23:=hid (show Below w2.heap.size w2 w3 by refine Below.trans (b:=_) ?_ hb3;repeat (first|with_reducible exact zaB|with_reducible refine zbE ?_));have S3:=hid (S2.out.below hb23.out);have E3:=hid (E2.out.step hrb (aA.aF hb23.out (zaA)));have q3:=E3.out.q;have zl3:=E3.out.z.lt;clear hb3))
 all_goals refine NoPanic.normal ?_
 all_goals go_wp2_with fail
 all_goals
  obtain⟨b,S4,hob⟩:∃ b,Br w4 rb sb r4 b sk (d+1)/\((Wf.getB x n k r=some (v,r4)/\b=false)\/(Wf.getB x n k r=none/\b=true)):=by
   rcases HO.out with⟨h1,h2⟩|⟨h1,h2⟩
   ·exact⟨false,h2,.inl ⟨h1,rfl⟩⟩
   ·exact⟨true,h2,.inr ⟨h1,rfl⟩⟩
  have hR:∀ W5,aA (w.heap.size+1+1) w4 W5->w4.heap.size<W5.heap.size->(∀ j u,[Value.int .u8 u0,Value.string T4,Value.int .i64 u1,Value.slice a4 u2 u3][j]? = some u->W5.cell? ⟨w4.heap.size,0+j,none⟩=some u)->VC W5 (fun b=>w.heap.size<=b) (.mk 63 [] 0 [v]) [.int .u8 63,.string ⟨#[]⟩,.int .i64 0,.slice (some ⟨w4.heap.size,0,none⟩) 1 1]:=fun W5 hb hl hc=>by
   have h1:=E2.out.fr.size;have h2:=E3.out.z.lt;exact VC.one (VC.keep (P:=fun b=>w3.heap.size<=b) (fun b hp hlt=>⟨by have:w3.heap.size<=b:=hp;omega,hb.block b hlt (by have:w3.heap.size<=b:=hp;omega)⟩) hb.size _ _ HVC.out) (by have:=Q4.out.size;omega) hl hc 63 [] 0 ⟨by omega,fun _=>.inr (.inl rfl),fun h=>absurd h (by decide)⟩
  refine bdoor_out E4.out S4 hrb hd12 rfl ?_ (x0:=.int .u8 63) (x1:=.string ⟨#[]⟩) (x2:=.int .i64 0) (x3:=.slice (some ⟨w4.heap.size,0,none⟩) 1 1) (by simp[go_sem, *]) (by simp[go_sem, *]) (by simp[go_sem, *]) (by simp[go_sem, *]) (v:=.mk 63 [] 0 [v]) (hR _ ?_ ?_ ?_) (by rw[zaF];have:=HRL.out;omega) ?_
  ·repeat (first|with_reducible exact aA.refl _ _|with_reducible refine aA.drew ?_|with_reducible refine aA.alloc ?_ _|with_reducible refine aA.trans ?_ (aA.set _ _ _ _))
  ·repeat (first|with_reducible exact aA.refl _ _|with_reducible refine aA.drew ?_|with_reducible refine aA.alloc ?_ _|with_reducible refine aA.trans ?_ (aA.set _ _ _ _))
  ·simp
  ·intro j u hu
   rcases j with _|_|_|_|j <;> simp at hu <;> subst hu <;> simp[go_sem]
  ·rcases hob with⟨h1,h2⟩|⟨h1,h2⟩
   ·exact .inl ⟨by simp only[Wf.getB,h1,zaL],h2⟩
   ·exact .inr ⟨by simp only[Wf.getB,h1,Option.map_none],h2⟩

theorem Ent.low {w w1 w2:World} {rb:Nat} {SG BS NM:ByteArray} (h:Ent w w1 rb SG BS NM) {B:Nat} (hB:w.heap.size+1+1<B) (hb:Below B w1 w2):Ent w w2 rb SG BS NM:=by
 have hz:=h.z.lt;refine⟨⟨hb.os.trans h.fr.os,hb.tape.trans h.fr.tape,hb.output.trans h.fr.output,zaI h.fr.size hb.size,fun k hk hr=>(hb.block k (by omega)).trans (h.fr.block k hk hr)⟩,(hb.cell (p:=⟨w.heap.size,0,none⟩) (by show w.heap.size<B;omega)).trans h.q,(hb.cell (p:=⟨w.heap.size+1,0,none⟩) (by show w.heap.size+1<B;omega)).trans h.k0,(hb.cell (p:=⟨w.heap.size+1,1,none⟩) (by show w.heap.size+1<B;omega)).trans h.k1,(hb.cell (p:=⟨w.heap.size+1,2,none⟩) (by show w.heap.size+1<B;omega)).trans h.k2,h.z.below hb (by omega)⟩
structure Lb (w wr:World) (rb sb vb:Nat) (SG BS NM:ByteArray) (cur:List UInt8) (bad:Bool) (sk:Value) (d:Nat) (a:Option Addr) (c:Nat) (l:List Wf.V) (es:List (List Value)):Prop where
 ent:Ent w wr rb SG BS NM
 vw:w.heap.size+1+1<vb
 bld:Bld w wr rb vb (vb+1) 91 a c l es
 br:Br wr rb sb cur bad sk (d+1)
theorem start_blist {w w2:World} {rb sb:Nat} {SG BS NM:ByteArray} {cur:List UInt8} {bad:Bool} {sk:Value} {d:Nat} (E:Ent w w2 rb SG BS NM) (S:Br w2 rb sb cur bad sk (d+1)) (W1:World) (hW1:w2.alloc (.cells #[.int .u8 91,.string ⟨#[]⟩,.int .i64 0,.slice none 0 0] 51)=W1) :
  Lb w W1 rb sb w2.heap.size SG BS NM cur bad sk d none 0 [] []:=by
 have hB:Below w2.heap.size w2 W1:=by rw[<-hW1];exact(zaB).alloc (zaA) _
 have hz:=E.z.lt;refine⟨E.low hz hB,hz,⟨E.fr.trans (aA.aF hB (zaA)),by omega,zaH _,?_,?_,?_,?_,?_,?_,World.ownsRow_nil _ _ _ _,?_,rfl,?_⟩,S.below hB⟩;all_goals subst hW1
 all_goals first|(simp[go_sem];done)|(intro e he;simp at he)|(intro i h1;simp at h1)
theorem Lb.put {w wr:World} {rb sb vb:Nat} {SG BS NM:ByteArray} {cur:List UInt8} {bad0:Bool} {sk:Value} {d:Nat} {a:Option Addr} {c:Nat} {l:List Wf.V} {es:List (List Value)} {m:Nat} (h:Lb w wr rb sb vb SG BS NM cur bad0 sk d a c l es) (hrb:rb<w.heap.size) {w2:World} (hb:aA rb wr w2) (hm:es.length=m) {q2 g2 n2 c2:Nat} {T2:ByteArray} {a2:Option Addr} {v:Wf.V}
  (hvc:VC w2 (fun b=>wr.heap.size<=b) v [.int .u8 q2,.string T2,.int .i64 g2,.slice a2 n2 c2]) {w4:World} {g cap:Nat}
  (hg:(w2.alloc (.cells #[.int .u8 q2,.string T2,.int .i64 g2,.slice a2 n2 c2] 51)).grownBy w4 (Value.slice a m c).ownBlock)
  (ho:w4.ownsRow (vb+1) 51 4 (.slice (some ⟨g,0,none⟩) (m+1) cap) (m+1) (es.flatten++[.int .u8 q2,.string T2,.int .i64 g2,.slice a2 n2 c2]))
  (hat:(Value.slice a m c).ownBlock=some g\/g=(w2.alloc (.cells #[.int .u8 q2,.string T2,.int .i64 g2,.slice a2 n2 c2] 51)).heap.size)
  {r2:List UInt8} {bad:Bool} (hs:Br w2 rb sb r2 bad sk (d+1)) :
  Lb w (w4.setCell ⟨vb,3,none⟩ (.slice (some ⟨g,0,none⟩) (m+1) cap)) rb sb vb SG BS NM r2 bad sk d (some ⟨g,0,none⟩) cap (l++[v]) (es++[[.int .u8 q2,.string T2,.int .i64 g2,.slice a2 n2 c2]]):=by
 subst hm;obtain⟨WX,hWX⟩:∃ WX,w2.alloc (.cells #[.int .u8 q2,.string T2,.int .i64 g2,.slice a2 n2 c2] 51)=WX:=⟨_,rfl⟩;rw[hWX] at hg hat;have hX:Below w2.heap.size w2 WX:=by rw[<-hWX];exact(zaB).alloc (zaA) _
 have hXb:aA rb wr WX:=hb.trans (aA.aF hX (zaA));have hs0:=(h.bld.step hrb hXb).sz;have hlo:=aU h.bld.own;have hv:=h.vw;have hB:Below (vb+1) WX w4:=aW hg (fun g hgk=>(hlo g hgk).1) hs0;have hS:Below vb w4 (w4.setCell ⟨vb,3,none⟩ (.slice (some ⟨g,0,none⟩) (es.length+1) cap)):=zbF (Below.refl _ w4) (p:=⟨vb,3,none⟩) (zaA) _;refine⟨((h.ent.step hrb hXb).low (by omega) hB).low hv hS,hv,h.bld.put hrb hXb hg (hvc.below hX) ho ?_,((hs.below hX).cQ hB (by omega)).cQ hS (by omega)⟩;rcases hat with hat|hat
 ·exact .inl hat.symm
 ·exact .inr (by rw[<-hat];rfl)
theorem getB_list (x:Wf.Sc) (n:Nat) (k:Wf.K) (s:List UInt8):Wf.getB x (n+1) (.list k) s=(match Wf.getN s with|none=>none|some (m,r)=>if m<=20 then Wf.getItems (Wf.getB x n k) m r else none).map fun(y:List Wf.V × List UInt8)=>(.mk 91 [] 0 y.1,y.2):=by
 simp only[Wf.getB];cases Wf.getN s with
 | none=>rfl
 | some y =>
  dsimp only;split <;> rfl
theorem items_step {p:Wf.Reads} {m i:Nat} {cur:List UInt8} {l:List Wf.V} (h:i<m):(Wf.getItems p (m-i) cur).map (fun y=>(l++y.1,y.2))=match p cur with
  | none=>none
  | some (v,r)=>(Wf.getItems p (m-(i+1)) r).map fun y=>((l++[v])++y.1,y.2):=by
 obtain⟨q,hq⟩:∃ q,m-i=q+1:=⟨m-i-1,by omega⟩;rw[hq,show m-(i+1)=q by omega];simp only[Wf.getItems];cases p cur with
 | none=>rfl
 | some y =>
  dsimp only;cases Wf.getItems p q y.2 with
  | none=>rfl
  | some z=>simp
def Lrel (p:Wf.Reads) (T:Option (List Wf.V × List UInt8)) (m i:Nat) (cur:List UInt8) (bad:Bool) (l:List Wf.V):Prop:=(bad=false/\T=(Wf.getItems p (m-i) cur).map fun y=>(l++y.1,y.2))\/(bad=true/\T=none)
theorem bval_list (x:Wf.Sc) (n rb sb:Nat) (W:World) (k:Wf.K) (s r:List UInt8) (m:Nat) (b0:Bool) (T:Option (List Wf.V × List UInt8)) (sk:Value) (d:Nat) (w:World) (hW:Below W.heap.size W w) (hWr:W.heap.size<=rb) (IH:Rb x sb W n k) (hsk:sk=.slice none 0 0) (hs:s.length<=600) (hd:n+1+d=13) (hrl:r.length<=s.length) (hm20:m<=20)
  (hN:∀ wz,Br wz rb sb s false sk (d+1)->Calls Tryz.prog 45 #[ptr rb] wz fun e w'=>e=.returned (.int .i64 m)/\Br w' rb sb r b0 sk (d+1)/\aA rb wz w') (hT:Wf.getB x (n+1) (.list k) s=T.map fun y=>(.mk 91 [] 0 y.1,y.2)) (h0:Lrel (Wf.getB x n k) T m 0 r b0 []) (H:Br w rb sb s false sk d):Calls Tryz.prog 57 #[ptr rb,kV (.list k)] w fun e w'=>BvOut (Wf.getB x (n+1) (.list k) s) s rb sb sk d w e w':=by
 have hrb:=H.lt;have hc2:=H.c2;have hc4:=H.c4;have f2:=H.f2;have f4:=H.f4;have hrb1:rb<w.heap.size+1:=by omega
 have hrb2:rb<w.heap.size+1+1:=by omega
 have hd12:d<=12:=by omega
 have HN:=hid hN;have HW:=hid hW;have HT:=hid hT;have H0:=hid h0;have HRL:=hid hrl;have HS6:=hid hs;have hIH:=fun(cur:List UInt8) (wz:World) (hb:Below W.heap.size W wz) (h:Br wz rb sb cur false sk (d+1)) (hc:cur.length<=600)=>IH.at hsk rb cur (d+1) wz hWr (by omega) (by omega) hb h hc;have HSG:=hid fun w2=>sign (.list k) w2;have HPT:=hid fun w2=>mS k w2;obtain⟨SG,hSG⟩:∃ SG:ByteArray,(⟨(Wf.K.list k).signs.toArray⟩:ByteArray)=SG:=⟨_,rfl⟩;obtain⟨BS,hBS⟩:∃ BS:ByteArray,(⟨(Wf.K.list k).base.toArray⟩:ByteArray)=BS:=⟨_,rfl⟩;obtain⟨NM,hNM⟩:∃ NM:ByteArray,(⟨(Wf.K.list k).name.toArray⟩:ByteArray)=NM:=⟨_,rfl⟩;have hkv:kV (.list k)=.agg #[.string SG,.string BS,.string NM]:=by simp only[kV,tx,hSG,hBS,hNM]
 rw[hkv] at HSG HPT ⊢;obtain⟨KV,hKV⟩:∃ KV,kV k=KV:=⟨_,rfl⟩;rw[hKV] at HPT hIH;have HIH:=hid hIH;have hsn:bX (.list k)=91:=rfl;rw[hsn] at HSG;have ST:=hid fun W1 h=>start_bval H SG BS NM W1 h;have hmf:∀ (fn:Fn) (first cap:Array Value) (w:World),(Instr.makeFunc fn first cap).run Tryz.prog w=.ok (.func fn first cap) w:=fun _ _ _ _=>rfl;have kd:IntKind.i64.wrap ((d:Int)+1)=(d:Int)+1:=zbI _ (by omega);clear H hN hkv hsn hs hSG hBS hNM hKV hIH IH hW hT h0 hrl hsk;go_enter_defers Tryz.func57,Tryz.ntmps57
 go_wp2_with (first|(go_at_call 45;refine(HN.out _ S1.out).mono ?_;rintro e w2 ⟨rfl,hs2,hb2⟩;have S2:=hid hs2;have E2:=hid (E1.out.step hrb hb2);have q2:=E2.out.q;have zl2:=E2.out.z.lt;clear hs2 hb2)|(go_at_call 95;obtain⟨e0,s0⟩:=ST.out _ rfl;refine(HSG.out _).mono ?_;rintro e w1 ⟨rfl,hb1⟩;have S1:=hid (s0.below hb1);have E1:=hid (e0.step hrb (aA.aF hb1 (zaA)));have q1:=E1.out.q;have k1:=E1.out.k1;have zl1:=E1.out.z.lt;clear hb1 e0 s0))
 go_loopw [7] (fun s7 wr=>∃ (i:Nat) (cur:List UInt8) (bad:Bool) (a:Option Addr) (c:Nat) (l:List Wf.V) (es:List (List Value)),s7=.int .i64 i/\i<=m/\Hid (Lb w wr rb sb w2.heap.size SG BS NM cur bad sk d a c l es/\es.length=i/\cur.length<=s.length/\Lrel (Wf.getB x n k) T m i cur bad l)) (fun s7 _=>m-(RowKit.intOf s7).toNat)
 case atStart=>exact⟨0,r,b0,none,0,[],[],rfl,Nat.zero_le _,hid ⟨start_blist E2.out S2.out _ rfl,rfl,HRL.out,H0.out⟩⟩
 case round =>
  obtain⟨i,cur,bad,a,c,l,es,rfl,hi,hh⟩:=hrel;have hc2:=hh.out.1.br.c2;have hrw:=hh.out.1.br.lt;have hq:=hh.out.1.ent.q;have hk0:=hh.out.1.ent.k0;have hk1:=hh.out.1.ent.k1;have hk2:=hh.out.1.ent.k2;have hzl:=hh.out.1.ent.z.lt;by_cases hlt:i<m/\bad=false
  ·obtain⟨hlt,rfl⟩:=hlt
   have hv3:=hh.out.1.bld.v3;have hvf3:=hh.out.1.bld.f3;rw[hh.out.2.1] at hv3;have hbw:w2.heap.size<wr.heap.size:=(by have:=hh.out.1.bld.sz;omega);go_upto_region 16 with fail
   have HOWN:=hid (show wr.ownsRow (w2.heap.size+1) 51 4 (.slice a i c) i es.flatten by have h:=hh.out.1.bld.own;rw[hh.out.2.1] at h;exact h);obtain⟨i0,hi0,hz0,hz1,hz2⟩:=info_parts iW;have HI0:=hid hi0;have HZ0:=hid hz0;have HZ1:=hid hz1;have HZ2:=hid hz2;clear hi0 hz0 hz1 hz2;have hrbv:rb<w2.heap.size+1:=(by omega);have hvn:w2.heap.size≠rb:=(by omega);have hcl:=hh.out.2.2.1;have HCL:=hid hcl;clear hcl;have HLR:=hid (show T=match Wf.getB x n k cur with
    | none=>none
    | some (v,r)=>(Wf.getItems (Wf.getB x n k) (m-(i+1)) r).map fun y=>((l++[v])++y.1,y.2) by
    rcases hh.out.2.2.2 with⟨_,h⟩|⟨h,_⟩
    ·rw[h,items_step hlt]
    ·cases h)
   refine wp_region_noPanic ?_;go_region_law (first|(refine step_append_lies _ rfl (.tmp 60) (.tmp 65) 49 rfl (w2.heap.size+1) 51 i0 (.agg #[.int .u8 0,tx [],.int .i64 0,.slice none 0 0]) 4 56 Tryz.underlying49 HI0.out HZ0.out HZ1.out HZ2.out rfl (by decide) (.slice a i c) i _ (by simp[Act.eval,Act.put]) ((dQ HOWN.out HB4.out hrbv).alloc _) ⟨w4.heap.size,0,none⟩ 1 1 [.int .u8 u0,.string T4,.int .i64 u1,.slice a4 u2 u3] (by simp[Act.eval,Act.put]) rfl (World.news_of_block (MapKept.heap_alloc w4 (.cells #[.int .u8 u0,.string T4,.int .i64 u1,.slice a4 u2 u3] 51)).1) (fK _ _ _ _ _ _) (by decide) (by unfold maxLen;omega) (by omega) (by simp;omega) _ rfl ?_;intro g cap w5 hown5 hgrow5 hat5 hlt5;have B5:=hid (aW (base:=w2.heap.size+1) hgrow5 (fun g hg=>(aU HOWN.out g hg).1) (by simp;omega));have z3:w5.cell? ⟨w2.heap.size,3,none⟩=some (.slice a i c):=((B5.out.cell (p:=⟨w2.heap.size,3,none⟩) (zaH _)).trans ((zbB w4 _ ⟨w2.heap.size,3,none⟩ hvw4).trans y3));have zf:w5.frozen? ⟨w2.heap.size,3,none⟩=false:=((B5.out.frozen (p:=⟨w2.heap.size,3,none⟩) (zaH _)).trans ((((Below.refl w4.heap.size w4).alloc (zaA) _).frozen (p:=⟨w2.heap.size,3,none⟩) hvw4).trans yf));have HOWN5:=hid hown5;have HG5:=hid hgrow5;have HAT5:=hid hat5;clear hown5 hgrow5 hat5)|((try go_simp);go_at_call 57;have _u:=HP3;refine(HIH.out cur _ (aA.below HW.out HW.out.size hWr (hh.out.1.ent.fr.trans HP3.out)) (hh.out.1.br.below HP3B.out) (by have:=HCL.out;have:=HS6.out;omega)).mono ?_;rintro e w4 ⟨cs,v,r4,rfl,hvc,hb4,hr4,ho⟩;obtain⟨u0,u1,u2,u3,T4,a4,rfl⟩:=hvc.aY;have HVC:=hid (hvc.mono (Q:=fun b=>wr.heap.size<=b) (fun b hp _=>zaI HP3.out.size hp));have HO:=hid ho;have HR4:=hid hr4;have HB4:=hid (HP3.out.trans hb4);have y3:=(HB4.out.cell (p:=⟨w2.heap.size,3,none⟩) hbw hvn).trans hv3;have yf:=(HB4.out.frozen (p:=⟨w2.heap.size,3,none⟩) hbw hvn).trans hvf3;have hvw4:=zaC hbw HB4.out.size;clear hvc ho hr4 hb4)|((try go_simp);go_at_call 96;refine(HPT.out _).mono ?_;rintro e w3 ⟨rfl,hb3⟩;have HP3B:=hid (show Below wr.heap.size wr w3 by refine Below.trans (b:=_) ?_ hb3;repeat (first|with_reducible exact zaB|with_reducible refine zbE ?_));have HP3:=hid (aA.aF (rb:=rb) HP3B.out (zaA));have q3:=(HP3B.out.cell (p:=⟨w.heap.size,0,none⟩) (by show w.heap.size<_;omega)).trans hq;have y33:=(HP3B.out.cell (p:=⟨w2.heap.size,3,none⟩) hbw).trans hv3;have hvw3:=zaC hbw HP3B.out.size;have hzl3:w.heap.size<w3.heap.size:=(by have:=HP3B.out.size;omega);clear hb3))
   all_goals refine NoPanic.normal ?_
   all_goals (go_wp2_with fail)
   all_goals go_roundw
   all_goals first
   | (rcases HO.out with⟨hp,hs⟩|⟨hp,hs⟩;exact⟨i+1,r4,false,_,cap,l++[v],_,by go_num,by omega,hid ⟨Lb.put hh.out.1 hrb HB4.out hh.out.2.1 HVC.out HG5.out HOWN5.out HAT5.out hs,by simp[hh.out.2.1],zaI HR4.out HCL.out,.inl ⟨rfl,by rw[HLR.out,hp]⟩⟩⟩;exact⟨i+1,r4,true,_,cap,l++[v],_,by go_num,by omega,hid ⟨Lb.put hh.out.1 hrb HB4.out hh.out.2.1 HVC.out HG5.out HOWN5.out HAT5.out hs,by simp[hh.out.2.1],zaI HR4.out HCL.out,.inr ⟨rfl,by rw[HLR.out,hp]⟩⟩⟩)
   | (simp[RowKit.intOf];omega)
  ·have hlen:=hh.out.2.1
   have HLEN:=hid hlen;have HVW:=hid hh.out.1.vw;have HO:=hid (show(Wf.getB x (n+1) (.list k) s=some (.mk 91 [] 0 l,cur)/\bad=false)\/(Wf.getB x (n+1) (.list k) s=none/\bad=true) by
    rcases hh.out.2.2.2 with⟨h1,h2⟩|⟨h1,h2⟩
    ·have him:i=m:=by
      rcases Nat.lt_or_ge i m with h|h
      ·exact absurd ⟨h,h1⟩ hlt
      ·omega
     refine .inl ⟨?_,h1⟩;rw[HT.out,h2,him,Nat.sub_self];simp[Wf.getItems]
    ·exact .inr ⟨by rw[HT.out,h2];rfl,h1⟩)
   have v0:=hh.out.1.bld.v0;have v1:=hh.out.1.bld.v1;have v2:=hh.out.1.bld.v2;have v3:=hh.out.1.bld.v3;rw[hh.out.2.1] at v3;have hbw:w2.heap.size<wr.heap.size:=(by have:=hh.out.1.bld.sz;omega);obtain⟨zl,zr0,zr1,zr2,zr3,zf0,zf1,zf2,zf3⟩:=hh.out.1.ent.z;clear hlen;by_cases hlt2:i<m
   ·have hbt:bad=true:=by
     cases bad with
     | true=>rfl
     | false=>exact absurd ⟨hlt2,rfl⟩ hlt
    subst hbt;clear hlt;go_wp2_with fail
    all_goals refine bdoor_out hh.out.1.ent hh.out.1.br hrb hd12 rfl ?_ (x0:=.int .u8 91) (x1:=.string ⟨#[]⟩) (x2:=.int .i64 0) (x3:=.slice a i c) (by simp[go_sem, *]) (by simp[go_sem, *]) (by simp[go_sem, *]) (by simp[go_sem, *]) (v:=.mk 91 [] 0 l) (hh.out.1.bld.out (rs:=w.heap.size+1+1) ?_ (by omega) (by have:=HVW.out;omega) HLEN.out 91 [] 0 ⟨by omega,fun _=>.inl rfl,fun h=>absurd h (by decide)⟩).1 hh.out.2.2.1 (HO.out.imp id fun h=>⟨h.1,rfl⟩)
    all_goals repeat (first|with_reducible exact aA.refl _ _|with_reducible refine aA.drew ?_|with_reducible refine aA.trans ?_ (aA.set _ _ _ _))
   ·clear hlt
    go_wp2_with fail
    all_goals refine bdoor_out hh.out.1.ent hh.out.1.br hrb hd12 rfl ?_ (x0:=.int .u8 91) (x1:=.string ⟨#[]⟩) (x2:=.int .i64 0) (x3:=.slice a i c) (by simp[go_sem, *]) (by simp[go_sem, *]) (by simp[go_sem, *]) (by simp[go_sem, *]) (v:=.mk 91 [] 0 l) (hh.out.1.bld.out (rs:=w.heap.size+1+1) ?_ (by omega) (by have:=HVW.out;omega) HLEN.out 91 [] 0 ⟨by omega,fun _=>.inl rfl,fun h=>absurd h (by decide)⟩).1 hh.out.2.2.1 HO.out
    all_goals repeat (first|with_reducible exact aA.refl _ _|with_reducible refine aA.drew ?_|with_reducible refine aA.trans ?_ (aA.set _ _ _ _))
theorem bval_list_long (x:Wf.Sc) (n rb sb:Nat) (k:Wf.K) (s r:List UInt8) (m:Nat) (sk:Value) (d:Nat) (w:World) (hs:s.length<=600) (hd:d<=12) (hrl:r.length<=s.length) (hm20:20<m) (hm:m<=999999)
  (hN:∀ wz,Br wz rb sb s false sk (d+1)->Calls Tryz.prog 45 #[ptr rb] wz fun e w'=>e=.returned (.int .i64 m)/\Br w' rb sb r false sk (d+1)/\aA rb wz w') (hT:Wf.getB x (n+1) (.list k) s=none) (H:Br w rb sb s false sk d):Calls Tryz.prog 57 #[ptr rb,kV (.list k)] w fun e w'=>BvOut (Wf.getB x (n+1) (.list k) s) s rb sb sk d w e w':=by
 have hrb:=H.lt;have hc2:=H.c2;have hc4:=H.c4;have f2:=H.f2;have f4:=H.f4;have hrb1:rb<w.heap.size+1:=by omega
 have hrb2:rb<w.heap.size+1+1:=by omega
 have HN:=hid hN;have HT:=hid hT;have HRL:=hid hrl;have HSG:=hid fun w2=>sign (.list k) w2;obtain⟨SG,hSG⟩:∃ SG:ByteArray,(⟨(Wf.K.list k).signs.toArray⟩:ByteArray)=SG:=⟨_,rfl⟩;obtain⟨BS,hBS⟩:∃ BS:ByteArray,(⟨(Wf.K.list k).base.toArray⟩:ByteArray)=BS:=⟨_,rfl⟩;obtain⟨NM,hNM⟩:∃ NM:ByteArray,(⟨(Wf.K.list k).name.toArray⟩:ByteArray)=NM:=⟨_,rfl⟩;have hkv:kV (.list k)=.agg #[.string SG,.string BS,.string NM]:=by simp only[kV,tx,hSG,hBS,hNM]
 rw[hkv] at HSG ⊢;have hsn:bX (.list k)=91:=rfl;rw[hsn] at HSG;have ST:=hid fun W1 h=>start_bval H SG BS NM W1 h;have hmf:∀ (fn:Fn) (first cap:Array Value) (w:World),(Instr.makeFunc fn first cap).run Tryz.prog w=.ok (.func fn first cap) w:=fun _ _ _ _=>rfl;have kd:IntKind.i64.wrap ((d:Int)+1)=(d:Int)+1:=zbI _ (by omega);clear H hN hkv hsn hs hSG hBS hNM hT hrl;go_enter_defers Tryz.func57,Tryz.ntmps57
 go_wp2_with (first|(go_at_call 45;refine(HN.out _ S1.out).mono ?_;rintro e w2 ⟨rfl,hs2,hb2⟩;have S2:=hid hs2;have E2:=hid (E1.out.step hrb hb2);have q2:=E2.out.q;have zl2:=E2.out.z.lt;have zq2:w.heap.size<w2.heap.size:=(by omega);have c22:=S2.out.c2;have f22:=S2.out.f2;have l22:=S2.out.lt;have hne:¬ rb=w2.heap.size:=(by omega);have hne2:¬ w2.heap.size=rb:=(by omega);clear hs2 hb2)|(go_at_call 95;obtain⟨e0,s0⟩:=ST.out _ rfl;refine(HSG.out _).mono ?_;rintro e w1 ⟨rfl,hb1⟩;have S1:=hid (s0.below hb1);have E1:=hid (e0.step hrb (aA.aF hb1 (zaA)));have q1:=E1.out.q;have k1:=E1.out.k1;have zl1:=E1.out.z.lt;clear hb1 e0 s0))
 obtain⟨W3,hW3⟩:∃ W3,(w2.setCell ⟨rb,2,none⟩ (.bool true)).alloc (.cells #[.int .u8 91,.string ⟨#[]⟩,.int .i64 0,.slice none 0 0] 51)=W3:=⟨_,rfl⟩;have L3:=start_blist (E2.out.step hrb (aA.set rb w2 2 (.bool true))) S2.out.fail W3 hW3;rw[show(w2.setCell ⟨rb,2,none⟩ (.bool true)).heap.size=w2.heap.size by simp] at L3;have L3:=hid L3;rw[hW3];clear hW3;go_loopw [7] (fun s7 wr=>s7=.int .i64 0/\wr=W3) (fun _ _=>0)
 case atStart=>exact⟨rfl,rfl⟩
 case round =>
  obtain⟨rfl,rfl⟩:=hrel;have hc2:=L3.out.br.c2;have hrw:=L3.out.br.lt;have hq:=L3.out.ent.q;have v0:=L3.out.bld.v0;have v1:=L3.out.bld.v1;have v2:=L3.out.bld.v2;have v3:=L3.out.bld.v3;have HVW:=hid L3.out.vw;have hbw:w2.heap.size<wr.heap.size:=by have:=L3.out.bld.sz;omega
  obtain⟨zl,zr0,zr1,zr2,zr3,zf0,zf1,zf2,zf3⟩:=L3.out.ent.z;go_wp2_with fail
  all_goals refine bdoor_out L3.out.ent L3.out.br hrb hd rfl ?_ (x0:=.int .u8 91) (x1:=.string ⟨#[]⟩) (x2:=.int .i64 0) (x3:=.slice none 0 0) (by simp[go_sem, *]) (by simp[go_sem, *]) (by simp[go_sem, *]) (by simp[go_sem, *]) (v:=.mk 91 [] 0 []) (VC.leaf 91 [] 0 (by omega) (by decide)) HRL.out (.inr ⟨HT.out,rfl⟩)
  all_goals repeat (first|with_reducible exact aA.refl _ _|with_reducible refine aA.drew ?_|with_reducible refine aA.trans ?_ (aA.set _ _ _ _))
theorem bval_list_any (x:Wf.Sc) (n rb sb:Nat) (W:World) (k:Wf.K) (s:List UInt8) (sk:Value) (d:Nat) (w:World) (hW:Below W.heap.size W w) (hWr:W.heap.size<=rb) (IH:Rb x sb W n k) (hsk:sk=.slice none 0 0) (hs:s.length<=600) (hd:n+1+d=13) (H:Br w rb sb s false sk d):Calls Tryz.prog 57 #[ptr rb,kV (.list k)] w fun e w'=>BvOut (Wf.getB x (n+1) (.list k) s) s rb sb sk d w e w':=by
 obtain⟨m,r,b,hm,hr,hc,hN⟩:=bnum_any s (by omega);have hN2:∀ wz,Br wz rb sb s false sk (d+1)->Calls Tryz.prog 45 #[ptr rb] wz fun e w'=>e=.returned (.int .i64 m)/\Br w' rb sb r b sk (d+1)/\aA rb wz w':=fun wz h=>by simpa using hN rb sb false sk (d+1) wz h
 have hL:=getB_list x n k s;rcases hc with⟨rfl,hg⟩|⟨rfl,hg,rfl,rfl⟩
 ·rw[hg] at hL
  dsimp only at hL;by_cases h20:m<=20
  ·rw[if_pos h20] at hL
   exact bval_list x n rb sb W k s r m false _ sk d w hW hWr IH hsk hs hd hr h20 hN2 hL (.inl ⟨rfl,by rw[Nat.sub_zero];cases Wf.getItems (Wf.getB x n k) m r <;> rfl⟩) H
  ·rw[if_neg h20] at hL
   exact bval_list_long x n rb sb k s r m sk d w hs (by omega) hr (by omega) hm hN2 hL H
 ·rw[hg] at hL
  exact bval_list x n rb sb W k s [] 0 true none sk d w hW hWr IH hsk hs hd hr (by omega) hN2 hL (.inr ⟨rfl,rfl⟩) H

theorem getB_enm {x:Wf.Sc} {nm:List UInt8} {t:Wf.Ty} (hf:x.find nm=some t) (h:t.sort=69) (n:Nat) (s:List UInt8):Wf.getB x (n+1) (.ref nm) s=match Wf.getN s with
  | none=>none
  | some (tag,rest)=>if (t.field tag).isSome then some (.mk 69 [] tag [],rest) else none:=by
 simp only[Wf.getB,hf,Wf.bF];rw[if_pos h];cases Wf.getN s <;> rfl
theorem bval_enm (x:Wf.Sc) (n rb sb:Nat) (W:World) (nm:List UInt8) (s:List UInt8) (sk:Value) (d:Nat) (w:World) (lo mb tb:Nat) (t:Wf.Ty) (hf:x.find nm=some t) (ht:t.fields.length<=1000) (hW:Below W.heap.size W w) (hWr:W.heap.size<=rb) (hsb:sb<W.heap.size) (c1:W.cell? ⟨sb,1,none⟩=some (.map (some mb))) (look:∀ wz,Below W.heap.size W wz->(Instr.lookup 114 (.map (some mb)) (.string ⟨nm.toArray⟩) false).run Tryz.prog wz=.ok (ptr tb) wz) (hT:TyL W lo tb t) (hq:t.sort=69) (hs:s.length<=600) (hd:d<=12) (H:Br w rb sb s false sk d):Calls Tryz.prog 57 #[ptr rb,kV (.ref nm)] w fun e w'=>BvOut (Wf.getB x (n+1) (.ref nm) s) s rb sb sk d w e w':=by
 have hrb:=H.lt;have hc0:=H.c0;have hc2:=H.c2;have hc4:=H.c4;have f2:=H.f2;have f4:=H.f4;have hrb1:rb<w.heap.size+1:=by omega
 have hrb2:rb<w.heap.size+1+1:=by omega
 have HW:=hid hW;have HLK:=hid look;have HC1:=hid c1;obtain⟨htb,hsc⟩:=hT.sort;rw[hq] at hsc;have HSC:=hid hsc;have HSG:=hid fun w2=>sign (.ref nm) w2;obtain⟨NM,hNM⟩:∃ NM:ByteArray,(⟨nm.toArray⟩:ByteArray)=NM:=⟨_,rfl⟩;have hkv:kV (.ref nm)=.agg #[.string ⟨#[]⟩,.string ⟨#[64]⟩,.string NM]:=by rw[<-hNM];rfl
 rw[hkv] at HSG ⊢;rw[hNM] at HLK;have hsn:bX (.ref nm)=0:=rfl;rw[hsn] at HSG;have ST:=hid fun W1 h=>start_bval H ⟨#[]⟩ ⟨#[64]⟩ NM W1 h;have hmf:∀ (fn:Fn) (first cap:Array Value) (w:World),(Instr.makeFunc fn first cap).run Tryz.prog w=.ok (.func fn first cap) w:=fun _ _ _ _=>rfl;have kd:IntKind.i64.wrap ((d:Int)+1)=(d:Int)+1:=zbI _ (by omega);have hsw:sb<w.heap.size:=zaC hsb hW.size;have htw:tb<w.heap.size:=zaC htb hW.size;obtain⟨m,r,b,hm,hr,hc,hN⟩:=bnum_any s (by omega);have HN:=hid fun(wz:World) (h:Br wz rb sb s false sk (d+1))=>hN rb sb false sk (d+1) wz h;simp only[Bool.false_or] at HN;have HRL:=hid hr;have HFD:=hid fun(w2:World) (hb:Below W.heap.size W w2)=>field t ht m lo tb W w2 hb hT;have hG:=getB_enm hf hq n s;cases hfi:t.field m with
 | none =>
  have HFD2:=hid fun(w2:World) (hb:Below W.heap.size W w2)=>(HFD.out w2 hb).mono (R:=fun e w'=>aS W t m e/\w2=w') (R':=fun e w'=>e=.returned (.pointer none)/\w2=w') fun e w' h=>⟨aS.no (W:=W) (t:=t) (g:=m) (e:=e) h.1 (by rw[cJ];exact hfi),h.2⟩;have HO:=hid (show Wf.getB x (n+1) (.ref nm) s=none by
   rw[hG];rcases hc with⟨_,h⟩|⟨_,h,_⟩
   ·rw[h];dsimp only;rw[hfi];rfl
   ·rw[h])
  clear H hN hc hr hkv hsn hs hNM hf hT look c1 hfi hG hW hsc;go_enter_defers Tryz.func57,Tryz.ntmps57
  go_wp2_with (go_at_call 95;obtain⟨e0,s0⟩:=ST.out _ rfl;refine(HSG.out _).mono ?_;rintro e w1 ⟨rfl,hb1⟩;have S1:=hid (s0.below hb1);have E1:=hid (e0.step hrb (aA.aF hb1 (zaA)));have q1:=E1.out.q;have k1:=E1.out.k1;have k2:=E1.out.k2;have zl1:=E1.out.z.lt;have BW1:=hid (aA.below HW.out HW.out.size hWr E1.out.fr);have s10:=S1.out.c0;have m1:=(BW1.out.cell (p:=⟨sb,1,none⟩) hsb).trans HC1.out;have t1:=(BW1.out.cell (p:=⟨tb,0,none⟩) htb).trans HSC.out;have hs1:=S1.out.lt;have hsb1:=zaC hsw E1.out.fr.size;have htb1:=zaC htw E1.out.fr.size;have hz1:w.heap.size<w1.heap.size:=(by omega);have hz2:w.heap.size+1<w1.heap.size:=(by omega);have l0:=HLK.out w1 BW1.out;have l1:=HLK.out w1.drew BW1.out.drew;clear hb1 e0 s0)
  go_region_held3 (fun w'=>w'.cell? ⟨w.heap.size,0,none⟩=some (ptr rb)/\w'.cell? ⟨rb,0,none⟩=some (ptr sb)/\w'.cell? ⟨sb,1,none⟩=some (.map (some mb))/\w'.cell? ⟨w.heap.size+1,2,none⟩=some (.string NM)/\(Instr.lookup 114 (.map (some mb)) (.string NM) false).run Tryz.prog w'=.ok (ptr tb) w') (go_keep) (fail)
  go_wp2_with (first|(go_at_call 40;have _u:=S2;refine(HFD2.out _ ((aA.below HW.out HW.out.size hWr E2.out.fr).alloc (by have:=HW.out.size;omega) _)).mono ?_;rintro e w3 ⟨rfl,rfl⟩)|(go_at_call 45;refine(HN.out _ (by first|exact S1.out.drewN 1|exact S1.out)).mono ?_;rintro e w2 ⟨rfl,hs2,hb2⟩;have S2:=hid hs2;have E2:=hid (E1.out.step hrb ((aA.drewN (aA.refl rb w1) 1).trans hb2));have q2:=E2.out.q;have hz22:w.heap.size<w2.heap.size:=(by have:=E2.out.z.lt;omega);have c22:=S2.out.c2;have f22:=S2.out.f2;have l22:=S2.out.lt;have hnw:W.heap.size<=w2.heap.size:=(by have:=HW.out.size;omega);have hne:¬ rb=w.heap.size+1+1:=(by omega);obtain⟨zl,zr0,zr1,zr2,zr3,zf0,zf1,zf2,zf3⟩:=E2.out.z;clear hs2 hb2))
  all_goals refine bdoor_out (E2.out.step hrb (aA.set rb w2 2 (.bool true))) S2.out.fail hrb hd rfl ?_ (x0:=.int .u8 69) (x1:=.string ⟨#[]⟩) (x2:=.int .i64 m) (x3:=.slice none 0 0) (by simp[go_sem, *]) (by simp[go_sem, *]) (by simp[go_sem, *]) (by simp[go_sem, *]) (v:=.mk 69 [] m []) (VC.leaf 69 [] m hm (by decide)) HRL.out (.inr ⟨HO.out,rfl⟩)
  all_goals repeat (first|with_reducible exact aA.refl _ _|with_reducible refine aA.drew ?_|with_reducible refine aA.alloc ?_ _|with_reducible refine aA.trans ?_ (aA.set _ _ _ _))
 | some f =>
  have HFD2:=hid fun(w2:World) (hb:Below W.heap.size W w2)=>(HFD.out w2 hb).mono (R:=fun e w'=>aS W t m e/\w2=w') (R':=fun e w'=>(∃ fb o,e=.returned (.pointer (some ⟨fb,o,none⟩)))/\w2=w') fun e w' h=>⟨let ⟨fb,o,he,_⟩:=aS.yes (W:=W) (t:=t) (g:=m) (e:=e) (f:=f) h.1 (by rw[cJ];exact hfi);⟨fb,o,he⟩,h.2⟩;have HO:=hid (show(Wf.getB x (n+1) (.ref nm) s=some (.mk 69 [] m [],r)/\b=false)\/(Wf.getB x (n+1) (.ref nm) s=none/\b=true) by
   rw[hG];rcases hc with⟨h1,h⟩|⟨h1,h,_⟩
   ·rw[h];dsimp only;rw[hfi];exact .inl ⟨rfl,h1⟩
   ·rw[h];exact .inr ⟨rfl,h1⟩)
  clear H hN hc hr hkv hsn hs hNM hf hT look c1 hfi hG hW hsc;go_enter_defers Tryz.func57,Tryz.ntmps57
  go_wp2_with (go_at_call 95;obtain⟨e0,s0⟩:=ST.out _ rfl;refine(HSG.out _).mono ?_;rintro e w1 ⟨rfl,hb1⟩;have S1:=hid (s0.below hb1);have E1:=hid (e0.step hrb (aA.aF hb1 (zaA)));have q1:=E1.out.q;have k1:=E1.out.k1;have k2:=E1.out.k2;have zl1:=E1.out.z.lt;have BW1:=hid (aA.below HW.out HW.out.size hWr E1.out.fr);have s10:=S1.out.c0;have m1:=(BW1.out.cell (p:=⟨sb,1,none⟩) hsb).trans HC1.out;have t1:=(BW1.out.cell (p:=⟨tb,0,none⟩) htb).trans HSC.out;have hs1:=S1.out.lt;have hsb1:=zaC hsw E1.out.fr.size;have htb1:=zaC htw E1.out.fr.size;have hz1:w.heap.size<w1.heap.size:=(by omega);have hz2:w.heap.size+1<w1.heap.size:=(by omega);have l0:=HLK.out w1 BW1.out;have l1:=HLK.out w1.drew BW1.out.drew;clear hb1 e0 s0)
  go_region_held3 (fun w'=>w'.cell? ⟨w.heap.size,0,none⟩=some (ptr rb)/\w'.cell? ⟨rb,0,none⟩=some (ptr sb)/\w'.cell? ⟨sb,1,none⟩=some (.map (some mb))/\w'.cell? ⟨w.heap.size+1,2,none⟩=some (.string NM)/\(Instr.lookup 114 (.map (some mb)) (.string NM) false).run Tryz.prog w'=.ok (ptr tb) w') (go_keep) (fail)
  go_wp2_with (first|(go_at_call 40;have _u:=S2;refine(HFD2.out _ ((aA.below HW.out HW.out.size hWr E2.out.fr).alloc (by have:=HW.out.size;omega) _)).mono ?_;rintro e w3 ⟨⟨fb,o,rfl⟩,rfl⟩)|(go_at_call 45;refine(HN.out _ (by first|exact S1.out.drewN 1|exact S1.out)).mono ?_;rintro e w2 ⟨rfl,hs2,hb2⟩;have S2:=hid hs2;have E2:=hid (E1.out.step hrb ((aA.drewN (aA.refl rb w1) 1).trans hb2));have q2:=E2.out.q;have hz22:w.heap.size<w2.heap.size:=(by have:=E2.out.z.lt;omega);have c22:=S2.out.c2;have f22:=S2.out.f2;have l22:=S2.out.lt;have hnw:W.heap.size<=w2.heap.size:=(by have:=HW.out.size;omega);have hne:¬ rb=w.heap.size+1+1:=(by omega);obtain⟨zl,zr0,zr1,zr2,zr3,zf0,zf1,zf2,zf3⟩:=E2.out.z;clear hs2 hb2))
  all_goals refine bdoor_out E2.out S2.out hrb hd rfl ?_ (x0:=.int .u8 69) (x1:=.string ⟨#[]⟩) (x2:=.int .i64 m) (x3:=.slice none 0 0) (by simp[go_sem, *]) (by simp[go_sem, *]) (by simp[go_sem, *]) (by simp[go_sem, *]) (v:=.mk 69 [] m []) (VC.leaf 69 [] m hm (by decide)) HRL.out HO.out
  all_goals repeat (first|with_reducible exact aA.refl _ _|with_reducible refine aA.drew ?_|with_reducible refine aA.alloc ?_ _|with_reducible refine aA.trans ?_ (aA.set _ _ _ _))
