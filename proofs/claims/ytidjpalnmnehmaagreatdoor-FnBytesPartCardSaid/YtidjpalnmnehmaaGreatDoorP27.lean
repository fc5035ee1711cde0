/- Packed. -/
import Derived.Test.YtidjpalnmnehmaaGreatDoorP26
set_option maxRecDepth 99999
set_option maxHeartbeats 40000000
set_option linter.all false
namespace Go.Proofs.YtidjpalnmnehmaaGreatDoor
open Go.ChangeShapes Go.WideShapes Go.ChangeAt Go.RowKit Go.Lib
structure Blk (wr:World) (b q g:Nat):Prop where
 lt:b<wr.heap.size
 r0:wr.cell? ⟨b,0,none⟩=some (.int .u8 q)
 r1:wr.cell? ⟨b,1,none⟩=some (.string ⟨#[]⟩)
 r2:wr.cell? ⟨b,2,none⟩=some (.int .i64 g)
 r3:wr.cell? ⟨b,3,none⟩=some (.slice none 0 0)
 f2:wr.frozen? ⟨b,2,none⟩=false
 f3:wr.frozen? ⟨b,3,none⟩=false
theorem Blk.step {wr w2:World} {b rb q g:Nat} (h:Blk wr b q g) (hb:aA rb wr w2) (hr:b≠rb):Blk w2 b q g:=by
 have h1:=hb.block _ h.lt hr;have cd:=fun o=>World.cell?_of_block (w:=wr) (w':=w2) (a:=⟨b,o,none⟩) h1;have cf:=fun o=>World.frozen?_of_block (w:=wr) (w':=w2) (a:=⟨b,o,none⟩) h1;exact⟨Nat.lt_of_lt_of_le h.lt hb.size,(cd 0).trans h.r0,(cd 1).trans h.r1,(cd 2).trans h.r2,(cd 3).trans h.r3,(cf 2).trans h.f2,(cf 3).trans h.f3⟩
theorem mM (w:World) (q:Nat) (W1:World) (hW1:(w.alloc (.cells #[.int .u8 0,.string ⟨#[]⟩,.int .i64 0,.slice none 0 0] 51)).alloc (.cells #[.int .u8 q,.string ⟨#[]⟩,.int .i64 0,.slice none 0 0] 51)=W1) :
  Zero W1 w.heap.size/\Blk W1 (w.heap.size+1) q 0/\Below w.heap.size w W1:=by
 have hB:Below w.heap.size w W1:=by
  rw[<-hW1];exact(((Below.refl _ _).alloc (Nat.le_refl _) _).alloc (by simp) _)
 subst hW1;refine⟨⟨?_,?_,?_,?_,?_,?_,?_,?_,?_⟩,⟨?_,?_,?_,?_,?_,?_,?_⟩,hB⟩;all_goals first|(simp[go_sem];done)|(simp[go_sem];omega)
section
variable (rb sb:Nat) (W:World) (t:Wf.Ty) (s:List UInt8) (w:World)
theorem kD (s1 s2:List UInt8) (b1 b2:Bool) (m:Nat) (hm:m<=999999) (hwant:∀ w2,Sn w2 rb sb s false->Calls Tryz.prog 113 #[ptr rb,tx [35]] w2 fun e w'=>e=.returned (.tuple #[])/\Sn w' rb sb s1 b1/\aA rb w2 w') (hnum:∀ w2,Sn w2 rb sb s1 b1->Calls Tryz.prog 114 #[ptr rb,.int .i64 (200:Nat)] w2 fun e w'=>e=.returned (.int .i64 m)/\Sn w' rb sb s2 b2/\aA rb w2 w') (ht:t.fields.length<=1000) (lo tb:Nat) (hW:Below W.heap.size W w) (hT:TyL W lo tb t) (h69:t.sort=69) (hWr:W.heap.size<=rb) (H:Sn w rb sb s false):Calls Tryz.prog 116 #[ptr rb,ptr tb] w fun e w'=>e=.returned (.agg #[.int .u8 69,.string ⟨#[]⟩,.int .i64 m,.slice none 0 0])/\aA rb w w'/\Sn w' rb sb s2 (b2 || (t.field m).isNone):=by
 obtain⟨htb,c0⟩:=hT.sort;rw[h69] at c0;have HFD:=hid fun(w2:World) (hb:Below W.heap.size W w2)=>field t ht m lo tb W w2 hb hT;have y0:w.cell? ⟨tb,0,none⟩=some (.int .u8 69):=(hW.cell (p:=⟨tb,0,none⟩) htb).trans c0;have htw:tb<w.heap.size:=Nat.lt_of_lt_of_le htb hW.size;have htw1:tb<w.heap.size+1:=by omega
 have HWANT:=hid hwant;have HNUM:=hid hnum;have HW:=hid hW;have HH:=hid H;have hrb:=H.lt;have ST:=hid fun W1 h=>mM w 69 W1 h;clear hwant hnum hW H hT c0 h69;cases hfi:t.field m with
 | none =>
  have HFD2:=hid fun(w2:World) (hb:Below W.heap.size W w2)=>(HFD.out w2 hb).mono (R:=fun e w'=>bO W t m e/\w2=w') (R':=fun e w'=>e=.returned (.pointer none)/\w2=w') fun e w' h=>⟨bO.no (W:=W) (t:=t) (g:=m) (e:=e) h.1 (by rw[eW];exact hfi),h.2⟩;clear hfi;go_enter Tryz.func116,Tryz.ntmps116;go_wp2_with (first|(go_at_call 40;refine(HFD2.out _ (Below.setCell BW2.out (p:=⟨w.heap.size+1,2,none⟩) (by have:=HW.out.size;show W.heap.size<=w.heap.size+1;omega) _)).mono ?_;rintro e w3 ⟨rfl,rfl⟩)|(go_at_call 114;refine(HNUM.out _ S1.out).mono ?_;rintro e w2 ⟨rfl,hs2,hb2⟩;have S2:=hid hs2;have HB2:=hid (HB1.out.trans hb2);have BW2:=hid (aA.below HW.out HW.out.size hWr HB2.out);have Z2:=hid (Z1.out.step hb2 (by omega));have K2:=hid (K1.out.step hb2 (by omega));obtain⟨zl,zr0,zr1,zr2,zr3,zf0,zf1,zf2,zf3⟩:=Z2.out;obtain⟨kl,kr0,kr1,kr2,kr3,kf2,kf3⟩:=K2.out;have c2:=hs2.c2;have f2:=hs2.f2;have hlt:=hs2.lt;clear hs2 hb2)|(go_at_call 113;obtain⟨zz0,bk0,b0⟩:=ST.out _ rfl;refine(HWANT.out _ (HH.out.below b0)).mono ?_;rintro e w1 ⟨rfl,hs1,hb1⟩;have Z1:=hid (zz0.step hb1 (by omega));have K1:=hid (bk0.step hb1 (by omega));have S1:=hid hs1;have HB1:=hid ((aA.aI b0 (Nat.le_refl _)).trans hb1);clear zz0 bk0 b0 hs1 hb1))
  exact bodyPost_ret (v:=.agg #[.int .u8 69,.string ⟨#[]⟩,.int .i64 m,.slice none 0 0]) (by simp[results,Tryz.results116,go_sem, *]) rfl (by
   have sA:Sn (w2.setCell ⟨w.heap.size+1,2,none⟩ (.int .i64 m)) rb sb s2 b2:=S2.out.beside (aA.set (w.heap.size+1) w2 2 _) (by omega);have hA:aA rb w (w2.setCell ⟨w.heap.size+1,2,none⟩ (.int .i64 m)):=HB2.out.on (aA.set (w.heap.size+1) w2 2 _) (by omega);have hR:∀ W4,aA w.heap.size ((w2.setCell ⟨w.heap.size+1,2,none⟩ (.int .i64 m)).setCell ⟨rb,2,none⟩ (.bool true)) W4->(Ending.returned (.agg #[.int .u8 69,.string ⟨#[]⟩,.int .i64 m,.slice none 0 0])=.returned (.agg #[.int .u8 69,.string ⟨#[]⟩,.int .i64 m,.slice none 0 0])/\aA rb w W4/\Sn W4 rb sb s2 (b2 || (none:Option Wf.Fd).isNone)):=fun W4 hb=>by
    refine⟨rfl,(hA.trans (aA.set rb _ 2 _)).on hb (Nat.le_refl _),?_⟩;rw[Option.isNone_none,Bool.or_true];exact sA.fail.beside hb (by omega)
   refine hR _ ?_;repeat (first|with_reducible exact aA.refl _ _|with_reducible refine aA.drew ?_|with_reducible refine aA.trans ?_ (aA.set _ _ _ _)))
 | some f =>
  have HFD2:=hid fun(w2:World) (hb:Below W.heap.size W w2)=>(HFD.out w2 hb).mono (R:=fun e w'=>bO W t m e/\w2=w') (R':=fun e w'=>(∃ fb o,e=.returned (.pointer (some ⟨fb,o,none⟩)))/\w2=w') fun e w' h=>⟨let ⟨fb,o,he,_⟩:=bO.yes (W:=W) (t:=t) (g:=m) (e:=e) (f:=f) h.1 (by rw[eW];exact hfi);⟨fb,o,he⟩,h.2⟩;clear hfi;go_enter Tryz.func116,Tryz.ntmps116;go_wp2_with (first|(go_at_call 40;refine(HFD2.out _ (Below.setCell BW2.out (p:=⟨w.heap.size+1,2,none⟩) (by have:=HW.out.size;show W.heap.size<=w.heap.size+1;omega) _)).mono ?_;rintro e w3 ⟨⟨fb,o,rfl⟩,rfl⟩)|(go_at_call 114;refine(HNUM.out _ S1.out).mono ?_;rintro e w2 ⟨rfl,hs2,hb2⟩;have S2:=hid hs2;have HB2:=hid (HB1.out.trans hb2);have BW2:=hid (aA.below HW.out HW.out.size hWr HB2.out);have Z2:=hid (Z1.out.step hb2 (by omega));have K2:=hid (K1.out.step hb2 (by omega));obtain⟨zl,zr0,zr1,zr2,zr3,zf0,zf1,zf2,zf3⟩:=Z2.out;obtain⟨kl,kr0,kr1,kr2,kr3,kf2,kf3⟩:=K2.out;have c2:=hs2.c2;have f2:=hs2.f2;have hlt:=hs2.lt;clear hs2 hb2)|(go_at_call 113;obtain⟨zz0,bk0,b0⟩:=ST.out _ rfl;refine(HWANT.out _ (HH.out.below b0)).mono ?_;rintro e w1 ⟨rfl,hs1,hb1⟩;have Z1:=hid (zz0.step hb1 (by omega));have K1:=hid (bk0.step hb1 (by omega));have S1:=hid hs1;have HB1:=hid ((aA.aI b0 (Nat.le_refl _)).trans hb1);clear zz0 bk0 b0 hs1 hb1))
  exact bodyPost_ret (v:=.agg #[.int .u8 69,.string ⟨#[]⟩,.int .i64 m,.slice none 0 0]) (by simp[results,Tryz.results116,go_sem, *]) rfl (by
   have sA:Sn (w2.setCell ⟨w.heap.size+1,2,none⟩ (.int .i64 m)) rb sb s2 b2:=S2.out.beside (aA.set (w.heap.size+1) w2 2 _) (by omega);have hA:aA rb w (w2.setCell ⟨w.heap.size+1,2,none⟩ (.int .i64 m)):=HB2.out.on (aA.set (w.heap.size+1) w2 2 _) (by omega);have hR:∀ W4,aA w.heap.size (w2.setCell ⟨w.heap.size+1,2,none⟩ (.int .i64 m)) W4->(Ending.returned (.agg #[.int .u8 69,.string ⟨#[]⟩,.int .i64 m,.slice none 0 0])=.returned (.agg #[.int .u8 69,.string ⟨#[]⟩,.int .i64 m,.slice none 0 0])/\aA rb w W4/\Sn W4 rb sb s2 (b2 || (some f).isNone)):=fun W4 hb=>by
    refine⟨rfl,hA.on hb (Nat.le_refl _),?_⟩;rw[Option.isNone_some,Bool.or_false];exact sA.beside hb (by omega)
   refine hR _ ?_;repeat (first|with_reducible exact aA.refl _ _|with_reducible refine aA.drew ?_|with_reducible refine aA.trans ?_ (aA.set _ _ _ _)))
theorem wN (x:Wf.Sc) (n:Nat) (nm:List UInt8) (hs:s.length<=400) (hf:x.find nm=some t) (ht:t.fields.length<=1000) (lo tb:Nat) (hW:Below W.heap.size W w) (hT:TyL W lo tb t) (h69:t.sort=69) (hWr:W.heap.size<=rb) (H:Sn w rb sb s false):Calls Tryz.prog 116 #[ptr rb,ptr tb] w fun e w'=>aQ (Wf.parse x (n+1) (.ref nm) s) s rb sb w e w':=by
 have fin:∀ (m:Nat) (s2:List UInt8) (bad:Bool),m<=999999->((bad=false/\Wf.parse x (n+1) (.ref nm) s=some (.mk 69 [] m [],s2))\/(bad=true/\Wf.parse x (n+1) (.ref nm) s=none/\s2.length<=s.length))->∀ e w',(e=.returned (.agg #[.int .u8 69,.string ⟨#[]⟩,.int .i64 m,.slice none 0 0])/\aA rb w w'/\Sn w' rb sb s2 bad)->aQ (Wf.parse x (n+1) (.ref nm) s) s rb sb w e w':=by
  rintro m s2 bad hm h e w' ⟨rfl,hb,hsn⟩;refine⟨_,.mk 69 [] m [],s2,rfl,VC.leaf 69 [] m hm (by decide),hb,?_⟩;rcases h with⟨rfl,hp⟩|⟨rfl,hp,hl⟩
  ·exact .inl ⟨hp,hsn⟩
  ·exact .inr ⟨hp,Wf.uS hm hl,hsn⟩
 have dl:∀ r:List UInt8,(r.dropWhile Wf.aB).length<=r.length:=fun r=>(List.dropWhile_suffix _).length_le;by_cases h35:s.head? = some 35
 ·obtain⟨r,rfl⟩:∃ r,s=35::r:=by
   cases s with
   | nil=>simp at h35
   | cons a r=>simp at h35;exact⟨r,by rw[h35]⟩
  have hr4:r.length<=400:=by simp at hs;omega
  cases hn:Wf.aO 200 r with
  | none =>
   have h1:Wf.aG (r.takeWhile Wf.aB) 200=none:=(by simpa[Wf.aO] using hn);refine(kD rb sb W t _ w r (r.dropWhile Wf.aB) false true (numV (r.takeWhile Wf.aB)) (fZ _) (fun w2 h=>bR rb sb w2 [35] r h) (fun w2 h=>(number rb sb w2 r false 200 (by omega) (by omega) h).mono fun e w' h=>by rw[h1] at h;exact h) ht lo tb hW hT h69 hWr H).mono fun e w' h=>?_;rw[Bool.true_or] at h;exact fin _ _ true (fZ _) (.inr ⟨rfl,Wf.oU x n hf h69 hn,by have:=dl r;simp;omega⟩) e w' h
  | some y =>
   obtain⟨g,q⟩:=y;have hg:=(Wf.iG hn).2.1;have hp:=Wf.kB x n hf h69 hn;refine(kD rb sb W t _ w r q false false g (by omega) (fun w2 h=>bR rb sb w2 [35] r h) (fun w2 h=>pT rb sb w2 r q false 200 g (by omega) (by omega) h hn) ht lo tb hW hT h69 hWr H).mono fun e w' h=>?_;cases hfi:t.field g with
   | none =>
    rw[hfi] at h hp;exact fin g q true (by omega) (.inr ⟨rfl,by rw[hp];rfl,by have:=Wf.iF hn;simp;omega⟩) e w' h
   | some f =>
    rw[hfi] at h hp;exact fin g q false (by omega) (.inl ⟨rfl,by rw[hp];rfl⟩) e w' h
 ·refine(kD rb sb W t s w s (s.dropWhile Wf.aB) true true (numV (s.takeWhile Wf.aB)) (fZ _) (fun w2 h=>bT rb sb w2 s [35] false h (.inr fun hp=>h35 ((pre1 35 s).1 hp))) (fun w2 h=>(number rb sb w2 s true 200 (by omega) (by omega) h).mono fun e w' h=>by rw[Bool.true_or] at h;exact h) ht lo tb hW hT h69 hWr H).mono fun e w' h=>?_
  rw[Bool.true_or] at h;exact fin _ _ true (fZ _) (.inr ⟨rfl,Wf.sE x n hf h69 h35,dl s⟩) e w' h
end
