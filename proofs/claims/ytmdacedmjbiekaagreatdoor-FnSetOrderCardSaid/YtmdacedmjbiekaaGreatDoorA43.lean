/- Packed. -/
import Derived.Test.YtmdacedmjbiekaaGreatDoorA42
set_option maxRecDepth 99999
set_option maxHeartbeats 40000000
set_option linter.all false
namespace Go.Proofs.YtmdacedmjbiekaaGreatDoor
open Go.ChangeShapes Go.WideShapes Go.ChangeAt Go.RowKit Go.Lib
theorem xK {S:ByteArray} {c:UInt8} {q:List UInt8} (h:S.data.toList=c::q):S.toList.isEmpty=false/\S.toList≠[]/\0<S.size/\1<=S.size/\(∀ h,(S[0]'h).toNat=c.toNat)/\(S.extract 1 S.size).data.toList=q:=by
 rcases gE S with⟨h1,_⟩|⟨c',q',h1,h2,h3,h4,h5,h6⟩
 ·rw[h] at h1;cases h1
 ·rw[h] at h1
  cases h1;exact⟨h2,h3,h4,h4,h5,by rw[h6]⟩
section
variable (x:Wf.Sc) (v:Value) (W:World) (n:Nat) (S KT:ByteArray) (D:Int) (w:World) (o:Option (Wf.V × List UInt8))
theorem pF (h:S.toList.isEmpty=true\/(S.toList.isEmpty=false/\decide (D<1)=true)) (ho:o=none):Calls Tryz.prog 63 #[.agg #[v],.string S,.string KT,.int .i64 D] w fun e w'=>aD o w e w'/\Below w.heap.size w w':=by
 have HO:=hid ho;clear ho;rcases h with h|⟨h,h2⟩;all_goals
  go_enter Tryz.func63,Tryz.ntmps63;go_wp2_with fail
  all_goals exact bodyPost_ret (v:=.tuple #[.pointer none,.string S,.bool false]) (by simp[results,Tryz.results63,go_sem, *]) rfl ⟨aD.no HO.out ⟨_,_,rfl⟩,(Below.refl _ _).alloc (Nat.le_refl _) _⟩
theorem lW (hS:S.toList.isEmpty=false) (hD:decide (D<1)=false) (q:Nat) (hk0:0<KT.size) (ek:∀ h,(KT[0]'h).toNat=q) (hq:q=110\/q=116\/q=102)
  (hp:∀ wz,Calls Tryz.prog 97 #[.agg #[v],.string S,.string KT] wz fun e w'=>aD o wz e w'/\Below wz.heap.size wz w') :
  Calls Tryz.prog 63 #[.agg #[v],.string S,.string KT,.int .i64 D] w fun e w'=>aD o w e w'/\Below w.heap.size w w':=by
 have HP:=hid hp;clear hp;rcases hq with rfl|rfl|rfl;all_goals
  go_enter Tryz.func63,Tryz.ntmps63;go_wp2_with (go_at_call 97;refine(HP.out _).mono ?_;rintro e w7 ⟨ho,hb7⟩;obtain⟨p,r,b,rfl,hlr⟩:=ho.form;have HLR:=hid hlr;have HB7:=hid (aC ((Below.refl w.heap.size w).alloc (Nat.le_refl _) _) hb7);clear ho hb7 hlr)
  all_goals exact bodyPost_ret (v:=.tuple #[.pointer p,.string r,.bool b]) (by simp[results,Tryz.results63,go_sem, *]) rfl ⟨HLR.out.mono (by simp),HB7.out⟩
theorem a6P (hS:S.toList.isEmpty=false) (hD:decide (D<1)=false) (hk0:0<KT.size) (ek:∀ h,(KT[0]'h).toNat=64)
  (hp:∀ wz,Below w.heap.size w wz->Calls Tryz.prog 96 #[.agg #[v],.string S,.string KT,.int .i64 D] wz fun e w'=>aD o wz e w'/\Below wz.heap.size wz w') :
  Calls Tryz.prog 63 #[.agg #[v],.string S,.string KT,.int .i64 D] w fun e w'=>aD o w e w'/\Below w.heap.size w w':=by
 have HP:=hid hp;clear hp;go_enter Tryz.func63,Tryz.ntmps63;go_wp2_with (go_at_call 96;refine(HP.out _ ((Below.refl _ _).alloc (Nat.le_refl _) _)).mono ?_;rintro e w7 ⟨ho,hb7⟩;obtain⟨p,r,b,rfl,hlr⟩:=ho.form;have HLR:=hid hlr;have HB7:=hid (aC ((Below.refl w.heap.size w).alloc (Nat.le_refl _) _) hb7);clear ho hb7 hlr)
 all_goals exact bodyPost_ret (v:=.tuple #[.pointer p,.string r,.bool b]) (by simp[results,Tryz.results63,go_sem, *]) rfl ⟨HLR.out.mono (by simp),HB7.out⟩
theorem a2F (hS:S.toList.isEmpty=false) (h0:0<S.size) (hD:decide (D<1)=false) (hk0:0<KT.size) (ek:∀ h,(KT[0]'h).toNat=91) (b0:Nat) (e1:∀ h,(S[0]'h).toNat=b0) (m1:((b0:Int) != 91)=true) (ho:o=none) :
  Calls Tryz.prog 63 #[.agg #[v],.string S,.string KT,.int .i64 D] w fun e w'=>aD o w e w'/\Below w.heap.size w w':=by
 have HO:=hid ho;clear ho;go_enter Tryz.func63,Tryz.ntmps63;go_wp2_with fail
 all_goals exact bodyPost_ret (v:=.tuple #[.pointer none,.string S,.bool false]) (by simp[results,Tryz.results63,go_sem, *]) rfl ⟨aD.no HO.out ⟨_,_,rfl⟩,(Below.refl _ _).alloc (Nat.le_refl _) _⟩
theorem a1G (R:ByteArray) (hS:S.toList.isEmpty=false) (h0:0<S.size) (h1:1<=S.size) (hR:S.extract 1 S.size=R) (hD:decide (D<1)=false) (hk0:0<KT.size) (ek:∀ h,(KT[0]'h).toNat=91) (e1:∀ h,(S[0]'h).toNat=91)
  (hp:∀ wz,Below w.heap.size w wz->Calls Tryz.prog 95 #[.agg #[v],.string R,.string KT,.int .i64 D] wz fun e w'=>aD o wz e w'/\Below wz.heap.size wz w') :
  Calls Tryz.prog 63 #[.agg #[v],.string S,.string KT,.int .i64 D] w fun e w'=>aD o w e w'/\Below w.heap.size w w':=by
 have HP:=hid hp;have kx:∀ wz,(Instr.slice 9 (.string S) (some (.int .i64 1)) none none).run Tryz.prog wz=.ok (.string R) wz:=fun wz=>by
  have h:=bL S 1 h1 wz;rw[hR] at h;exact h
 clear hp hR;have c0:(w.alloc (.cells #[v] 109)).cell? ⟨w.heap.size,0,none⟩=some v:=by simp[go_sem]
 have B3:=hid ((Below.refl w.heap.size w).alloc (Nat.le_refl _) (.cells #[v] 109));have hl3:w.heap.size<(w.alloc (.cells #[v] 109)).heap.size:=by simp
 go_enter Tryz.func63,Tryz.ntmps63;go_wp2_with fail
 obtain⟨W3,hW3⟩:∃ W3,w.alloc (.cells #[v] 109)=W3:=⟨_,rfl⟩;rw[hW3] at c0 B3 hl3;rw[hW3];clear hW3;go_region_held3 (fun w'=>w'.cell? ⟨w.heap.size,0,none⟩=some v) (first|exact j0|go_keep) ((go_at_call 95;refine(HP.out W3.drew B3.out.drew).mono ?_;rintro e w7 ⟨ho,hb7⟩;obtain⟨p,r,b,rfl,hlr⟩:=ho.form;have HLR:=hid hlr;have HB7:=hid (Below.drew (Below.refl W3.heap.size W3) |>.trans hb7);have j0:=(HB7.out.cell (p:=⟨w.heap.size,0,none⟩) hl3).trans c0;clear ho hb7 hlr))
 all_goals (go_wp2_with fail)
 all_goals exact bodyPost_ret (v:=.tuple #[.pointer p,.string r,.bool b]) (by simp[results,Tryz.results63,go_sem, *]) rfl ⟨HLR.out.mono B3.out.size,B3.out.trans (HB7.out.mono B3.out.size)⟩
theorem a0S (hS:S.toList.isEmpty=false) (h0:0<S.size) (hD:decide (D<1)=false) (hk0:0<KT.size) (ek:∀ h,(KT[0]'h).toNat=63) (b0:Nat) (e1:∀ h,(S[0]'h).toNat=b0) (m0:((b0:Int)==45)=false) (m1:((b0:Int) != 43)=true) (ho:o=none) :
  Calls Tryz.prog 63 #[.agg #[v],.string S,.string KT,.int .i64 D] w fun e w'=>aD o w e w'/\Below w.heap.size w w':=by
 have HO:=hid ho;clear ho;go_enter Tryz.func63,Tryz.ntmps63;go_wp2_with fail
 all_goals exact bodyPost_ret (v:=.tuple #[.pointer none,.string S,.bool false]) (by simp[results,Tryz.results63,go_sem, *]) rfl ⟨aD.no HO.out ⟨_,_,rfl⟩,(Below.refl _ _).alloc (Nat.le_refl _) _⟩
theorem zD (R:ByteArray) (hS:S.toList.isEmpty=false) (h0:0<S.size) (h1:1<=S.size) (hR:S.extract 1 S.size=R) (hD:decide (D<1)=false) (hk0:0<KT.size) (ek:∀ h,(KT[0]'h).toNat=63) (hk:KT.data.toList.head? = some 63) (e1:∀ h,(S[0]'h).toNat=45) (ho:o=some (.mk 63 [] 0 [],R.data.toList)) :
  Calls Tryz.prog 63 #[.agg #[v],.string S,.string KT,.int .i64 D] w fun e w'=>aD o w e w'/\Below w.heap.size w w':=by
 have HO:=hid ho;have HKH:=hid hk;have kx:∀ wz,(Instr.slice 9 (.string S) (some (.int .i64 1)) none none).run Tryz.prog wz=.ok (.string R) wz:=fun wz=>by
  have h:=bL S 1 h1 wz;rw[hR] at h;exact h
 clear ho hR hk;go_enter Tryz.func63,Tryz.ntmps63;go_wp2_with fail
 go_region
 all_goals (go_wp2_with fail)
 all_goals exact bodyPost_ret (v:=.tuple #[ptr (w.heap.size+1),.string R,.bool true]) (by simp[results,Tryz.results63,go_sem, *]) rfl (by
  have hR:∀ W3:World,W3.heap.size=w.heap.size+1->Below w.heap.size w W3->(aD o w (.returned (.tuple #[ptr (w.heap.size+1),.string R,.bool true])) (W3.alloc (.cells #[.string KT,.string ⟨#[]⟩,.slice none 0 0,.slice none 0 0] 142))/\Below w.heap.size w (W3.alloc (.cells #[.string KT,.string ⟨#[]⟩,.slice none 0 0,.slice none 0 0] 142))):=fun W3 h1 h2=>by
   refine⟨aD.yes HO.out ⟨w.heap.size+1,rfl,?_⟩,h2.alloc h2.size _⟩;rw[<-h1];exact LV.new (kd:=KT.data.toList) (t:=[]) (by decide) ⟨HKH.out,rfl⟩ rfl h2.size (by simp) (by first|(simp[go_sem];done)|(simp[go_sem];rfl)) (by first|(simp[go_sem];done)|(simp[go_sem];rfl)) (by simp[go_sem]) (by simp[go_sem])
  have hb:=(Below.refl w.heap.size w).alloc (Nat.le_refl _) (.cells #[v] 109);first|exact hR _ (by simp) hb|exact hR _ (by simp) hb.drew)
theorem a0G (k:Wf.K) (R K1:ByteArray) (hS:S.toList.isEmpty=false) (h0:0<S.size) (h1:1<=S.size) (hR:S.extract 1 S.size=R) (hD:decide (D<1)=false) (hk0:0<KT.size) (hk1:1<=KT.size) (hK1:KT.extract 1 KT.size=K1) (ek:∀ h,(KT[0]'h).toNat=63) (hk:KT.data.toList.head? = some 63) (e1:∀ h,(S[0]'h).toNat=43) (kd:IntKind.i64.wrap (D-1)=(n:Int)) (o1:Option (Wf.V × List UInt8)) (ho:o=o1.map fun y=>(.mk 63 [] 0 [y.1],y.2))
  (hp:∀ wz,Below w.heap.size w wz->Calls Tryz.prog 63 #[.agg #[v],.string R,.string K1,.int .i64 n] wz fun e w'=>aD o1 wz e w'/\Below wz.heap.size wz w') :
  Calls Tryz.prog 63 #[.agg #[v],.string S,.string KT,.int .i64 D] w fun e w'=>aD o w e w'/\Below w.heap.size w w':=by
 have HP:=hid hp;have HKH:=hid hk;have HO:=hid ho;have kx:∀ wz,(Instr.slice 9 (.string S) (some (.int .i64 1)) none none).run Tryz.prog wz=.ok (.string R) wz:=fun wz=>by
  have h:=bL S 1 h1 wz;rw[hR] at h;exact h
 have ky:∀ wz,(Instr.slice 9 (.string KT) (some (.int .i64 1)) none none).run Tryz.prog wz=.ok (.string K1) wz:=fun wz=>by
  have h:=bL KT 1 hk1 wz;rw[hK1] at h;exact h
 clear hp hR hK1 hk ho;have c0:(w.alloc (.cells #[v] 109)).cell? ⟨w.heap.size,0,none⟩=some v:=by simp[go_sem]
 have B3:=hid ((Below.refl w.heap.size w).alloc (Nat.le_refl _) (.cells #[v] 109));have hl3:w.heap.size<(w.alloc (.cells #[v] 109)).heap.size:=by simp
 go_enter Tryz.func63,Tryz.ntmps63;go_wp2_with fail
 obtain⟨W3,hW3⟩:∃ W3,w.alloc (.cells #[v] 109)=W3:=⟨_,rfl⟩;rw[hW3] at c0 B3 hl3;rw[hW3];clear hW3;go_region_held3 (fun w'=>w'.cell? ⟨w.heap.size,0,none⟩=some v) (first|exact j0|go_keep) ((go_at_call 63;refine(HP.out W3.drew B3.out.drew).mono ?_;rintro e w7 ⟨ho,hb7⟩;obtain⟨p,r,b,rfl,hlr⟩:=ho.form;have HLR:=hid hlr;have HB7:=hid (Below.drew (Below.refl W3.heap.size W3) |>.trans hb7);have j0:=(HB7.out.cell (p:=⟨w.heap.size,0,none⟩) hl3).trans c0;clear ho hb7 hlr))
 all_goals (go_wp2_with fail)
 all_goals exact bodyPost_ret (v:=.tuple #[ptr (w7.heap.size+1),.string r,.bool b]) (by simp[results,Tryz.results63,go_sem, *]) rfl (by
  have hle:=Nat.le_trans B3.out.size HB7.out.size;have h7:=B3.out.trans (HB7.out.mono B3.out.size);refine⟨?_,(h7.alloc hle _).alloc (by simp;omega) _⟩;have hl:=HLR.out;cases ho1:o1 with
  | none =>
   rw[ho1] at hl;obtain⟨p',r',he⟩:=hl;obtain⟨_,_,e2⟩:=three he;injection e2 with e2;subst e2;exact aD.no (by rw[HO.out,ho1];rfl) ⟨_,_,rfl⟩
  | some y =>
   rw[ho1] at hl;obtain⟨b',he,hlv⟩:=hl;obtain⟨e0,e1,e2⟩:=three he;injection e0 with e0;injection e1 with e1;injection e2 with e2;subst e0 e1 e2;refine aD.yes (v:=.mk 63 [] 0 [y.1]) (r:=y.2) (by rw[HO.out,ho1];rfl) ⟨w7.heap.size+1,rfl,LV.opt1 (kb:=w7.heap.size) (u:=b') (KT:=KT) (by omega) hle (by first|(simp;done)|(simp;omega)) (by first|(simp;done)|(simp;omega)) HKH.out ?_ ?_ ?_ ?_ ?_ ?_ (LV.mono (LV.below (LV.below hlv ((Below.refl _ _).alloc (Nat.le_refl _) _)) ((Below.refl _ _).alloc (Nat.le_refl _) _)) fun z hz _=>by have:=B3.out.size;have:W3.drew.heap.size=W3.heap.size:=rfl;omega)⟩;all_goals (simp[go_sem];done))
end

theorem nH {x:Wf.Sc} {v:Value} {W:World} (hx:Wf.ScOk x) (lo bsc:Nat) (hsp:ScSp W lo bsc v x) {nm:List UInt8} {t:Wf.Ty} (hf:x.find nm=some t) (hnm:(Wf.K.ref nm).text.length<=1000000) (q:Nat) (hq:t.sort.toNat=q) (wz:World) (hz:Below W.heap.size W wz):Calls Tryz.prog 87 #[v,tx (Wf.K.ref nm).text] wz fun e w'=>(∃ fb fa fc,e=.returned (.tuple #[.agg #[.int .u8 q,.string ⟨t.name.toArray⟩,.slice fa t.fields.length fc],.bool true])/\RowK W fb (.slice fa t.fields.length fc) 4 (t.fields.map (fdS t.sort)))/\Below wz.heap.size wz w':=by
 rw[<-hq];exact a5C x v W t nm hx lo bsc hsp hf hnm wz hz
theorem mT (x:Wf.Sc) (hx:Wf.ScOk x) (v:Value) (lo bsc:Nat) (W:World) (hsp:ScSp W lo bsc v x):∀ (n:Nat),n<=1000->∀ (k:Wf.K),KOk x k->LR x v W n k:=by
 intro n;induction n with
 | zero =>
  intro _ k hk S w hS hW;refine pF v S ⟨k.text.toArray⟩ (0:Nat) w _ ?_ (Wf.zX x k _);by_cases h:S.toList.isEmpty=true
  ·exact .inl h
  ·exact .inr ⟨by simpa using h,by decide⟩
 | succ n ih =>
  intro hn k hk S w hS hW;have hD:decide (((n+1:Nat):Int)<1)=false:=decide_eq_false (by omega);have hDe:((n+1:Nat):Int)=(n:Int)+1:=by omega
  have kd:IntKind.i64.wrap (((n+1:Nat):Int)-1)=(n:Int):=by rw[hDe,Int.add_sub_cancel];exact IntWalk.i64_in _ (by omega)
  cases hl:S.data.toList with
  | nil =>
   refine pF v S ⟨k.text.toArray⟩ _ w _ (.inl ?_) (Wf.tW x (n+1) k);rw[ByteArray.toList_eq,hl];rfl
  | cons c q =>
   obtain⟨e1,e2,e3,e4,e5,e6⟩:=xK hl;have hRs:(S.extract 1 S.size).size<=1048576:=(by rw[ByteArray.size_extract];omega);rw[<-hl];cases k with
   | num=>exact lW v S ⟨(Wf.K.text .num).toArray⟩ _ w _ e1 hD 110 (by decide) (fun _=>rfl) (.inl rfl) (fun wz=>a9Q x n v S hS wz)
   | txt=>exact lW v S ⟨(Wf.K.text .txt).toArray⟩ _ w _ e1 hD 116 (by decide) (fun _=>rfl) (.inr (.inl rfl)) (fun wz=>a6D x n v S hS wz)
   | flag=>exact lW v S ⟨(Wf.K.text .flag).toArray⟩ _ w _ e1 hD 102 (by decide) (fun _=>rfl) (.inr (.inr rfl)) (fun wz=>a1Q x n v S hS wz)
   | list k =>
    obtain⟨hk0,ek⟩:=cQ (kd:=(Wf.K.list k).text) (c:=91) rfl;by_cases hc:c=91
    ·subst hc
     rw[hl];have h:=fun wz (hz:Below w.heap.size w wz)=>a9L x v W n k (S.extract 1 S.size) ((n+1:Nat):Int) wz hRs hDe (by omega) (ih (by omega) k hk.list) (hW.trans (hz.mono hW.size));rw[e6] at h;exact a1G v S _ _ w _ _ e1 e3 e4 rfl hD hk0 ek e5 h
    ·refine a2F v S _ _ w _ e1 e3 hD hk0 ek c.toNat e5 ?_ (Wf.qH x n k (by rw[hl];simpa using hc))
     rw[bne_iff_ne];intro h;exact hc (UInt8.toNat_inj.1 (by show c.toNat=91;omega))
   | opt k =>
    obtain⟨hk0,ek⟩:=cQ (kd:=(Wf.K.opt k).text) (c:=63) rfl;have hK1:(⟨(Wf.K.opt k).text.toArray⟩:ByteArray).extract 1 (⟨(Wf.K.opt k).text.toArray⟩:ByteArray).size=⟨k.text.toArray⟩:=(by rw[aW,cV];rfl);by_cases h45:c=45
    ·subst h45
     exact zD v S _ _ w _ _ e1 e3 e4 rfl hD hk0 ek rfl e5 (by rw[e6,hl];exact Wf.qY x n k q)
    ·by_cases h43:c=43
     ·subst h43
      refine a0G v n S _ _ w _ k _ _ e1 e3 e4 rfl hD hk0 (by simp[ByteArray.size,Wf.K.text]) hK1 ek rfl e5 kd (Wf.parse x n k (S.extract 1 S.size).data.toList) (by rw[hl,e6];exact Wf.uN x n k q) (fun wz hz=>ih (by omega) k hk.opt _ wz hRs (hW.trans (hz.mono hW.size)))
     ·refine a0S v S _ _ w _ e1 e3 hD hk0 ek c.toNat e5 ?_ ?_ (Wf.rP x n k (by rw[hl];simpa using h45) (by rw[hl];simpa using h43))
      ·rw[beq_eq_false_iff_ne]
       intro h;exact h45 (UInt8.toNat_inj.1 (by show c.toNat=45;omega))
      ·rw[bne_iff_ne]
       intro h;exact h43 (UInt8.toNat_inj.1 (by show c.toNat=43;omega))
   | ref nm =>
    obtain⟨hk0,ek⟩:=cQ (kd:=(Wf.K.ref nm).text) (c:=64) rfl;obtain⟨t,hf⟩:=Wf.iN hk.ref;have htx:=(Wf.aY hf).1;have hto:=hx.tys t htx;have hnm:(Wf.K.ref nm).text.length<=1000000:=(by have:=hk.len;omega);have htl:t.fields.length<=1000:=(by have:=hto.len;omega);have hR:=fun(h69:t.sort≠69) f hfm=>ih (by omega) f.kind (KOk.fld hx htx h69 (f:=f) hfm);refine a6P v S _ _ w _ e1 hD hk0 ek fun wz hz=>?_;have hWz:=hW.trans (hz.mono hW.size);rcases hto.sort with hs|hs|hs
    ·have hr:=fun wy (hy:Below wz.heap.size wz wy)=>nH hx lo bsc hsp hf hnm 82 (by rw[hs];rfl) wy (hWz.trans (hy.mono hWz.size))
     by_cases hc:c=123
     ·subst hc
      rw[hl];have h:=fun fb fa fc wy (hrow:RowK W fb (.slice fa t.fields.length fc) 4 (t.fields.map (fdS t.sort))) (hy:Below wz.heap.size wz wy)=>a1T x v W n t nm (S.extract 1 S.size) ((n+1:Nat):Int) wy hx lo bsc hsp htx hf fb fc fa hrow hs hRs hDe (by omega) (hR (by rw[hs];decide)) (hWz.trans (hy.mono hWz.size));rw[e6] at h;exact a8I v W t S _ wz _ _ _ _ e4 e5 rfl _ hr h
     ·refine mS v S _ wz 82 c.toNat _ _ t.fields.length e3 e5 (.inl ⟨rfl,?_⟩) (fun wy hy=>(hr wy hy).mono fun e w' ⟨⟨fb,fa,fc,h1,_⟩,h2⟩=>⟨⟨fa,fc,h1⟩,h2⟩) _ (Wf.sE x n hf hs (by rw[hl];simpa using hc))
      rw[beq_eq_false_iff_ne];intro h;exact hc (UInt8.toNat_inj.1 (by show c.toNat=123;omega))
    ·have hr:=fun wy (hy:Below wz.heap.size wz wy)=>nH hx lo bsc hsp hf hnm 85 (by rw[hs];rfl) wy (hWz.trans (hy.mono hWz.size))
     by_cases hc:c=60
     ·subst hc
      rw[hl];have h:=a1M x v W n t nm S ((n+1:Nat):Int) wz ⟨(Wf.K.ref nm).text.toArray⟩ ⟨t.name.toArray⟩ (S.extract 1 S.size) t.fields.length hx htx hf e4 hRs rfl e5 rfl hs hDe (by omega) hWz (hR (by rw[hs];decide)) hr (fun fb fa fc wy hrow hy=>by
       have h:=lE t htl v (S.extract 1 S.size) hRs fb fc fa W wy (hWz.trans (hy.mono hWz.size)) hrow;rw[hs] at h;exact h)
      rw[e6] at h;exact h
     ·refine mS v S _ wz 85 c.toNat _ _ t.fields.length e3 e5 (.inr (.inr ⟨rfl,?_⟩)) (fun wy hy=>(hr wy hy).mono fun e w' ⟨⟨fb,fa,fc,h1,_⟩,h2⟩=>⟨⟨fa,fc,h1⟩,h2⟩) _ (Wf.pW x n hf hs (by rw[hl];simpa using hc))
      rw[beq_eq_false_iff_ne];intro h;exact hc (UInt8.toNat_inj.1 (by show c.toNat=60;omega))
    ·have hr:=fun wy (hy:Below wz.heap.size wz wy)=>nH hx lo bsc hsp hf hnm 69 (by rw[hs];rfl) wy (hWz.trans (hy.mono hWz.size))
     by_cases hc:c=35
     ·subst hc
      rw[hl,wM x n hf hs q];have h:=a7T v W t S ((n+1:Nat):Int) wz ⟨(Wf.K.ref nm).text.toArray⟩ ⟨t.name.toArray⟩ (S.extract 1 S.size) t.fields.length e4 rfl e5 rfl hs hr (fun fb fa fc wy hrow hy=>by
       have h:=lE t htl v (S.extract 1 S.size) hRs fb fc fa W wy (hWz.trans (hy.mono hWz.size)) hrow;rw[hs] at h;exact h)
      rw[e6] at h;exact h
     ·refine mS v S _ wz 69 c.toNat _ _ t.fields.length e3 e5 (.inr (.inl ⟨rfl,?_⟩)) (fun wy hy=>(hr wy hy).mono fun e w' ⟨⟨fb,fa,fc,h1,_⟩,h2⟩=>⟨⟨fa,fc,h1⟩,h2⟩) _ (Wf.oP x n hf hs (by rw[hl];simpa using hc))
      rw[beq_eq_false_iff_ne];intro h;exact hc (UInt8.toNat_inj.1 (by show c.toNat=35;omega))
def cH (l kt s:List UInt8) (lo:Nat) (e:Ending) (w':World):Prop:=match valOf l kt s with
 | some y=>∃ b a c p,e=.returned (.tuple #[.slice a y.1.1.length c,ptr p,.bool true])/\ScSp w' lo b (.slice a y.1.1.length c) y.1.1/\LV w' (fun z=>lo<=z) y.2 p
 | none=>∃ a n c p,e=.returned (.tuple #[.slice a n c,.pointer p,.bool false])
theorem cH.no {l kt s:List UInt8} {lo:Nat} {e:Ending} {w':World} (h:valOf l kt s=none) (he:∃ a n c p,e=.returned (.tuple #[.slice a n c,.pointer p,.bool false])):cH l kt s lo e w':=by
 unfold cH;rw[h];exact he
theorem cH.yes {l kt s:List UInt8} {lo:Nat} {e:Ending} {w':World} {y:(Wf.Sc × Wf.K) × Wf.V} (h:valOf l kt s=some y) (he:∃ b a c p,e=.returned (.tuple #[.slice a y.1.1.length c,ptr p,.bool true])/\ScSp w' lo b (.slice a y.1.1.length c) y.1.1/\LV w' (fun z=>lo<=z) y.2 p):cH l kt s lo e w':=by
 unfold cH;rw[h];exact he
theorem l4Of (s kt v:ByteArray) (w:World) (hs:s.size<=1048576) (hv:v.size<=1048576):Calls Tryz.prog 54 #[.string s,.string kt,.string v] w fun e w'=>cH s.data.toList kt.data.toList v.data.toList w.heap.size e w'/\Below w.heap.size w w':=by
 have HLK:=hid (mK s kt w hs);cases hty:bA s.data.toList kt.data.toList with
 | none =>
  have HO:=hid fun lo e wz (h:cK s.data.toList kt.data.toList lo e wz)=>(by unfold cK at h;rw[hty] at h;exact h:∃ a n c,e=.returned (.tuple #[.slice a n c,.bool false]));have HF:=hid (show valOf s.data.toList kt.data.toList v.data.toList=none by unfold valOf;rw[hty]);clear hty;go_enter Tryz.func54,Tryz.ntmps54;go_wp2_with (go_at_call 35;refine HLK.out.mono ?_;rintro e w2 ⟨ho,hb2⟩;obtain⟨a,n,c,rfl⟩:=HO.out _ _ _ ho;have HB2:=hid hb2;clear ho hb2)
  all_goals exact bodyPost_ret (v:=.tuple #[.slice none 0 0,.pointer none,.bool false]) (by simp[results,Tryz.results54,go_sem, *]) rfl ⟨cH.no HF.out ⟨_,_,_,_,rfl⟩,HB2.out⟩
 | some y =>
  obtain⟨x,k⟩:=y;obtain⟨hsc,hpk,hhas,hkt,hkl⟩:=gQ hty;have hx:=Wf.iX hsc;have hk:KOk x k:=⟨by rw[hkt];exact hkl,hhas⟩;have HO:=hid fun lo e wz (h:cK s.data.toList kt.data.toList lo e wz)=>(by unfold cK at h;rw[hty] at h;exact h:∃ b a c,e=.returned (.tuple #[.slice a x.length c,.bool true])/\ScSp wz lo b (.slice a x.length c) x);obtain⟨xn,hxn⟩:∃ xn,x.length=xn:=⟨_,rfl⟩;rw[hxn] at HO;have hkk:tx k.text=.string kt:=by rw[tx,show k.text=kt.data.toList from hkt]
  by_cases h400:v.size<=400
  ·have HRD:=hid fun(wz:World) (vv:Value) (lo b:Nat) (hsp:ScSp wz lo b vv x)=>(by
    have h:=mT x hx vv lo b wz hsp 12 (by omega) k hk v wz hv (Below.refl _ _);rw[hkk] at h;exact h:Calls Tryz.prog 63 #[.agg #[vv],.string v,.string kt,.int .i64 12] wz fun e w'=>aD (Wf.parse x 12 k v.data.toList) wz e w'/\Below wz.heap.size wz w')
   have HV:=hid (show valOf s.data.toList kt.data.toList v.data.toList=match (match Wf.parse x 12 k v.data.toList with|some (u,[])=>some u|_=>none) with|some u=>some ((x,k),u)|none=>none by
    unfold valOf;rw[hty];dsimp only;rw[Wf.valIn,if_pos (by rw[aE];exact h400)];rfl)
   have hd:decide ((400:Int)<(v.size:Int))=false:=decide_eq_false (by omega);clear hty hsc hpk hhas hkt hkl hkk;cases hp:Wf.parse x 12 k v.data.toList with
   | none =>
    have HF:=hid (show valOf s.data.toList kt.data.toList v.data.toList=none by rw[HV.out,hp]);have HO2:=hid fun(e:Ending) (w w':World) (h:aD (Wf.parse x 12 k v.data.toList) w e w')=>(by rw[hp] at h;exact h:∃ (p:Option Addr) (r:ByteArray),e=.returned (.tuple #[.pointer p,.string r,.bool false]));clear hp;go_enter Tryz.func54,Tryz.ntmps54;go_wp2_with (first|(go_at_call 63;refine(HRD.out _ _ _ _ HSP.out).mono ?_;rintro e w3 ⟨ho,hb3⟩;obtain⟨p,r,rfl⟩:=HO2.out _ _ _ ho;have HB3:=hid (aC HB2.out hb3);clear ho hb3)|(go_at_call 35;refine HLK.out.mono ?_;rintro e w2 ⟨ho,hb2⟩;obtain⟨b,a,c,rfl,hsp⟩:=HO.out _ _ _ ho;have HSP:=hid hsp;have HB2:=hid hb2;clear ho hb2 hsp))
    all_goals exact bodyPost_ret (v:=.tuple #[.slice a xn c,.pointer p,.bool false]) (by simp[results,Tryz.results54,go_sem, *]) rfl ⟨cH.no HF.out ⟨_,_,_,_,rfl⟩,HB3.out⟩
   | some y =>
    obtain⟨u,rr⟩:=y;obtain⟨RR,hRR⟩:∃ RR:ByteArray,(⟨rr.toArray⟩:ByteArray)=RR:=⟨_,rfl⟩;have HO2:=hid fun(e:Ending) (w w':World) (h:aD (Wf.parse x 12 k v.data.toList) w e w')=>(by unfold aD at h;rw[hp] at h;dsimp only at h;rw[tx,hRR] at h;exact h:∃ b,e=.returned (.tuple #[ptr b,.string RR,.bool true])/\LV w' (fun z=>w.heap.size<=z) u b);cases rr with
    | nil =>
     have HF:=hid (show valOf s.data.toList kt.data.toList v.data.toList=some ((x,k),u) by rw[HV.out,hp]);have hre:RR.toList.isEmpty=true:=(by rw[<-hRR,ByteArray.toList_eq];rfl);have hre2:RR.toList=[]:=List.isEmpty_iff.1 hre;have HXN:=hid hxn;clear hp hRR hxn;go_enter Tryz.func54,Tryz.ntmps54;go_wp2_with (first|(go_at_call 63;refine(HRD.out _ _ _ _ HSP.out).mono ?_;rintro e w3 ⟨ho,hb3⟩;obtain⟨pb,rfl,hlv⟩:=HO2.out _ _ _ ho;have HLV:=hid hlv;have HB3:=hid (aC HB2.out hb3);have HSP3:=hid (HSP.out.below hb3);clear ho hb3 hlv)|(go_at_call 35;refine HLK.out.mono ?_;rintro e w2 ⟨ho,hb2⟩;obtain⟨b,a,c,rfl,hsp⟩:=HO.out _ _ _ ho;have HSP:=hid hsp;have HB2:=hid hb2;clear ho hb2 hsp))
     all_goals exact bodyPost_ret (v:=.tuple #[.slice a xn c,ptr pb,.bool true]) (by simp[results,Tryz.results54,go_sem, *]) rfl ⟨cH.yes HF.out ⟨b,a,c,pb,by rw[HXN.out],by rw[HXN.out];exact HSP3.out,LV.mono HLV.out fun z hz _=>Nat.le_trans HB2.out.size hz⟩,HB3.out⟩
    | cons c0 q0 =>
     have HF:=hid (show valOf s.data.toList kt.data.toList v.data.toList=none by rw[HV.out,hp]);have hre:RR.toList.isEmpty=false:=(by rw[<-hRR,ByteArray.toList_eq];rfl);have hre2:RR.toList≠[]:=(by rw[<-hRR,ByteArray.toList_eq];exact List.cons_ne_nil _ _);clear hp hRR;go_enter Tryz.func54,Tryz.ntmps54;go_wp2_with (first|(go_at_call 63;refine(HRD.out _ _ _ _ HSP.out).mono ?_;rintro e w3 ⟨ho,hb3⟩;obtain⟨pb,rfl,hlv⟩:=HO2.out _ _ _ ho;have HB3:=hid (aC HB2.out hb3);clear ho hb3 hlv)|(go_at_call 35;refine HLK.out.mono ?_;rintro e w2 ⟨ho,hb2⟩;obtain⟨b,a,c,rfl,hsp⟩:=HO.out _ _ _ ho;have HSP:=hid hsp;have HB2:=hid hb2;clear ho hb2 hsp))
     all_goals exact bodyPost_ret (v:=.tuple #[.slice a xn c,ptr pb,.bool false]) (by simp[results,Tryz.results54,go_sem, *]) rfl ⟨cH.no HF.out ⟨_,_,_,_,rfl⟩,HB3.out⟩
  ·have HF:=hid (show valOf s.data.toList kt.data.toList v.data.toList=none by
    unfold valOf;rw[hty];dsimp only;rw[Wf.kP (by rw[aE];exact h400)])
   have hd:decide ((400:Int)<(v.size:Int))=true:=decide_eq_true (by omega);clear hty hsc hpk hhas hkt hkl hkk;go_enter Tryz.func54,Tryz.ntmps54;go_wp2_with (go_at_call 35;refine HLK.out.mono ?_;rintro e w2 ⟨ho,hb2⟩;obtain⟨b,a,c,rfl,hsp⟩:=HO.out _ _ _ ho;have HB2:=hid hb2;clear ho hb2 hsp)
   all_goals exact bodyPost_ret (v:=.tuple #[.slice none 0 0,.pointer none,.bool false]) (by simp[results,Tryz.results54,go_sem, *]) rfl ⟨cH.no HF.out ⟨_,_,_,_,rfl⟩,HB2.out⟩

theorem zL {es:List (Wf.Fd × Wf.V)} {g:Int} {k:Nat} (hk:k<es.length) (h0:∀ j (hj:j<es.length),j<k->((es[j]).1.tag:Int)≠g) (h1:((es[k]).1.tag:Int)=g):es.find? (fun d=>(d.1.tag:Int)==g)=some es[k]:=by
 rw[List.find?_eq_some_iff_getElem];exact⟨by simpa using h1,k,hk,rfl,fun j hj=>by simpa using h0 j (by omega) hj⟩
theorem a0U {es:List (Wf.Fd × Wf.V)} {g:Int} (h0:∀ j (hj:j<es.length),((es[j]).1.tag:Int)≠g):es.find? (fun d=>(d.1.tag:Int)==g)=none:=by
 rw[List.find?_eq_none];intro f hf;obtain⟨j,hj,rfl⟩:=List.mem_iff_getElem.1 hf;simpa using h0 j hj
theorem wO (w:World):iE (w.alloc (.cells #[.int .i64 0,.string ⟨#[]⟩,.string ⟨#[]⟩,.string ⟨#[]⟩] 86)) w.heap.size:=by
 refine⟨?_,?_,?_,?_,?_,?_,?_,?_,?_⟩;all_goals (simp[go_sem];done)
def eG (x:Wf.Sc) (k:Wf.K) (g:Int) (e:Ending):Prop:=match Wf.bH x k g with
 | some f=>e=.returned (.tuple #[.agg #[.int .i64 f.tag,tx f.name,tx f.kind.text,tx f.given],.bool true])
 | none=>∃ (m:Int) (a b c:ByteArray),e=.returned (.tuple #[.agg #[.int .i64 m,.string a,.string b,.string c],.bool false])
theorem nU (v:Value) (KT:ByteArray) (g:Int) (q n:Nat) (N:ByteArray) (RR:Option Addr->Nat->Prop) (b1 b2:Bool) (m:Int) (A B C:ByteArray) (w:World)
  (href:∀ wz,Below w.heap.size w wz->Calls Tryz.prog 87 #[v,.string KT] wz fun e w'=>(∃ fa c,e=.returned (.tuple #[.agg #[.int .u8 q,.string N,.slice fa n c],.bool b1])/\RR fa c)/\Below wz.heap.size wz w')
  (hfld:∀ fa c,RR fa c->∀ wz,Below w.heap.size w wz->Calls Tryz.prog 50 #[.agg #[.int .u8 q,.string N,.slice fa n c],.int .i64 g] wz fun e w'=>e=.returned (.tuple #[.agg #[.int .i64 m,.string A,.string B,.string C],.bool b2])/\Below wz.heap.size wz w') (hq:((q:Int)==82)=true\/((q:Int)==82)=false) :
  Calls Tryz.prog 57 #[v,.string KT,.int .i64 g] w fun e w'=>e=.returned (.tuple #[.agg #[.int .i64 m,.string A,.string B,.string C],.bool (b1&&(b2&&((q:Int)==82)))])/\Below w.heap.size w w':=by
 have HREF:=hid href;have HFLD:=hid hfld;clear href hfld;cases b1 <;> cases b2 <;> rcases hq with hq|hq
 all_goals
  go_enter Tryz.func57,Tryz.ntmps57;go_wp2_with (first|(go_at_call 50;refine(HFLD.out _ _ HRR.out _ (B2.out.alloc B2.out.size _)).mono ?_;rintro e w3 ⟨rfl,hb3⟩;have B3:=hid (aC (B2.out.alloc B2.out.size _) hb3);have t0:w3.cell? ⟨w2.heap.size,0,none⟩=some (.int .u8 q):=(hb3.cell (p:=⟨w2.heap.size,0,none⟩) (by simp)).trans (by simp[go_sem]);have hlw2:w2.heap.size<w3.heap.size:=Nat.lt_of_lt_of_le (by simp) hb3.size;obtain⟨zl,zr0,zr1,zr2,zr3,zf0,zf1,zf2,zf3⟩:=(Z2.out.below ((Below.refl w2.heap.size w2).alloc (Nat.le_refl _) _) Z2.out.lt).below hb3 (by have:=Z2.out.lt;simp;omega);clear hb3)|(go_at_call 87;refine(HREF.out _ (by first|exact(Below.refl _ _).alloc (Nat.le_refl _) _)).mono ?_;rintro e w2 ⟨⟨fa,c,rfl,hrr⟩,hb2⟩;have HRR:=hid hrr;clear hrr;have B2:=hid (aC ((Below.refl w.heap.size w).alloc (Nat.le_refl _) _) hb2);have Z2:=hid ((wO w).below hb2 (by simp));have hne1:¬ (w2.heap.size=w.heap.size):=(by have:=Z2.out.lt;omega);have hne2:¬ (w.heap.size=w2.heap.size):=(by have:=Z2.out.lt;omega);clear hb2))
  go_region
  all_goals (go_wp2_with fail)
  all_goals exact bodyPost_ret (v:=.tuple #[.agg #[.int .i64 m,.string A,.string B,.string C],.bool _]) (by simp[results,Tryz.results57,go_sem, *]) rfl ⟨rfl,by have BB:=B3.out;have hB:=BB.size;repeat (first|with_reducible exact BB|with_reducible refine Below.drew ?_|with_reducible refine Below.setCell ?_ (by first|(simp;done)|(simp;omega)) _|with_reducible refine Below.alloc ?_ (by first|exact BB.size|(simp;omega)) _)⟩
theorem yW (x:Wf.Sc) (hx:Wf.ScOk x) (lo b:Nat) (v:Value) (k:Wf.K) (hk:KOk x k) (g:Int) (W w:World) (hW:Below W.heap.size W w) (hsp:ScSp W lo b v x):Calls Tryz.prog 57 #[v,tx k.text,.int .i64 g] w fun e w'=>eG x k g e/\Below w.heap.size w w':=by
 have hr:=fun wz (hz:Below w.heap.size w wz)=>fK x lo b v k (by have:=hk.len;omega) W wz (hW.trans (hz.mono hW.size)) (by have:=hx.len;omega) hsp;have hf:=fun(t:Wf.Ty) (ht:t.fields.length<=1000) fb fa fc (h:RowK W fb (.slice fa t.fields.length fc) 4 (t.fields.map (fdS t.sort))) wz (hz:Below w.heap.size w wz)=>nP t ht g t.sort.toNat ⟨t.name.toArray⟩ fb fa fc W wz (hW.trans (hz.mono hW.size)) h;cases hrt:refT x k with
 | none =>
  have hno:Wf.bH x k g=none:=by
   unfold Wf.bH;cases k with
   | ref nm =>
    have h:x.find nm=none:=hrt;simp only[Wf.recTy,h,Option.bind_none]
   | _=>rfl
  have h0:=hf ⟨0,[],[]⟩ (by decide) 0 none 0 (nE W 0 4 none 0 (by unfold maxLen;omega));refine(nU v ⟨k.text.toArray⟩ g 0 0 ⟨#[]⟩ (fun fa c=>fa=none/\c=0) false false 0 ⟨#[]⟩ ⟨#[]⟩ ⟨#[]⟩ w (fun wz hz=>(hr wz hz).mono fun e w' ⟨h1,h2⟩=>⟨⟨none,0,by rw[hrt] at h1;exact h1,rfl,rfl⟩,h2⟩) (fun fa c ⟨h3,h4⟩ wz hz=>by subst h3 h4;exact(h0 wz hz).mono fun e w' ⟨h1,h2⟩=>⟨h1,h2⟩) (.inr rfl)).mono fun e w' ⟨h1,h2⟩=>⟨?_,h2⟩;unfold eG;rw[hno];exact⟨_,_,_,_,h1⟩
 | some t =>
  obtain⟨nm,rfl⟩:∃ nm,k=.ref nm:=by
   cases k with
   | ref nm=>exact⟨nm,rfl⟩
   | _=>cases hrt
  have hft:x.find nm=some t:=hrt;have hto:=hx.tys t (Wf.aY hft).1;have htl:t.fields.length<=1000:=by have:=hto.len;omega
  have hrd:Wf.bH x (.ref nm) g=if t.sort=82 then aZ t g else none:=by
   unfold Wf.bH;simp only[Wf.recTy,hft,Option.bind_some];split <;> rfl
  have hq:((t.sort.toNat:Int)==82)=decide (t.sort=82):=by
   rcases hto.sort with h|h|h <;> rw[h] <;> rfl
  have hq2:((t.sort.toNat:Int)==82)=true\/((t.sort.toNat:Int)==82)=false:=by cases ((t.sort.toNat:Int)==82) <;> simp
  have hrr:=fun wz hz=>(hr wz hz).mono (R':=fun e w'=>(∃ fa c,e=.returned (.tuple #[.agg #[.int .u8 t.sort.toNat,.string ⟨t.name.toArray⟩,.slice fa t.fields.length c],.bool true])/\∃ fb,RowK W fb (.slice fa t.fields.length c) 4 (t.fields.map (fdS t.sort)))/\Below wz.heap.size wz w') fun e w' ⟨h1,h2⟩=>⟨by
   rw[hrt] at h1;obtain⟨fb,a,c,h3,_,h5⟩:=h1;exact⟨a,c,h3,fb,h5⟩,h2⟩
  cases hfi:aZ t g with
  | none =>
   refine(nU v ⟨(Wf.K.ref nm).text.toArray⟩ g t.sort.toNat t.fields.length ⟨t.name.toArray⟩ (fun fa c=>∃ fb,RowK W fb (.slice fa t.fields.length c) 4 (t.fields.map (fdS t.sort))) true false 0 ⟨#[]⟩ ⟨#[]⟩ ⟨#[]⟩ w hrr (fun fa c ⟨fb,h⟩ wz hz=>(hf t htl fb fa c h wz hz).mono fun e w' ⟨h1,h2⟩=>⟨by rw[h1,hfi];rfl,h2⟩) hq2).mono fun e w' ⟨h1,h2⟩=>⟨?_,h2⟩;unfold eG;rw[hrd,hfi,ite_self];exact⟨_,_,_,_,h1⟩
  | some f =>
   refine(nU v ⟨(Wf.K.ref nm).text.toArray⟩ g t.sort.toNat t.fields.length ⟨t.name.toArray⟩ (fun fa c=>∃ fb,RowK W fb (.slice fa t.fields.length c) 4 (t.fields.map (fdS t.sort))) true true f.tag ⟨f.name.toArray⟩ ⟨(if t.sort=69 then [] else f.kind.text).toArray⟩ ⟨f.given.toArray⟩ w hrr (fun fa c ⟨fb,h⟩ wz hz=>(hf t htl fb fa c h wz hz).mono fun e w' ⟨h1,h2⟩=>⟨by rw[h1,hfi];rfl,h2⟩) hq2).mono fun e w' ⟨h1,h2⟩=>⟨?_,h2⟩;unfold eG;rw[hrd,hfi];rw[hq] at h1;by_cases h82:t.sort=82
   ·rw[if_pos h82]
    rw[decide_eq_true h82,if_neg (by rw[h82];decide)] at h1;exact h1
   ·rw[if_neg h82]
    rw[decide_eq_false h82] at h1;exact⟨_,_,_,_,h1⟩
def vfV:Option (List UInt8)->Value
 | some b=>.tuple #[tx b,.bool true]
 | none=>.tuple #[tx [],.bool false]
def bP (l kt s:List UInt8) (g:Int):Option (List UInt8):=(valOf l kt s).bind fun y=>Wf.dE y.1.1 y.1.2 y.2 g

theorem a8A (w:World) (SG BS NM:ByteArray):(w.alloc (.cells #[.string SG,.string BS,.string NM] 57)).cell? ⟨w.heap.size,0,none⟩=some (.string SG)/\(w.alloc (.cells #[.string SG,.string BS,.string NM] 57)).cell? ⟨w.heap.size,1,none⟩=some (.string BS)/\(w.alloc (.cells #[.string SG,.string BS,.string NM] 57)).cell? ⟨w.heap.size,2,none⟩=some (.string NM):=by
 refine⟨?_,?_,?_⟩ <;> simp[go_sem]
theorem iO (sb:Nat) (SG BS NM:ByteArray) (w:World) (h:SG.toList.isEmpty=false\/(SG.toList.isEmpty=true/\(BS.toList==[64])=false)):Calls Tryz.prog 89 #[ptr sb,.agg #[.string SG,.string BS,.string NM]] w fun e w'=>e=.returned (.tuple #[.pointer none,.bool false])/\Below w.heap.size w w':=by
 rcases h with h|⟨h,h2⟩;all_goals
  go_enter Tryz.func89,Tryz.ntmps89;go_wp2_with fail
  all_goals exact bodyPost_ret (v:=.tuple #[.pointer none,.bool false]) (by simp[results,Tryz.results89,go_sem, *]) rfl ⟨rfl,(Below.refl _ _).alloc (Nat.le_refl _) _⟩
theorem a2O (B:Bool) (sb mb tb q:Nat) (SG BS NM:ByteArray) (W w:World) (hW:Below W.heap.size W w) (hsb:sb<W.heap.size) (htb:tb<W.heap.size) (c1:W.cell? ⟨sb,1,none⟩=some (.map (some mb))) (t0:W.cell? ⟨tb,0,none⟩=some (.int .u8 q))
  (look:∀ wz,Below W.heap.size W wz->(Instr.lookup 129 (.map (some mb)) (.string NM) false).run Tryz.prog wz=.ok (ptr tb) wz) (hSG:SG.toList.isEmpty=true) (hSG2:SG.toList=[]) (hBS:BS.toList=[64]) (hq:((q:Int)==82)=B) :
  Calls Tryz.prog 89 #[ptr sb,.agg #[.string SG,.string BS,.string NM]] w fun e w'=>e=.returned (.tuple #[ptr tb,.bool B])/\Below w.heap.size w w':=by
 have HLK:=hid look;obtain⟨k0,k1,k2⟩:=a8A w SG BS NM;have hBS2:(BS.toList==[64])=true:=by rw[hBS];rfl
 have B3:=hid (hW.alloc hW.size (.cells #[.string SG,.string BS,.string NM] 57));have BW3:=hid ((Below.refl w.heap.size w).alloc (Nat.le_refl _) (.cells #[.string SG,.string BS,.string NM] 57));have l0:=HLK.out _ B3.out;have l1:=HLK.out _ B3.out.drew;have m1:=(B3.out.cell (p:=⟨sb,1,none⟩) hsb).trans c1;have u0:=(B3.out.cell (p:=⟨tb,0,none⟩) htb).trans t0;have hsw:sb<w.heap.size:=Nat.lt_of_lt_of_le hsb hW.size;have htw:tb<w.heap.size:=Nat.lt_of_lt_of_le htb hW.size;clear look c1 t0 hBS;cases B;all_goals
  go_enter Tryz.func89,Tryz.ntmps89;go_wp2_with fail
  obtain⟨W3,hW3⟩:∃ W3,w.alloc (.cells #[.string SG,.string BS,.string NM] 57)=W3:=⟨_,rfl⟩;rw[hW3] at k0 k1 k2 B3 BW3 l0 l1 m1 u0;rw[hW3];have hs3:w.heap.size<W3.heap.size:=by rw[<-hW3];simp
  have hsb3:sb<W3.heap.size:=by omega
  have htb3:tb<W3.heap.size:=by omega
  clear hW3;go_region_held3 (fun w'=>w'.cell? ⟨sb,1,none⟩=some (.map (some mb))/\w'.cell? ⟨w.heap.size,2,none⟩=some (.string NM)/\(Instr.lookup 129 (.map (some mb)) (.string NM) false).run Tryz.prog w'=.ok (ptr tb) w') (first|exact⟨m1,k2,l1⟩|go_keep) (fail)
  all_goals (go_wp2_with fail)
  all_goals (try go_quiet (fail))
  all_goals (go_wp2_with fail)
  all_goals exact bodyPost_ret (v:=.tuple #[ptr tb,.bool _]) (by simp[results,Tryz.results89,go_sem, *]) rfl ⟨rfl,by first|exact bdn BW3.out.drew _|exact bdn BW3.out _|exact BW3.out.drew⟩
theorem record (x:Wf.Sc) (hx:Wf.ScOk x) (lo sb:Nat) (k:Wf.K) (hk:KOk x k) (W w:World) (hsc:ScL W lo sb x) (hW:Below W.heap.size W w):Calls Tryz.prog 89 #[ptr sb,kV k] w fun e w'=>(match Wf.recTy x k with
  | some t=>∃ tb,e=.returned (.tuple #[ptr tb,.bool true])/\TyL W lo tb t
  | none=>∃ p,e=.returned (.tuple #[.pointer p,.bool false]))/\Below w.heap.size w w':=by
 cases k with
 | ref nm =>
  obtain⟨mb,hsz,hc1,hnm⟩:=hsc.named;obtain⟨t,ht⟩:=Wf.iN hk.ref;have hnl:nm.length<=12:=by have:=iF (.ref nm);have h2:=hk.len;simp only[Wf.K.name] at this;omega
  rcases hnm ⟨nm.toArray⟩ (by rw[aV];omega) with⟨h0,_⟩|⟨t',b,h1,hT,hl⟩
  ·rw[show(⟨nm.toArray⟩:ByteArray).data.toList=nm from rfl,ht] at h0;cases h0
  rw[show(⟨nm.toArray⟩:ByteArray).data.toList=nm from rfl,ht] at h1;obtain rfl:t=t':=Option.some.inj h1;have hto:=hx.tys t (Wf.aY ht).1;have hq:((t.sort.toNat:Int)==82)=decide (t.sort=82):=by
   rcases hto.sort with h|h|h <;> rw[h] <;> rfl
  refine(a2O (decide (t.sort=82)) sb mb b t.sort.toNat ⟨#[]⟩ ⟨#[64]⟩ ⟨nm.toArray⟩ W w hW hsz hT.sort.1 hc1 hT.sort.2 hl (by rw[ByteArray.toList_eq];rfl) (by rw[ByteArray.toList_eq]) (by rw[ByteArray.toList_eq]) hq).mono fun e w' ⟨h1,h2⟩=>⟨?_,h2⟩;have hr:Wf.recTy x (.ref nm)=if t.sort=82 then some t else none:=by simp only[Wf.recTy,ht,Option.bind_some]
  rw[hr];by_cases h82:t.sort=82
  ·rw[if_pos h82]
   rw[decide_eq_true h82] at h1;exact⟨b,h1,hT⟩
  ·rw[if_neg h82]
   rw[decide_eq_false h82] at h1;exact⟨_,h1⟩
 | num=>exact(iO sb ⟨#[]⟩ ⟨#[110]⟩ ⟨#[]⟩ w (.inr ⟨by rw[ByteArray.toList_eq];rfl,by rw[ByteArray.toList_eq];rfl⟩)).mono fun e w' ⟨h1,h2⟩=>⟨⟨_,h1⟩,h2⟩
 | txt=>exact(iO sb ⟨#[]⟩ ⟨#[116]⟩ ⟨#[]⟩ w (.inr ⟨by rw[ByteArray.toList_eq];rfl,by rw[ByteArray.toList_eq];rfl⟩)).mono fun e w' ⟨h1,h2⟩=>⟨⟨_,h1⟩,h2⟩
 | flag=>exact(iO sb ⟨#[]⟩ ⟨#[102]⟩ ⟨#[]⟩ w (.inr ⟨by rw[ByteArray.toList_eq];rfl,by rw[ByteArray.toList_eq];rfl⟩)).mono fun e w' ⟨h1,h2⟩=>⟨⟨_,h1⟩,h2⟩
 | list k=>exact(iO sb ⟨(Wf.K.signs (.list k)).toArray⟩ ⟨(Wf.K.base (.list k)).toArray⟩ ⟨(Wf.K.name (.list k)).toArray⟩ w (.inl (by rw[ByteArray.toList_eq];rfl))).mono fun e w' ⟨h1,h2⟩=>⟨⟨_,h1⟩,h2⟩
 | opt k=>exact(iO sb ⟨(Wf.K.signs (.opt k)).toArray⟩ ⟨(Wf.K.base (.opt k)).toArray⟩ ⟨(Wf.K.name (.opt k)).toArray⟩ w (.inl (by rw[ByteArray.toList_eq];rfl))).mono fun e w' ⟨h1,h2⟩=>⟨⟨_,h1⟩,h2⟩

def fW (e:Ending):Prop:=e=.returned (.tuple #[.pointer none,.agg #[.int .u8 0,.string ⟨#[]⟩,.int .i64 0,.slice none 0 0],.bool false])
def bY (l kt s:List UInt8) (g:Int) (lo:Nat) (e:Ending) (w':World):Prop:=match valOf l kt s with
 | some y=>(match Wf.bH y.1.1 y.1.2 g with
  | some f=>∃ fb o cs,e=.returned (.tuple #[.pointer (some ⟨fb,o,none⟩),.agg cs.toArray,.bool true])/\FdAt w' fb o 82 f/\VC w' (fun b=>lo<=b) y.2 cs
  | none=>fW e)
 | none=>fW e
theorem TyL.a7G {w:World} {lo b:Nat} {t:Wf.Ty} (h:TyL w lo b t):∃ fb a c,lo<=fb/\b<w.heap.size/\w.cell? ⟨b,2,none⟩=some (.slice a t.fields.length c)/\t.fields.length<=c/\c<=maxLen/\∀ i (hi:i<t.fields.length),∃ o,a=some ⟨fb,o,none⟩/\FdAt w fb (o+i*6) t.sort t.fields[i]:=by
 obtain⟨fb,a,c,line,_,hlo,hb,_,_,c2,_,hr⟩:=h;have hl:t.fields.length<=c/\c<=maxLen:=by
  obtain⟨a',cap',e1,e2,e3,_⟩:=hr;simp only[Value.slice.injEq] at e1;rw[List.length_map] at e2;omega
 refine⟨fb,a,c,hlo,hb,c2,hl.1,hl.2,fun i hi=>?_⟩;obtain⟨o,ha,hfb,_,_,hcell⟩:=hr.get (i:=i) (by rw[List.length_map];exact hi);have e0:(t.fields.map (fdC t.sort))[i]'(by rw[List.length_map];exact hi)=fdC t.sort t.fields[i]:=by rw[List.getElem_map]
 rw[e0] at hcell;refine⟨o,ha,hfb,fun j u hu=>hcell j u ?_ hu⟩;have:=(List.getElem?_eq_some_iff.1 hu).1;rw[pZ] at this;exact this
def jN (W:World) (t:Wf.Ty) (g:Int) (lo:Nat) (e:Ending):Prop:=match aZ t g with
 | some f=>∃ fb o,e=.returned (.pointer (some ⟨fb,o,none⟩))/\FdAt W fb o t.sort f/\lo<=fb
 | none=>e=.returned (.pointer none)
theorem yN (t:Wf.Ty) (ht:t.fields.length<=1000) (g:Int) (lo tb:Nat) (W w:World) (hW:Below W.heap.size W w) (hT:TyL W lo tb t):Calls Tryz.prog 46 #[ptr tb,.int .i64 g] w fun e w'=>jN W t g lo e/\w=w':=by
 obtain⟨fb,a,c,hlo,hb,c2,hnc,hcm,hrow⟩:=hT.a7G;have HROW:=hid hrow;obtain⟨n,hn⟩:∃ n,t.fields.length=n:=⟨_,rfl⟩;have HN:=hid hn;rw[hn] at ht c2 hnc;have y2:=(hW.cell (p:=⟨tb,2,none⟩) hb).trans c2;have HW:=hid hW;clear hrow hn c2 hT;go_enter Tryz.func46,Tryz.ntmps46;go_wp2_with fail
 go_loop [11] (fun v=>∃ k:Nat,k<=n/\v=.int .i64 k/\Hid (∀ j (hj:j<t.fields.length),j<k->((t.fields[j]).tag:Int)≠g)) (fun v=>n-(RowKit.intOf v).toNat)
 case atStart=>exact⟨0,Nat.zero_le _,rfl,hid fun j hj h=>by omega⟩
 case round =>
  obtain⟨k,hk,rfl,hno⟩:=hrel;by_cases hlt:k<n
  ·have hkx:k<t.fields.length:=by rw[HN.out];exact hlt
   obtain⟨o,rfl,hfd⟩:=HROW.out k hkx;have HFD:=hid hfd;have e0:(fdC t.sort t.fields[k])[0]? = some (.int .i64 (t.fields[k]).tag):=by
    obtain⟨_,_,_,_,h⟩:=eN t.sort t.fields[k];rw[h];rfl
   have z0:w.cell? ⟨fb,o+k*6,none⟩=some (.int .i64 (t.fields[k]).tag):=(HW.out.cell (p:=⟨fb,o+k*6,none⟩) hfd.1).trans (hfd.2 0 _ e0);obtain⟨G,hG⟩:∃ G,(t.fields[k]).tag=G:=⟨_,rfl⟩;rw[hG] at z0;have HG:=hid hG;clear hfd e0 hG;cases hq:((G:Int)==g) with
   | true =>
    have HF:=hid (show aZ t g=some t.fields[k] from mO hkx hno.out (by rw[HG.out];simpa using hq));have hge:(G:Int)=g:=(by simpa using hq);subst hge;clear hq;go_wp2_with fail
    go_ret
    exact⟨by unfold jN;rw[HF.out];exact⟨fb,o+k*6,rfl,HFD.out,hlo⟩,rfl⟩
   | false =>
    have hne:Hid ((G:Int)≠g):=hid (by simpa using hq);go_wp2_with fail
    go_round
    case rel=>exact⟨k+1,by omega,by go_num,hid fun j hj hjk=>by
     by_cases hj2:j=k
     ·subst hj2;rw[HG.out];exact hne.out
     ·exact hno.out j hj (by omega)⟩
    case measure=>simp[RowKit.intOf];omega
  ·have hkn:k=n:=by omega
   subst hkn;have HF:=hid (show aZ t g=none from lG fun j hj=>hno.out j hj (by rw[<-HN.out];exact hj));go_wp2_with fail
   go_ret
   exact⟨by unfold jN;rw[HF.out];rfl,rfl⟩
theorem FdAt.over {w w':World} {fb o lo:Nat} {q:UInt8} {f:Wf.Fd} (h:FdAt w fb o q f) (hlo:lo<=fb) (hb:Over lo w w'):FdAt w' fb o q f :=
 ⟨Nat.lt_of_lt_of_le h.1 hb.size,fun j u hu=>(World.cell?_of_block (w:=w) (w':=w') (a:=⟨fb,o+j,none⟩) (hb.block fb hlo h.1)).trans (h.2 j u hu)⟩
theorem wK (w:World) (q n c:Nat) (g:Int) (T:ByteArray) (a:Option Addr):(w.alloc (.cells #[.int .u8 q,.string T,.int .i64 g,.slice a n c] 92)).cell? ⟨w.heap.size,0,none⟩=some (.int .u8 q)/\(w.alloc (.cells #[.int .u8 q,.string T,.int .i64 g,.slice a n c] 92)).cell? ⟨w.heap.size,1,none⟩=some (.string T)/\(w.alloc (.cells #[.int .u8 q,.string T,.int .i64 g,.slice a n c] 92)).cell? ⟨w.heap.size,2,none⟩=some (.int .i64 g)/\(w.alloc (.cells #[.int .u8 q,.string T,.int .i64 g,.slice a n c] 92)).cell? ⟨w.heap.size,3,none⟩=some (.slice a n c):=by
 refine⟨?_,?_,?_,?_⟩ <;> simp[go_sem]
theorem vV (s kt v:ByteArray) (g:Int) (m:Int) (w:World) (hm:ML m w) (hs:s.size<=1048576) (hkt:kt.size<=1048576) (hv:v.size<=1048576):Calls Tryz.prog 60 #[.string s,.string kt,.string v,.int .i64 g] w fun e w'=>bY s.data.toList kt.data.toList v.data.toList g w.heap.size e w'/\Below w.heap.size w w':=by
 have W0:=(Below.refl w.heap.size w).alloc (Nat.le_refl _) (.cells #[.int .u8 0,.string ⟨#[]⟩,.int .i64 0,.slice none 0 0] 92);have HG:=hid (given s kt v m _ (hm.below W0) hs hkt hv);clear hm W0;cases hvo:valOf s.data.toList kt.data.toList v.data.toList with
 | none =>
  have HO:=hid fun lo e w' (h:cC s.data.toList kt.data.toList v.data.toList lo e w')=>(by unfold cC at h;rw[hvo] at h;exact h:∃ p a b c,e=.returned (.tuple #[.pointer p,.agg #[.string a,.string b,.string c],.agg #[.int .u8 0,.string ⟨#[]⟩,.int .i64 0,.slice none 0 0],.bool false]));have HD:=hid fun(e:Ending) (w':World) (h:fW e)=>(show bY s.data.toList kt.data.toList v.data.toList g w.heap.size e w' by unfold bY;rw[hvo];exact h);clear hvo;go_enter Tryz.func60,Tryz.ntmps60;go_wp2_with (go_at_call 52;refine HG.out.mono ?_;rintro e w2 ⟨ho,hb2⟩;obtain⟨p,a,b,c,rfl⟩:=HO.out _ _ _ ho;have Z2:=hid ((eT w).below hb2 (by simp));have HB2:=hid (aC ((Below.refl w.heap.size w).alloc (Nat.le_refl _) _) hb2);obtain⟨zl,zr0,zr1,zr2,zr3,zf0,zf1,zf2,zf3⟩:=Z2.out;clear ho hb2)
  all_goals exact bodyPost_ret (v:=.tuple #[.pointer none,.agg #[.int .u8 0,.string ⟨#[]⟩,.int .i64 0,.slice none 0 0],.bool false]) (by simp[results,Tryz.results60,go_sem, *]) rfl ⟨HD.out _ _ rfl,by have B:=HB2.out;have hB:=B.size;repeat (first|with_reducible exact B|with_reducible refine Below.drew ?_|with_reducible refine Below.setCell ?_ (by first|(simp;done)|(simp;omega)) _|with_reducible refine Below.alloc ?_ (by first|exact B.size|(simp;omega)) _)⟩
 | some y =>
  obtain⟨⟨x,k⟩,u⟩:=y;obtain⟨hko,hvi⟩:=hM hvo;obtain⟨hx,hk⟩:=fL hko;obtain⟨SG,hSG⟩:∃ SG:ByteArray,(⟨k.signs.toArray⟩:ByteArray)=SG:=⟨_,rfl⟩;obtain⟨BS,hBS⟩:∃ BS:ByteArray,(⟨k.base.toArray⟩:ByteArray)=BS:=⟨_,rfl⟩;obtain⟨NM,hNM⟩:∃ NM:ByteArray,(⟨k.name.toArray⟩:ByteArray)=NM:=⟨_,rfl⟩;have hkv:kV k=.agg #[.string SG,.string BS,.string NM]:=by simp only[kV,tx,hSG,hBS,hNM]
  have HO:=hid fun lo e w' (h:cC s.data.toList kt.data.toList v.data.toList lo e w')=>(by unfold cC at h;rw[hvo] at h;dsimp only at h;rw[hkv] at h;exact h:∃ sb cs,e=.returned (.tuple #[ptr sb,.agg #[.string SG,.string BS,.string NM],.agg cs.toArray,.bool true])/\ScL w' lo sb x/\VC w' (fun b=>lo<=b) u cs);cases hrt:Wf.recTy x k with
  | none =>
   have HD:=hid fun(e:Ending) (w':World) (h:fW e)=>(show bY s.data.toList kt.data.toList v.data.toList g w.heap.size e w' by unfold bY;rw[hvo];dsimp only;rw[show Wf.bH x k g=none by unfold Wf.bH;rw[hrt];rfl];exact h);have HR:=hid fun(lo sb:Nat) (W wz:World) (hsc:ScL W lo sb x) (hz:Below W.heap.size W wz)=>(by
    have h:=record x hx lo sb k hk W wz hsc hz;rw[hrt,hkv] at h;exact h:Calls Tryz.prog 89 #[ptr sb,.agg #[.string SG,.string BS,.string NM]] wz fun e w'=>(∃ p,e=.returned (.tuple #[.pointer p,.bool false]))/\Below wz.heap.size wz w')
   clear hvo hko hvi hSG hBS hNM hkv hrt;go_enter Tryz.func60,Tryz.ntmps60;go_wp2_with (first|(go_at_call 89;refine(HR.out _ _ _ _ HSC.out (by first|exact((Below.refl _ _).alloc (Nat.le_refl _) _).alloc (by simp) _)).mono ?_;rintro e w3 ⟨⟨p,rfl⟩,hb3⟩;have HB3:=hid (aC ((HB2.out.alloc HB2.out.size _).alloc (by have:=HB2.out.size;simp;omega) _) hb3);obtain⟨zl,zr0,zr1,zr2,zr3,zf0,zf1,zf2,zf3⟩:=(Z2.out.below (((Below.refl w2.heap.size w2).alloc (Nat.le_refl _) _).alloc (by simp) _) Z2.out.lt).below hb3 (by have:=Z2.out.lt;simp;omega);clear hb3)|(go_at_call 52;refine HG.out.mono ?_;rintro e w2 ⟨ho,hb2⟩;obtain⟨sb,cs,rfl,hsc,hvc⟩:=HO.out _ _ _ ho;obtain⟨q,gg,n,d,T,sa,rfl⟩:=hvc.cF;have HSC:=hid hsc;have Z2:=hid ((eT w).below hb2 (by simp));have HB2:=hid (aC ((Below.refl w.heap.size w).alloc (Nat.le_refl _) _) hb2);clear ho hb2 hsc hvc))
   all_goals exact bodyPost_ret (v:=.tuple #[.pointer none,.agg #[.int .u8 0,.string ⟨#[]⟩,.int .i64 0,.slice none 0 0],.bool false]) (by simp[results,Tryz.results60,go_sem, *]) rfl ⟨HD.out _ _ rfl,by have B:=HB3.out;have hB:=B.size;repeat (first|with_reducible exact B|with_reducible refine Below.drew ?_|with_reducible refine Below.setCell ?_ (by first|(simp;done)|(simp;omega)) _|with_reducible refine Below.alloc ?_ (by first|exact B.size|(simp;omega)) _)⟩
  | some t =>
   obtain⟨nm,rfl,hft,h82⟩:=Wf.vG hrt;have htl:t.fields.length<=1000:=(by have:=(hx.tys t (Wf.aY hft).1).len;omega);have hrd:Wf.bH x (.ref nm) g=aZ t g:=(by unfold Wf.bH;rw[hrt];rfl);have HR:=hid fun(lo sb:Nat) (W wz:World) (hsc:ScL W lo sb x) (hz:Below W.heap.size W wz)=>(by
    have h:=record x hx lo sb (.ref nm) hk W wz hsc hz;rw[hrt,hkv] at h;exact h:Calls Tryz.prog 89 #[ptr sb,.agg #[.string SG,.string BS,.string NM]] wz fun e w'=>(∃ tb,e=.returned (.tuple #[ptr tb,.bool true])/\TyL W lo tb t)/\Below wz.heap.size wz w')
   have HF:=hid fun(lo tb:Nat) (W wz:World) (hT:TyL W lo tb t) (hz:Below W.heap.size W wz)=>field t htl g lo tb W wz hz hT;cases hfi:aZ t g with
   | none =>
    have HFI:=hid hfi;have HD:=hid fun(e:Ending) (w':World) (h:fW e)=>(show bY s.data.toList kt.data.toList v.data.toList g w.heap.size e w' by unfold bY;rw[hvo];dsimp only;rw[hrd,hfi];exact h);clear hvo hko hvi hSG hBS hNM hkv hrt hfi hrd;go_enter Tryz.func60,Tryz.ntmps60;go_wp2_with (first|(go_at_call 46;refine(HF.out _ _ _ _ HT.out HB23.out).mono ?_;rintro e w4 ⟨ho,rfl⟩;obtain rfl:=ho.no HFI.out;clear ho)|(go_at_call 89;refine(HR.out _ _ _ _ HSC.out (by first|exact((Below.refl _ _).alloc (Nat.le_refl _) _).alloc (by simp) _)).mono ?_;rintro e w3 ⟨⟨tb,rfl,hT⟩,hb3⟩;have HT:=hid hT;have HB23:=hid (aC (((Below.refl w2.heap.size w2).alloc (Nat.le_refl _) _).alloc (by simp) _) hb3);have HB3:=hid (aC ((HB2.out.alloc HB2.out.size _).alloc (by have:=HB2.out.size;simp;omega) _) hb3);obtain⟨zl,zr0,zr1,zr2,zr3,zf0,zf1,zf2,zf3⟩:=(Z2.out.below (((Below.refl w2.heap.size w2).alloc (Nat.le_refl _) _).alloc (by simp) _) Z2.out.lt).below hb3 (by have:=Z2.out.lt;simp;omega);clear hb3 hT)|(go_at_call 52;refine HG.out.mono ?_;rintro e w2 ⟨ho,hb2⟩;obtain⟨sb,cs,rfl,hsc,hvc⟩:=HO.out _ _ _ ho;obtain⟨q,gg,n,d,T,sa,rfl⟩:=hvc.cF;have HSC:=hid hsc;have Z2:=hid ((eT w).below hb2 (by simp));have HB2:=hid (aC ((Below.refl w.heap.size w).alloc (Nat.le_refl _) _) hb2);clear ho hb2 hsc hvc))
    all_goals exact bodyPost_ret (v:=.tuple #[.pointer none,.agg #[.int .u8 0,.string ⟨#[]⟩,.int .i64 0,.slice none 0 0],.bool false]) (by simp[results,Tryz.results60,go_sem, *]) rfl ⟨HD.out _ _ rfl,by have B:=HB3.out;have hB:=B.size;repeat (first|with_reducible exact B|with_reducible refine Below.drew ?_|with_reducible refine Below.setCell ?_ (by first|(simp;done)|(simp;omega)) _|with_reducible refine Below.alloc ?_ (by first|exact B.size|(simp;omega)) _)⟩
   | some f =>
    have HFI:=hid hfi;have H82:=hid h82;have HF2:=hid fun(lo tb:Nat) (wz:World) (hT:TyL wz lo tb t)=>(by
     refine(yN t htl g lo tb wz wz (Below.refl _ _) hT).mono (R':=fun e w'=>(∃ fb o,e=.returned (.pointer (some ⟨fb,o,none⟩))/\FdAt wz fb o 82 f/\lo<=fb)/\wz=w') fun e w' ⟨h1,h2⟩=>⟨?_,h2⟩;unfold jN at h1;rw[hfi,h82] at h1;exact h1:Calls Tryz.prog 46 #[ptr tb,.int .i64 g] wz fun e w'=>(∃ fb o,e=.returned (.pointer (some ⟨fb,o,none⟩))/\FdAt wz fb o 82 f/\lo<=fb)/\wz=w')
    have HD:=hid fun(e:Ending) (w':World) (h:∃ fb o cs,e=.returned (.tuple #[.pointer (some ⟨fb,o,none⟩),.agg cs.toArray,.bool true])/\FdAt w' fb o 82 f/\VC w' (fun b=>w.heap.size<=b) u cs)=>(show bY s.data.toList kt.data.toList v.data.toList g w.heap.size e w' by unfold bY;rw[hvo];dsimp only;rw[hrd,hfi];exact h);clear hvo hko hvi hSG hBS hNM hkv hrt hfi hrd h82;go_enter Tryz.func60,Tryz.ntmps60;go_wp2_with (first|(go_at_call 46;refine(HF.out _ _ _ _ HT.out HB23.out).mono ?_;rintro e w4 ⟨ho,rfl⟩;obtain⟨fb,o,rfl,hfd⟩:=ho.yes HFI.out;have HFD:=hid hfd;clear ho hfd)|(go_at_call 89;refine(HR.out _ _ _ _ HSC.out (by first|exact((Below.refl _ _).alloc (Nat.le_refl _) _).alloc (by simp) _)).mono ?_;rintro e w3 ⟨⟨tb,rfl,hT⟩,hb3⟩;have HT:=hid hT;have x0:w3.cell? ⟨w2.heap.size+1,0,none⟩=some (.int .u8 q):=(hb3.cell (p:=⟨w2.heap.size+1,0,none⟩) (by simp)).trans (by simp);have x1:w3.cell? ⟨w2.heap.size+1,1,none⟩=some (.string T):=(hb3.cell (p:=⟨w2.heap.size+1,1,none⟩) (by simp)).trans (by simp);have x2:w3.cell? ⟨w2.heap.size+1,2,none⟩=some (.int .i64 gg):=(hb3.cell (p:=⟨w2.heap.size+1,2,none⟩) (by simp)).trans (by simp);have x3:w3.cell? ⟨w2.heap.size+1,3,none⟩=some (.slice sa n d):=(hb3.cell (p:=⟨w2.heap.size+1,3,none⟩) (by simp)).trans (by simp);have hl3:w2.heap.size+1<w3.heap.size:=Nat.lt_of_lt_of_le (by simp) hb3.size;have HB23:=hid (aC (((Below.refl w2.heap.size w2).alloc (Nat.le_refl _) _).alloc (by simp) _) hb3);have HB3:=hid (aC ((HB2.out.alloc HB2.out.size _).alloc (by have:=HB2.out.size;simp;omega) _) hb3);obtain⟨zl,zr0,zr1,zr2,zr3,zf0,zf1,zf2,zf3⟩:=(Z2.out.below (((Below.refl w2.heap.size w2).alloc (Nat.le_refl _) _).alloc (by simp) _) Z2.out.lt).below hb3 (by have:=Z2.out.lt;simp;omega);clear hb3 hT)|(go_at_call 52;refine HG.out.mono ?_;rintro e w2 ⟨ho,hb2⟩;obtain⟨sb,cs,rfl,hsc,hvc⟩:=HO.out _ _ _ ho;obtain⟨q,gg,n,d,T,sa,rfl⟩:=hvc.cF;have HSC:=hid hsc;have HVC:=hid hvc;have Z2:=hid ((eT w).below hb2 (by simp));have HB2:=hid (aC ((Below.refl w.heap.size w).alloc (Nat.le_refl _) _) hb2);clear ho hb2 hsc hvc))
    have HT3:=hid (HT.out.below HB23.out);have HTO:=hid fun(wz:World) (h:Over (w.heap.size+1) w3 wz)=>HF2.out _ tb wz (TyL.keep HT3.out h.size (fun z h1 h2=>h.block z (by simpa using h1) h2));have hnz:¬ (w2.heap.size+1=w.heap.size):=(by have:=Z2.out.lt;omega);have hnz2:¬ (w.heap.size=w2.heap.size+1):=(by have:=Z2.out.lt;omega);go_region_law (((try go_simp);go_at_call 46;refine(HTO.out _ (by repeat (first|with_reducible exact Over.refl _ _|with_reducible refine Over.drew ?_|with_reducible refine Over.setCell ?_ (by simp) _))).mono ?_;rintro e w5 ⟨⟨fb5,o5,rfl,hfd5,hlo5⟩,rfl⟩;have HFD5:=hid hfd5;have HLO5:=hid hlo5;clear hfd5 hlo5))
    all_goals (go_wp2_with fail)
    all_goals exact bodyPost_ret (v:=.tuple #[.pointer (some ⟨fb5,o5,none⟩),.agg #[.int .u8 q,.string T,.int .i64 gg,.slice sa n d],.bool true]) (by simp[results,Tryz.results60,go_sem, *]) rfl (by
     have hR:∀ WF,Over (w.heap.size+1) w3 WF->FdAt WF fb5 o5 82 f->bY s.data.toList kt.data.toList v.data.toList g w.heap.size (.returned (.tuple #[.pointer (some ⟨fb5,o5,none⟩),.agg #[.int .u8 q,.string T,.int .i64 gg,.slice sa n d],.bool true])) WF:=fun WF hO hF=>HD.out _ _ ⟨fb5,o5,[.int .u8 q,.string T,.int .i64 gg,.slice sa n d],rfl,hF,VC.keep (fun b hp hlt=>⟨Nat.le_trans (by simp) hp,(hO.block b (by simpa using hp) (Nat.lt_of_lt_of_le hlt HB23.out.size)).trans (HB23.out.block b hlt)⟩) (Nat.le_trans HB23.out.size hO.size) _ _ HVC.out⟩;refine⟨hR _ ?_ (FdAt.over HFD5.out HLO5.out ?_),?_⟩
     ·repeat (first|with_reducible exact Over.refl _ _|with_reducible refine Over.drew ?_|with_reducible refine Over.setCell ?_ (by simp) _)
     ·(repeat (first|with_reducible exact Over.refl _ _|with_reducible refine Over.drew ?_|with_reducible refine Over.setCell ?_ (by simp) _))
      all_goals exact⟨Nat.le_refl _,fun _ _ _=>rfl⟩
     ·have B:=HB3.out
      repeat (first|with_reducible exact B|with_reducible refine Below.drew ?_|with_reducible refine Below.setCell ?_ (by first|(simp;done)|(simp;omega)) _))

def aX (l kt s:List UInt8) (g:Int) (b:List UInt8):Option (List UInt8):=(valOf l kt s).bind fun y=>Wf.bU y.1.1 y.1.2 y.2 g b
theorem tT {es:List (Wf.Fd × Wf.V)} (h:(Wf.recV es).print.length<=400):es.length<=400:=by
 have h1:=Wf.kO (l:=(es.map Wf.tagged).map Wf.V.print) (by
  intro a ha;obtain⟨e,he,rfl⟩:=List.mem_map.1 ha;obtain⟨d,hd,rfl⟩:=List.mem_map.1 he;rw[Wf.dI];simp)
 rw[Wf.recV,Wf.dB] at h;simp at h1 h;omega

theorem a5Z {es:List (Wf.Fd × Wf.V)} (h:(Wf.recV es).print.length<=400):es.length<=1000:=by
 have h1:=Wf.kO (l:=(es.map Wf.tagged).map Wf.V.print) (by
  intro a ha;obtain⟨e,he,rfl⟩:=List.mem_map.1 ha;obtain⟨d,hd,rfl⟩:=List.mem_map.1 he;rw[Wf.dI];simp)
 rw[Wf.recV,Wf.dB] at h;simp at h1 h;omega
theorem jO (s kt v:ByteArray) (g:Int) (m:Int) (w:World) (hm:ML m w) (hs:s.size<=1048576) (hkt:kt.size<=1048576) (hv:v.size<=1048576):Calls Tryz.prog 29 #[.string s,.string kt,.string v,.int .i64 g] w fun e w'=>e=.returned (vfV (bP s.data.toList kt.data.toList v.data.toList g))/\Below w.heap.size w w':=by
 have HG:=hid (vV s kt v g m w hm hs hkt hv);have HM:=hid hm;have HRS:=hid fun(wz:World) (h:ML m wz)=>iC s m wz h hs;clear hm;have NO:(valOf s.data.toList kt.data.toList v.data.toList=none\/∃ y,valOf s.data.toList kt.data.toList v.data.toList=some y/\Wf.bH y.1.1 y.1.2 g=none)->Calls Tryz.prog 29 #[.string s,.string kt,.string v,.int .i64 g] w fun e w'=>e=.returned (vfV (bP s.data.toList kt.data.toList v.data.toList g))/\Below w.heap.size w w':=fun hno=>by
  have HF:=hid (show vfV (bP s.data.toList kt.data.toList v.data.toList g)=.tuple #[tx [],.bool false] by
   unfold bP;rcases hno with h|⟨y,h,h2⟩
   ·rw[h];rfl
   ·rw[h]
    simp only[Option.bind_some,Wf.dE,h2];rfl)
  have HO:=hid fun(e:Ending) (w':World) (h:bY s.data.toList kt.data.toList v.data.toList g w.heap.size e w')=>(show fW e by
   unfold bY at h;rcases hno with h1|⟨y,h1,h2⟩
   ·rw[h1] at h;exact h
   ·rw[h1] at h;dsimp only at h;rw[h2] at h;exact h)
  clear hno;go_enter Tryz.func29,Tryz.ntmps29;go_wp2_with (go_at_call 60;refine HG.out.mono ?_;rintro e w2 ⟨ho,hb2⟩;obtain rfl:=HO.out _ _ ho;have HB2:=hid hb2;clear ho hb2)
  exact bodyPost_ret (v:=.tuple #[tx [],.bool false]) (by simp[results,Tryz.results29,go_sem, *]) rfl ⟨by rw[HF.out],HB2.out.alloc HB2.out.size _⟩
 cases hvo:valOf s.data.toList kt.data.toList v.data.toList with
 | none=>exact NO (.inl hvo)
 | some y =>
  obtain⟨⟨x,k⟩,u⟩:=y;cases hrf:Wf.bH x k g with
  | none=>exact NO (.inr ⟨_,hvo,hrf⟩)
  | some f =>
   clear NO;obtain⟨hko,hvi⟩:=hM hvo;obtain⟨hx,hk⟩:=fL hko;obtain⟨hsc,_,_,_,_⟩:=gQ hko;obtain⟨hty,hsv,hs400⟩:=Wf.cY hvi;obtain⟨nm,t,rfl,hft,h82,hfz⟩:=Wf.iS hrf;obtain⟨es,hes,rfl⟩:=Wf.iI hty hft h82;obtain⟨hfm,hfg,hff⟩:=Wf.dX hfz;have htx:=(Wf.aY hft).1;have h69:t.sort≠69:=(by rw[h82];decide);have hfk:=dQ ((hx.tys t htx).fds f hfm);have hrl:(Wf.recV es).print.length<=400:=(by rw[<-hsv];exact hs400);have hesl:=a5Z hrl;have HFI:=hid (show bP s.data.toList kt.data.toList v.data.toList g=some (Wf.getEs x es f) by unfold bP;rw[hvo];simp only[Option.bind_some];rw[Wf.fZ hft h82,hfz];rfl);have HO:=hid fun(e:Ending) (w':World) (h:bY s.data.toList kt.data.toList v.data.toList g w.heap.size e w')=>(by unfold bY at h;rw[hvo] at h;dsimp only at h;rw[hrf] at h;exact h:∃ fb o cs,e=.returned (.tuple #[.pointer (some ⟨fb,o,none⟩),.agg cs.toArray,.bool true])/\FdAt w' fb o 82 f/\VC w' (fun b=>w.heap.size<=b) (Wf.recV es) cs);have HRO:=hid fun(lo:Nat) (e:Ending) (w':World) (h:cI s.data.toList lo e w')=>(by unfold cI at h;rw[hsc] at h;exact h:∃ sb,e=.returned (.tuple #[ptr sb,.bool true])/\ScL w' lo sb x);have hfe:∀ d:Wf.Fd × Wf.V,((d.1.tag:Int)==g)=(d.1.tag==f.tag):=fun d=>by
    rw[Bool.eq_iff_iff,beq_iff_eq,beq_iff_eq];omega
   have HGET:=hid (show es.find? (fun d=>(d.1.tag:Int)==g)=es.find? (fun d=>d.1.tag==f.tag) by congr 1;funext d;exact hfe d);have HOF:=hid fun(lo sb fb o:Nat) (W wz:World) (hz:Below W.heap.size W wz) (H:ScL W lo sb x) (hf:FdAt W fb o 82 f)=>of x hx lo sb fb o 82 f W wz hz H (by decide) hf hfk (hx.refs t htx h69 f hfm);have HES:=hid hes;have HRL:=hid hrl;obtain⟨n,hn⟩:∃ n,es.length=n:=⟨_,rfl⟩;have HN:=hid hn;have hn1:n<=1000:=(by omega);clear hvo hrf hko hvi hsc hty hsv hs400 hft h82 hfz hes hfm hfg hff htx h69 hfk hrl hesl hfe hx hk hn;go_enter Tryz.func29,Tryz.ntmps29;go_wp2_with (first|(go_at_call 61;refine(HRS.out _ (HM.out.below (HB2.out.alloc HB2.out.size _))).mono ?_;rintro e w3 ⟨ho,hb3⟩;obtain⟨sb,rfl,hsl⟩:=HRO.out _ _ _ ho;have HSL:=hid hsl;have HB23:=hid (aC ((Below.refl w2.heap.size w2).alloc (Nat.le_refl _) _) hb3);have y3:w3.cell? ⟨w2.heap.size,3,none⟩=some (.slice a n c):=(hb3.cell (p:=⟨w2.heap.size,3,none⟩) (by simp)).trans (by simp[go_sem]);have hl3:w2.heap.size<w3.heap.size:=Nat.lt_of_lt_of_le (by simp) hb3.size;clear ho hb3 hsl)|(go_at_call 60;refine HG.out.mono ?_;rintro e w2 ⟨ho,hb2⟩;obtain⟨fb,o,cs,rfl,hfd,hvc⟩:=HO.out _ _ ho;have HFD:=hid hfd;obtain⟨a,c,hcs,hc1,hc2,_,hkd⟩:=hvc.form;have hcs2:cs=[.int .u8 82,.string ⟨#[]⟩,.int .i64 0,.slice a n c]:=(by rw[hcs];show [_,_,_,Value.slice a (es.map Wf.tagged).length c]=_;rw[List.length_map,HN.out];rfl);subst hcs2;have HKD:=hid hkd;have HB2:=hid hb2;clear ho hb2 hfd hvc hcs hkd hc1))
   have HFD3:=hid (HFD.out.below HB23.out);have HB3:=hid (HB2.out.trans (HB23.out.mono HB2.out.size));go_loopw [36] (fun s36 wr=>∃ i:Nat,s36=.int .i64 i/\i<=n/\Hid ((∀ j (hj:j<es.length),j<i->((es[j]).1.tag:Int)≠g)/\Below w3.heap.size w3 wr)) (fun s36 _=>n-(RowKit.intOf s36).toNat)
   case atStart=>exact⟨0,rfl,Nat.zero_le _,hid ⟨fun j hj h=>by omega,Below.refl _ _⟩⟩
   case round =>
    obtain⟨i,rfl,hi,hh⟩:=hrel;have BR:=hid (HB23.out.trans (hh.out.2.mono HB23.out.size));have hlr:w2.heap.size<wr.heap.size:=Nat.lt_of_lt_of_le hl3 hh.out.2.size;by_cases hlt:i<n
    ·have hix:i<es.length:=by rw[HN.out];exact hlt
     obtain⟨b,o',rfl,hpb,hbw,hvs⟩:∃ b o',a=some ⟨b,o',none⟩/\w.heap.size<=b/\b<w2.heap.size/\VCs w2 (fun b=>w.heap.size<=b) b o' (es.map Wf.tagged):=by
      rcases HKD.out with h|⟨b,o',h1,h2,h3,h4⟩
      ·exfalso
       have h5:(es.map Wf.tagged).length=0:=by
        have:es.map Wf.tagged=[]:=h;rw[this];rfl
       rw[List.length_map] at h5;omega
      ·exact⟨b,o',h1,h2,h3,h4⟩
     obtain⟨cs,hvk,hcc⟩:=hvs.get i (by rw[List.length_map];exact hix);rw[List.getElem_map] at hvk;obtain⟨b2,o2,c2,q3,g3,n3,c3,T3,a3,rfl,h1c,hcm,hp2,hb2w,hvv,k0,k1,k2,k3⟩:=VC.fld hvk;obtain⟨T,hT⟩:∃ T,(es[i]).1.tag=T:=⟨_,rfl⟩;rw[hT] at hcc;have hbr:b<wr.heap.size:=(by omega);have hb2r:b2<wr.heap.size:=(by omega);have z0:wr.cell? ⟨b,o'+i*4,none⟩=some (.int .u8 61):=(BR.out.cell (p:=⟨b,o'+i*4,none⟩) hbw).trans (hcc 0 _ rfl);have z1:wr.cell? ⟨b,o'+i*4+1,none⟩=some (.string ⟨#[]⟩):=(BR.out.cell (p:=⟨b,o'+i*4+1,none⟩) hbw).trans (hcc 1 _ rfl);have z2:wr.cell? ⟨b,o'+i*4+2,none⟩=some (.int .i64 T):=(BR.out.cell (p:=⟨b,o'+i*4+2,none⟩) hbw).trans (hcc 2 _ rfl);have z3:wr.cell? ⟨b,o'+i*4+3,none⟩=some (.slice (some ⟨b2,o2,none⟩) 1 c2):=(BR.out.cell (p:=⟨b,o'+i*4+3,none⟩) hbw).trans (hcc 3 _ rfl);have u0:=(BR.out.cell (p:=⟨b2,o2,none⟩) hb2w).trans k0;have u1:=(BR.out.cell (p:=⟨b2,o2+1,none⟩) hb2w).trans k1;have u2:=(BR.out.cell (p:=⟨b2,o2+2,none⟩) hb2w).trans k2;have u3:=(BR.out.cell (p:=⟨b2,o2+3,none⟩) hb2w).trans k3;have HTT:=hid hT;clear hvs hvk hcc k0 k1 k2 k3 hT;by_cases hg:(T:Int)=g
     ·have tg:((T:Int)==g)=true:=beq_iff_eq.2 hg
      have HF:=hid (show vfV (bP s.data.toList kt.data.toList v.data.toList g)=.tuple #[tx (es[i]).2.print,.bool true] by
       rw[HFI.out];unfold Wf.getEs;rw[<-HGET.out,zL hix hh.out.1 (by rw[HTT.out];exact hg)];rfl)
      have hpl:=Wf.nX (List.getElem_mem hix);have hpl2:(es[i]).2.print.length<=1000000:=(by have:=HRL.out;omega);obtain⟨O,hO⟩:∃ O:ByteArray,(⟨(es[i]).2.print.toArray⟩:ByteArray)=O:=⟨_,rfl⟩;have HPR:=hid fun(wz:World) (hz:Below w2.heap.size w2 wz)=>(by
       have h:=print (es[i]).2 _ _ w2 wz hvv hz hpl2;rw[tx,hO] at h;exact h:Calls Tryz.prog 62 #[.agg #[.int .u8 q3,.string T3,.int .i64 g3,.slice a3 n3 c3]] wz fun e w'=>e=.returned (.string O)/\Below wz.heap.size wz w')
      have HOO:=hid hO;clear hg hpl hpl2 hO hvv;go_wp2_with (go_at_call 62;refine(HPR.out _ (BR.out.alloc (Nat.le_of_lt hlr) _)).mono ?_;rintro e w5 ⟨rfl,hb5⟩;have HB5:=hid (aC ((Below.refl wr.heap.size wr).alloc (Nat.le_refl _) _) hb5);clear hb5)
      exact bodyPost_ret (v:=.tuple #[.string O,.bool true]) (by simp[results,Tryz.results29,go_sem, *]) rfl ⟨by rw[HF.out,tx,HOO.out],HB2.out.trans ((BR.out.trans (HB5.out.mono BR.out.size)).mono HB2.out.size)⟩
     ·have tg:((T:Int)==g)=false:=beq_eq_false_iff_ne.2 hg
      have HG2:=hid hg;clear hg hvv;go_wp2_with fail
      go_roundw
      case rel=>exact⟨i+1,by go_num,by omega,hid ⟨fun j hj hjk=>by
       by_cases hj2:j=i
       ·subst hj2;rw[HTT.out];exact HG2.out
       ·exact hh.out.1 j hj (by omega),hh.out.2.alloc hh.out.2.size _⟩⟩
      case measure=>simp[RowKit.intOf];omega
    ·have hin:i=n:=by omega
     subst hin;have HF:=hid (show vfV (bP s.data.toList kt.data.toList v.data.toList g)=.tuple #[tx (Wf.aH x f),.bool true] by
      rw[HFI.out];unfold Wf.getEs;rw[<-HGET.out,a0U fun j hj=>hh.out.1 j hj (by rw[<-HN.out];exact hj)];rfl)
     obtain⟨O,hO⟩:∃ O:ByteArray,(⟨(Wf.aH x f).toArray⟩:ByteArray)=O:=⟨_,rfl⟩;have HOO:=hid hO;simp only[tx,hO] at HOF;clear hO;go_wp2_with (go_at_call 48;refine(HOF.out _ _ _ _ w3 _ hh.out.2 HSL.out HFD3.out).mono ?_;rintro e w5 ⟨rfl,hb5⟩;have HB5:=hid hb5;clear hb5)
     exact bodyPost_ret (v:=.tuple #[.string O,.bool true]) (by simp[results,Tryz.results29,go_sem, *]) rfl ⟨by rw[HF.out,tx,HOO.out],HB2.out.trans ((BR.out.trans (HB5.out.mono BR.out.size)).mono HB2.out.size)⟩
theorem qV (o:Option (List UInt8)):∃ (t:ByteArray) (b:Bool),vfV o=.tuple #[.string t,.bool b]:=by
 cases o with
 | none=>exact⟨_,_,rfl⟩
 | some s=>exact⟨_,_,rfl⟩
