/- Packed. -/
import Derived.Test.YtidjpalnmnehmaaGreatDoorG38
set_option maxRecDepth 99999
set_option maxHeartbeats 40000000
set_option linter.all false
namespace Go.Proofs.YtidjpalnmnehmaaGreatDoor
open Go.ChangeShapes Go.WideShapes Go.ChangeAt Go.RowKit Go.Lib
theorem uY {S:ByteArray} {c:UInt8} {q:List UInt8} (h:S.data.toList=c::q):S.toList.isEmpty=false/\S.toList≠[]/\0<S.size/\1<=S.size/\(∀ h,(S[0]'h).toNat=c.toNat)/\(S.extract 1 S.size).data.toList=q:=by
 rcases fR S with⟨h1,_⟩|⟨c',q',h1,h2,h3,h4,h5,h6⟩
 ·rw[h] at h1;cases h1
 ·rw[h] at h1
  cases h1;exact⟨h2,h3,h4,h4,h5,by rw[h6]⟩
section
variable (x:Wf.Sc) (v:Value) (W:World) (n:Nat) (S KT:ByteArray) (D:Int) (w:World) (o:Option (Wf.V × List UInt8))
theorem qQ (h:S.toList.isEmpty=true\/(S.toList.isEmpty=false/\decide (D<1)=true)) (ho:o=none):Calls Tryz.prog 51 #[.agg #[v],.string S,.string KT,.int .i64 D] w fun e w'=>aD o w e w'/\Below w.heap.size w w':=by
 have HO:=hid ho;clear ho;rcases h with h|⟨h,h2⟩;all_goals
  go_enter Tryz.func51,Tryz.ntmps51;go_wp2_with fail
  all_goals exact zbD (v:=.tuple #[.pointer none,.string S,.bool false]) (by simp[results,Tryz.results51,go_sem, *]) rfl ⟨aD.no HO.out ⟨_,_,rfl⟩,(zaB).alloc (zaA) _⟩
theorem kF (hS:S.toList.isEmpty=false) (hD:decide (D<1)=false) (q:Nat) (hk0:0<KT.size) (ek:∀ h,(KT[0]'h).toNat=q) (hq:q=110\/q=116\/q=102)
  (hp:∀ wz,Calls Tryz.prog 88 #[.agg #[v],.string S,.string KT] wz fun e w'=>aD o wz e w'/\Below wz.heap.size wz w') :
  Calls Tryz.prog 51 #[.agg #[v],.string S,.string KT,.int .i64 D] w fun e w'=>aD o w e w'/\Below w.heap.size w w':=by
 have HP:=hid hp;clear hp;rcases hq with rfl|rfl|rfl;all_goals
  go_enter Tryz.func51,Tryz.ntmps51;go_wp2_with (go_at_call 88;refine(HP.out _).mono ?_;rintro e w7 ⟨ho,hb7⟩;obtain⟨p,r,b,rfl,hlr⟩:=ho.form;have HLR:=hid hlr;have HB7:=hid (aE ((Below.refl w.heap.size w).alloc (zaA) _) hb7);clear ho hb7 hlr)
  all_goals exact zbD (v:=.tuple #[.pointer p,.string r,.bool b]) (by simp[results,Tryz.results51,go_sem, *]) rfl ⟨HLR.out.mono (by simp),HB7.out⟩
theorem a5Q (hS:S.toList.isEmpty=false) (hD:decide (D<1)=false) (hk0:0<KT.size) (ek:∀ h,(KT[0]'h).toNat=64)
  (hp:∀ wz,Below w.heap.size w wz->Calls Tryz.prog 87 #[.agg #[v],.string S,.string KT,.int .i64 D] wz fun e w'=>aD o wz e w'/\Below wz.heap.size wz w') :
  Calls Tryz.prog 51 #[.agg #[v],.string S,.string KT,.int .i64 D] w fun e w'=>aD o w e w'/\Below w.heap.size w w':=by
 have HP:=hid hp;clear hp;go_enter Tryz.func51,Tryz.ntmps51;go_wp2_with (go_at_call 87;refine(HP.out _ ((zaB).alloc (zaA) _)).mono ?_;rintro e w7 ⟨ho,hb7⟩;obtain⟨p,r,b,rfl,hlr⟩:=ho.form;have HLR:=hid hlr;have HB7:=hid (aE ((Below.refl w.heap.size w).alloc (zaA) _) hb7);clear ho hb7 hlr)
 all_goals exact zbD (v:=.tuple #[.pointer p,.string r,.bool b]) (by simp[results,Tryz.results51,go_sem, *]) rfl ⟨HLR.out.mono (by simp),HB7.out⟩
theorem a4F (hS:S.toList.isEmpty=false) (h0:0<S.size) (hD:decide (D<1)=false) (hk0:0<KT.size) (ek:∀ h,(KT[0]'h).toNat=91) (b0:Nat) (e1:∀ h,(S[0]'h).toNat=b0) (m1:((b0:Int) != 91)=true) (ho:o=none) :
  Calls Tryz.prog 51 #[.agg #[v],.string S,.string KT,.int .i64 D] w fun e w'=>aD o w e w'/\Below w.heap.size w w':=by
 have HO:=hid ho;clear ho;go_enter Tryz.func51,Tryz.ntmps51;go_wp2_with fail
 all_goals exact zbD (v:=.tuple #[.pointer none,.string S,.bool false]) (by simp[results,Tryz.results51,go_sem, *]) rfl ⟨aD.no HO.out ⟨_,_,rfl⟩,(zaB).alloc (zaA) _⟩
theorem a4C (R:ByteArray) (hS:S.toList.isEmpty=false) (h0:0<S.size) (h1:1<=S.size) (hR:S.extract 1 S.size=R) (hD:decide (D<1)=false) (hk0:0<KT.size) (ek:∀ h,(KT[0]'h).toNat=91) (e1:∀ h,(S[0]'h).toNat=91)
  (hp:∀ wz,Below w.heap.size w wz->Calls Tryz.prog 86 #[.agg #[v],.string R,.string KT,.int .i64 D] wz fun e w'=>aD o wz e w'/\Below wz.heap.size wz w') :
  Calls Tryz.prog 51 #[.agg #[v],.string S,.string KT,.int .i64 D] w fun e w'=>aD o w e w'/\Below w.heap.size w w':=by
 have HP:=hid hp;have kx:∀ wz,(Instr.slice 9 (.string S) (some (.int .i64 1)) none none).run Tryz.prog wz=.ok (.string R) wz:=fun wz=>by
  have h:=bM S 1 h1 wz;rw[hR] at h;exact h
 clear hp hR;have c0:(w.alloc (.cells #[v] 99)).cell? ⟨w.heap.size,0,none⟩=some v:=by simp[go_sem]
 have B3:=hid ((Below.refl w.heap.size w).alloc (zaA) (.cells #[v] 99));have hl3:w.heap.size<(w.alloc (.cells #[v] 99)).heap.size:=by simp
 go_enter Tryz.func51,Tryz.ntmps51;go_wp2_with fail
 obtain⟨W3,hW3⟩:∃ W3,w.alloc (.cells #[v] 99)=W3:=⟨_,rfl⟩;rw[hW3] at c0 B3 hl3;rw[hW3];clear hW3;go_region_held3 (fun w'=>w'.cell? ⟨w.heap.size,0,none⟩=some v) (first|exact j0|go_keep) ((go_at_call 86;refine(HP.out W3.drew B3.out.drew).mono ?_;rintro e w7 ⟨ho,hb7⟩;obtain⟨p,r,b,rfl,hlr⟩:=ho.form;have HLR:=hid hlr;have HB7:=hid (zbE (Below.refl W3.heap.size W3) |>.trans hb7);have j0:=(HB7.out.cell (p:=⟨w.heap.size,0,none⟩) hl3).trans c0;clear ho hb7 hlr))
 all_goals (go_wp2_with fail)
 all_goals exact zbD (v:=.tuple #[.pointer p,.string r,.bool b]) (by simp[results,Tryz.results51,go_sem, *]) rfl ⟨HLR.out.mono B3.out.size,B3.out.trans (HB7.out.mono B3.out.size)⟩
theorem a1K (hS:S.toList.isEmpty=false) (h0:0<S.size) (hD:decide (D<1)=false) (hk0:0<KT.size) (ek:∀ h,(KT[0]'h).toNat=63) (b0:Nat) (e1:∀ h,(S[0]'h).toNat=b0) (m0:((b0:Int)==45)=false) (m1:((b0:Int) != 43)=true) (ho:o=none) :
  Calls Tryz.prog 51 #[.agg #[v],.string S,.string KT,.int .i64 D] w fun e w'=>aD o w e w'/\Below w.heap.size w w':=by
 have HO:=hid ho;clear ho;go_enter Tryz.func51,Tryz.ntmps51;go_wp2_with fail
 all_goals exact zbD (v:=.tuple #[.pointer none,.string S,.bool false]) (by simp[results,Tryz.results51,go_sem, *]) rfl ⟨aD.no HO.out ⟨_,_,rfl⟩,(zaB).alloc (zaA) _⟩
theorem a3V (R:ByteArray) (hS:S.toList.isEmpty=false) (h0:0<S.size) (h1:1<=S.size) (hR:S.extract 1 S.size=R) (hD:decide (D<1)=false) (hk0:0<KT.size) (ek:∀ h,(KT[0]'h).toNat=63) (hk:KT.data.toList.head? = some 63) (e1:∀ h,(S[0]'h).toNat=45) (ho:o=some (.mk 63 [] 0 [],R.data.toList)) :
  Calls Tryz.prog 51 #[.agg #[v],.string S,.string KT,.int .i64 D] w fun e w'=>aD o w e w'/\Below w.heap.size w w':=by
 have HO:=hid ho;have HKH:=hid hk;have kx:∀ wz,(Instr.slice 9 (.string S) (some (.int .i64 1)) none none).run Tryz.prog wz=.ok (.string R) wz:=fun wz=>by
  have h:=bM S 1 h1 wz;rw[hR] at h;exact h
 clear ho hR hk;go_enter Tryz.func51,Tryz.ntmps51;go_wp2_with fail
 go_region
 all_goals (go_wp2_with fail)
 all_goals exact zbD (v:=.tuple #[ptr (w.heap.size+1),.string R,.bool true]) (by simp[results,Tryz.results51,go_sem, *]) rfl (by
  have hR:∀ W3:World,W3.heap.size=w.heap.size+1->Below w.heap.size w W3->(aD o w (.returned (.tuple #[ptr (w.heap.size+1),.string R,.bool true])) (W3.alloc (.cells #[.string KT,.string ⟨#[]⟩,.slice none 0 0,.slice none 0 0] 103))/\Below w.heap.size w (W3.alloc (.cells #[.string KT,.string ⟨#[]⟩,.slice none 0 0,.slice none 0 0] 103))):=fun W3 h1 h2=>by
   refine⟨aD.yes HO.out ⟨w.heap.size+1,rfl,?_⟩,h2.alloc h2.size _⟩;rw[<-h1];exact LV.new (kd:=KT.data.toList) (t:=[]) (by decide) ⟨HKH.out,rfl⟩ rfl h2.size (by simp) (by first|(simp[go_sem];done)|(simp[go_sem];rfl)) (by first|(simp[go_sem];done)|(simp[go_sem];rfl)) (by simp[go_sem]) (by simp[go_sem])
  have hb:=(Below.refl w.heap.size w).alloc (zaA) (.cells #[v] 99);first|exact hR _ (by simp) hb|exact hR _ (by simp) hb.drew)
theorem a1H (k:Wf.K) (R K1:ByteArray) (hS:S.toList.isEmpty=false) (h0:0<S.size) (h1:1<=S.size) (hR:S.extract 1 S.size=R) (hD:decide (D<1)=false) (hk0:0<KT.size) (hk1:1<=KT.size) (hK1:KT.extract 1 KT.size=K1) (ek:∀ h,(KT[0]'h).toNat=63) (hk:KT.data.toList.head? = some 63) (e1:∀ h,(S[0]'h).toNat=43) (kd:IntKind.i64.wrap (D-1)=(n:Int)) (o1:Option (Wf.V × List UInt8)) (ho:o=o1.map fun y=>(.mk 63 [] 0 [y.1],y.2))
  (hp:∀ wz,Below w.heap.size w wz->Calls Tryz.prog 51 #[.agg #[v],.string R,.string K1,.int .i64 n] wz fun e w'=>aD o1 wz e w'/\Below wz.heap.size wz w') :
  Calls Tryz.prog 51 #[.agg #[v],.string S,.string KT,.int .i64 D] w fun e w'=>aD o w e w'/\Below w.heap.size w w':=by
 have HP:=hid hp;have HKH:=hid hk;have HO:=hid ho;have kx:∀ wz,(Instr.slice 9 (.string S) (some (.int .i64 1)) none none).run Tryz.prog wz=.ok (.string R) wz:=fun wz=>by
  have h:=bM S 1 h1 wz;rw[hR] at h;exact h
 have ky:∀ wz,(Instr.slice 9 (.string KT) (some (.int .i64 1)) none none).run Tryz.prog wz=.ok (.string K1) wz:=fun wz=>by
  have h:=bM KT 1 hk1 wz;rw[hK1] at h;exact h
 clear hp hR hK1 hk ho;have c0:(w.alloc (.cells #[v] 99)).cell? ⟨w.heap.size,0,none⟩=some v:=by simp[go_sem]
 have B3:=hid ((Below.refl w.heap.size w).alloc (zaA) (.cells #[v] 99));have hl3:w.heap.size<(w.alloc (.cells #[v] 99)).heap.size:=by simp
 go_enter Tryz.func51,Tryz.ntmps51;go_wp2_with fail
 obtain⟨W3,hW3⟩:∃ W3,w.alloc (.cells #[v] 99)=W3:=⟨_,rfl⟩;rw[hW3] at c0 B3 hl3;rw[hW3];clear hW3;go_region_held3 (fun w'=>w'.cell? ⟨w.heap.size,0,none⟩=some v) (first|exact j0|go_keep) ((go_at_call 51;refine(HP.out W3.drew B3.out.drew).mono ?_;rintro e w7 ⟨ho,hb7⟩;obtain⟨p,r,b,rfl,hlr⟩:=ho.form;have HLR:=hid hlr;have HB7:=hid (zbE (Below.refl W3.heap.size W3) |>.trans hb7);have j0:=(HB7.out.cell (p:=⟨w.heap.size,0,none⟩) hl3).trans c0;clear ho hb7 hlr))
 all_goals (go_wp2_with fail)
 all_goals exact zbD (v:=.tuple #[ptr (w7.heap.size+1),.string r,.bool b]) (by simp[results,Tryz.results51,go_sem, *]) rfl (by
  have hle:=zaI B3.out.size HB7.out.size;have h7:=B3.out.trans (HB7.out.mono B3.out.size);refine⟨?_,(h7.alloc hle _).alloc (by simp;omega) _⟩;have hl:=HLR.out;cases ho1:o1 with
  | none =>
   rw[ho1] at hl;obtain⟨p',r',he⟩:=hl;obtain⟨_,_,e2⟩:=three he;injection e2 with e2;subst e2;exact aD.no (by rw[HO.out,ho1];rfl) ⟨_,_,rfl⟩
  | some y =>
   rw[ho1] at hl;obtain⟨b',he,hlv⟩:=hl;obtain⟨e0,e1,e2⟩:=three he;injection e0 with e0;injection e1 with e1;injection e2 with e2;subst e0 e1 e2;refine aD.yes (v:=.mk 63 [] 0 [y.1]) (r:=y.2) (by rw[HO.out,ho1];rfl) ⟨w7.heap.size+1,rfl,LV.opt1 (kb:=w7.heap.size) (u:=b') (KT:=KT) (by omega) hle (by first|(simp;done)|(simp;omega)) (by first|(simp;done)|(simp;omega)) HKH.out ?_ ?_ ?_ ?_ ?_ ?_ (LV.mono (LV.below (LV.below hlv ((zaB).alloc (zaA) _)) ((zaB).alloc (zaA) _)) fun z hz _=>by have:=B3.out.size;have:W3.drew.heap.size=W3.heap.size:=rfl;omega)⟩;all_goals (simp[go_sem];done))
end

theorem kI {x:Wf.Sc} {v:Value} {W:World} (hx:Wf.ScOk x) (lo bsc:Nat) (hsp:ScSp W lo bsc v x) {nm:List UInt8} {t:Wf.Ty} (hf:x.find nm=some t) (hnm:(Wf.K.ref nm).text.length<=1000000) (q:Nat) (hq:t.sort.toNat=q) (wz:World) (hz:Below W.heap.size W wz):Calls Tryz.prog 122 #[v,tx (Wf.K.ref nm).text] wz fun e w'=>(∃ fb fa fc,e=.returned (.tuple #[.agg #[.int .u8 q,.string ⟨t.name.toArray⟩,.slice fa t.fields.length fc],.bool true])/\RowK W fb (.slice fa t.fields.length fc) 4 (t.fields.map (fdS t.sort)))/\Below wz.heap.size wz w':=by
 rw[<-hq];exact a2D x v W t nm hx lo bsc hsp hf hnm wz hz
theorem yO (x:Wf.Sc) (hx:Wf.ScOk x) (v:Value) (lo bsc:Nat) (W:World) (hsp:ScSp W lo bsc v x):∀ (n:Nat),n<=1000->∀ (k:Wf.K),KOk x k->LR x v W n k:=by
 intro n;induction n with
 | zero =>
  intro _ k hk S w hS hW;refine qQ v S ⟨k.text.toArray⟩ (0:Nat) w _ ?_ (Wf.a5K x k _);by_cases h:S.toList.isEmpty=true
  ·exact .inl h
  ·exact .inr ⟨by simpa using h,by decide⟩
 | succ n ih =>
  intro hn k hk S w hS hW;have hD:decide (((n+1:Nat):Int)<1)=false:=decide_eq_false (by omega);have hDe:((n+1:Nat):Int)=(n:Int)+1:=by omega
  have kd:IntKind.i64.wrap (((n+1:Nat):Int)-1)=(n:Int):=by rw[hDe,Int.add_sub_cancel];exact zbI _ (by omega)
  cases hl:S.data.toList with
  | nil =>
   refine qQ v S ⟨k.text.toArray⟩ _ w _ (.inl ?_) (Wf.sH x (n+1) k);rw[zaZ,hl];rfl
  | cons c q =>
   obtain⟨e1,e2,e3,e4,e5,e6⟩:=uY hl;have hRs:(S.extract 1 S.size).size<=1048576:=(by rw[zaY];omega);rw[<-hl];cases k with
   | num=>exact kF v S ⟨(Wf.K.text .num).toArray⟩ _ w _ e1 hD 110 (by decide) (fun _=>rfl) (.inl rfl) (fun wz=>a0S x n v S hS wz)
   | txt=>exact kF v S ⟨(Wf.K.text .txt).toArray⟩ _ w _ e1 hD 116 (by decide) (fun _=>rfl) (.inr (.inl rfl)) (fun wz=>a3K x n v S hS wz)
   | flag=>exact kF v S ⟨(Wf.K.text .flag).toArray⟩ _ w _ e1 hD 102 (by decide) (fun _=>rfl) (.inr (.inr rfl)) (fun wz=>a1W x n v S hS wz)
   | list k =>
    obtain⟨hk0,ek⟩:=bC (kd:=(Wf.K.list k).text) (c:=91) rfl;by_cases hc:c=91
    ·subst hc
     rw[hl];have h:=fun wz (hz:Below w.heap.size w wz)=>wU x v W n k (S.extract 1 S.size) ((n+1:Nat):Int) wz hRs hDe (by omega) (ih (by omega) k hk.list) (hW.trans (hz.mono hW.size));rw[e6] at h;exact a4C v S _ _ w _ _ e1 e3 e4 rfl hD hk0 ek e5 h
    ·refine a4F v S _ _ w _ e1 e3 hD hk0 ek c.toNat e5 ?_ (Wf.tU x n k (by rw[hl];simpa using hc))
     rw[bne_iff_ne];intro h;exact hc (UInt8.toNat_inj.1 (by show c.toNat=91;omega))
   | opt k =>
    obtain⟨hk0,ek⟩:=bC (kd:=(Wf.K.opt k).text) (c:=63) rfl;have hK1:(⟨(Wf.K.opt k).text.toArray⟩:ByteArray).extract 1 (⟨(Wf.K.opt k).text.toArray⟩:ByteArray).size=⟨k.text.toArray⟩:=(by rw[aS,cL];rfl);by_cases h45:c=45
    ·subst h45
     exact a3V v S _ _ w _ _ e1 e3 e4 rfl hD hk0 ek rfl e5 (by rw[e6,hl];exact Wf.pM x n k q)
    ·by_cases h43:c=43
     ·subst h43
      refine a1H v n S _ _ w _ k _ _ e1 e3 e4 rfl hD hk0 (by simp[ByteArray.size,Wf.K.text]) hK1 ek rfl e5 kd (Wf.parse x n k (S.extract 1 S.size).data.toList) (by rw[hl,e6];exact Wf.tZ x n k q) (fun wz hz=>ih (by omega) k hk.opt _ wz hRs (hW.trans (hz.mono hW.size)))
     ·refine a1K v S _ _ w _ e1 e3 hD hk0 ek c.toNat e5 ?_ ?_ (Wf.uB x n k (by rw[hl];simpa using h45) (by rw[hl];simpa using h43))
      ·rw[zaJ]
       intro h;exact h45 (UInt8.toNat_inj.1 (by show c.toNat=45;omega))
      ·rw[bne_iff_ne]
       intro h;exact h43 (UInt8.toNat_inj.1 (by show c.toNat=43;omega))
   | ref nm =>
    obtain⟨hk0,ek⟩:=bC (kd:=(Wf.K.ref nm).text) (c:=64) rfl;obtain⟨t,hf⟩:=Wf.mS hk.ref;have htx:=(Wf.bK hf).1;have hto:=hx.tys t htx;have hnm:(Wf.K.ref nm).text.length<=1000000:=(by have:=hk.len;omega);have htl:t.fields.length<=1000:=(by have:=hto.len;omega);have hR:=fun(h69:t.sort≠69) f hfm=>ih (by omega) f.kind (KOk.fld hx htx h69 (f:=f) hfm);refine a5Q v S _ _ w _ e1 hD hk0 ek fun wz hz=>?_;have hWz:=hW.trans (hz.mono hW.size);rcases hto.sort with hs|hs|hs
    ·have hr:=fun wy (hy:Below wz.heap.size wz wy)=>kI hx lo bsc hsp hf hnm 82 (by rw[hs];rfl) wy (hWz.trans (hy.mono hWz.size))
     by_cases hc:c=123
     ·subst hc
      rw[hl];have h:=fun fb fa fc wy (hrow:RowK W fb (.slice fa t.fields.length fc) 4 (t.fields.map (fdS t.sort))) (hy:Below wz.heap.size wz wy)=>wV x v W n t nm (S.extract 1 S.size) ((n+1:Nat):Int) wy hx lo bsc hsp htx hf fb fc fa hrow hs hRs hDe (by omega) (hR (by rw[hs];decide)) (hWz.trans (hy.mono hWz.size));rw[e6] at h;exact a1Q v W t S _ wz _ _ _ _ e4 e5 rfl _ hr h
     ·refine mI v S _ wz 82 c.toNat _ _ t.fields.length e3 e5 (.inl ⟨rfl,?_⟩) (fun wy hy=>(hr wy hy).mono fun e w' ⟨⟨fb,fa,fc,h1,_⟩,h2⟩=>⟨⟨fa,fc,h1⟩,h2⟩) _ (Wf.nM x n hf hs (by rw[hl];simpa using hc))
      rw[zaJ];intro h;exact hc (UInt8.toNat_inj.1 (by show c.toNat=123;omega))
    ·have hr:=fun wy (hy:Below wz.heap.size wz wy)=>kI hx lo bsc hsp hf hnm 85 (by rw[hs];rfl) wy (hWz.trans (hy.mono hWz.size))
     by_cases hc:c=60
     ·subst hc
      rw[hl];have h:=uP x v W n t nm S ((n+1:Nat):Int) wz ⟨(Wf.K.ref nm).text.toArray⟩ ⟨t.name.toArray⟩ (S.extract 1 S.size) t.fields.length hx htx hf e4 hRs rfl e5 rfl hs hDe (by omega) hWz (hR (by rw[hs];decide)) hr (fun fb fa fc wy hrow hy=>by
       have h:=lW t htl v (S.extract 1 S.size) hRs fb fc fa W wy (hWz.trans (hy.mono hWz.size)) hrow;rw[hs] at h;exact h)
      rw[e6] at h;exact h
     ·refine mI v S _ wz 85 c.toNat _ _ t.fields.length e3 e5 (.inr (.inr ⟨rfl,?_⟩)) (fun wy hy=>(hr wy hy).mono fun e w' ⟨⟨fb,fa,fc,h1,_⟩,h2⟩=>⟨⟨fa,fc,h1⟩,h2⟩) _ (Wf.pV x n hf hs (by rw[hl];simpa using hc))
      rw[zaJ];intro h;exact hc (UInt8.toNat_inj.1 (by show c.toNat=60;omega))
    ·have hr:=fun wy (hy:Below wz.heap.size wz wy)=>kI hx lo bsc hsp hf hnm 69 (by rw[hs];rfl) wy (hWz.trans (hy.mono hWz.size))
     by_cases hc:c=35
     ·subst hc
      rw[hl,a4Q x n hf hs q];have h:=a1Z v W t S ((n+1:Nat):Int) wz ⟨(Wf.K.ref nm).text.toArray⟩ ⟨t.name.toArray⟩ (S.extract 1 S.size) t.fields.length e4 rfl e5 rfl hs hr (fun fb fa fc wy hrow hy=>by
       have h:=lW t htl v (S.extract 1 S.size) hRs fb fc fa W wy (hWz.trans (hy.mono hWz.size)) hrow;rw[hs] at h;exact h)
      rw[e6] at h;exact h
     ·refine mI v S _ wz 69 c.toNat _ _ t.fields.length e3 e5 (.inr (.inl ⟨rfl,?_⟩)) (fun wy hy=>(hr wy hy).mono fun e w' ⟨⟨fb,fa,fc,h1,_⟩,h2⟩=>⟨⟨fa,fc,h1⟩,h2⟩) _ (Wf.tW x n hf hs (by rw[hl];simpa using hc))
      rw[zaJ];intro h;exact hc (UInt8.toNat_inj.1 (by show c.toNat=35;omega))
def cG (l kt s:List UInt8) (lo:Nat) (e:Ending) (w':World):Prop:=match valOf l kt s with
 | some y=>∃ b a c p,e=.returned (.tuple #[.slice a y.1.1.length c,ptr p,.bool true])/\ScSp w' lo b (.slice a y.1.1.length c) y.1.1/\LV w' (fun z=>lo<=z) y.2 p
 | none=>∃ a n c p,e=.returned (.tuple #[.slice a n c,.pointer p,.bool false])
theorem cG.no {l kt s:List UInt8} {lo:Nat} {e:Ending} {w':World} (h:valOf l kt s=none) (he:∃ a n c p,e=.returned (.tuple #[.slice a n c,.pointer p,.bool false])):cG l kt s lo e w':=by
 unfold cG;rw[h];exact he
theorem cG.yes {l kt s:List UInt8} {lo:Nat} {e:Ending} {w':World} {y:(Wf.Sc × Wf.K) × Wf.V} (h:valOf l kt s=some y) (he:∃ b a c p,e=.returned (.tuple #[.slice a y.1.1.length c,ptr p,.bool true])/\ScSp w' lo b (.slice a y.1.1.length c) y.1.1/\LV w' (fun z=>lo<=z) y.2 p):cG l kt s lo e w':=by
 unfold cG;rw[h];exact he
theorem l4Of (s kt v:ByteArray) (w:World) (hs:s.size<=1048576) (hv:v.size<=1048576):Calls Tryz.prog 29 #[.string s,.string kt,.string v] w fun e w'=>cG s.data.toList kt.data.toList v.data.toList w.heap.size e w'/\Below w.heap.size w w':=by
 have HLK:=hid (lJ s kt w hs);cases hty:aU s.data.toList kt.data.toList with
 | none =>
  have HO:=hid fun lo e wz (h:cE s.data.toList kt.data.toList lo e wz)=>(by unfold cE at h;rw[hty] at h;exact h:∃ a n c,e=.returned (.tuple #[.slice a n c,.bool false]));have HF:=hid (show valOf s.data.toList kt.data.toList v.data.toList=none by unfold valOf;rw[hty]);clear hty;go_enter Tryz.func29,Tryz.ntmps29;go_wp2_with (go_at_call 50;refine HLK.out.mono ?_;rintro e w2 ⟨ho,hb2⟩;obtain⟨a,n,c,rfl⟩:=HO.out _ _ _ ho;have HB2:=hid hb2;clear ho hb2)
  all_goals exact zbD (v:=.tuple #[.slice none 0 0,.pointer none,.bool false]) (by simp[results,Tryz.results29,go_sem, *]) rfl ⟨cG.no HF.out ⟨_,_,_,_,rfl⟩,HB2.out⟩
 | some y =>
  obtain⟨x,k⟩:=y;obtain⟨hsc,hpk,hhas,hkt,hkl⟩:=kA hty;have hx:=Wf.iM hsc;have hk:KOk x k:=⟨by rw[hkt];exact hkl,hhas⟩;have HO:=hid fun lo e wz (h:cE s.data.toList kt.data.toList lo e wz)=>(by unfold cE at h;rw[hty] at h;exact h:∃ b a c,e=.returned (.tuple #[.slice a x.length c,.bool true])/\ScSp wz lo b (.slice a x.length c) x);obtain⟨xn,hxn⟩:∃ xn,x.length=xn:=⟨_,rfl⟩;rw[hxn] at HO;have hkk:tx k.text=.string kt:=by rw[tx,show k.text=kt.data.toList from hkt]
  by_cases h400:v.size<=400
  ·have HRD:=hid fun(wz:World) (vv:Value) (lo b:Nat) (hsp:ScSp wz lo b vv x)=>(by
    have h:=yO x hx vv lo b wz hsp 12 (by omega) k hk v wz hv (zaB);rw[hkk] at h;exact h:Calls Tryz.prog 51 #[.agg #[vv],.string v,.string kt,.int .i64 12] wz fun e w'=>aD (Wf.parse x 12 k v.data.toList) wz e w'/\Below wz.heap.size wz w')
   have HV:=hid (show valOf s.data.toList kt.data.toList v.data.toList=match (match Wf.parse x 12 k v.data.toList with|some (u,[])=>some u|_=>none) with|some u=>some ((x,k),u)|none=>none by
    unfold valOf;rw[hty];dsimp only;rw[Wf.valIn,if_pos (by rw[aC];exact h400)];rfl)
   have hd:decide ((400:Int)<(v.size:Int))=false:=decide_eq_false (by omega);clear hty hsc hpk hhas hkt hkl hkk;cases hp:Wf.parse x 12 k v.data.toList with
   | none =>
    have HF:=hid (show valOf s.data.toList kt.data.toList v.data.toList=none by rw[HV.out,hp]);have HO2:=hid fun(e:Ending) (w w':World) (h:aD (Wf.parse x 12 k v.data.toList) w e w')=>(by rw[hp] at h;exact h:∃ (p:Option Addr) (r:ByteArray),e=.returned (.tuple #[.pointer p,.string r,.bool false]));clear hp;go_enter Tryz.func29,Tryz.ntmps29;go_wp2_with (first|(go_at_call 51;refine(HRD.out _ _ _ _ HSP.out).mono ?_;rintro e w3 ⟨ho,hb3⟩;obtain⟨p,r,rfl⟩:=HO2.out _ _ _ ho;have HB3:=hid (aE HB2.out hb3);clear ho hb3)|(go_at_call 50;refine HLK.out.mono ?_;rintro e w2 ⟨ho,hb2⟩;obtain⟨b,a,c,rfl,hsp⟩:=HO.out _ _ _ ho;have HSP:=hid hsp;have HB2:=hid hb2;clear ho hb2 hsp))
    all_goals exact zbD (v:=.tuple #[.slice a xn c,.pointer p,.bool false]) (by simp[results,Tryz.results29,go_sem, *]) rfl ⟨cG.no HF.out ⟨_,_,_,_,rfl⟩,HB3.out⟩
   | some y =>
    obtain⟨u,rr⟩:=y;obtain⟨RR,hRR⟩:∃ RR:ByteArray,(⟨rr.toArray⟩:ByteArray)=RR:=⟨_,rfl⟩;have HO2:=hid fun(e:Ending) (w w':World) (h:aD (Wf.parse x 12 k v.data.toList) w e w')=>(by unfold aD at h;rw[hp] at h;dsimp only at h;rw[tx,hRR] at h;exact h:∃ b,e=.returned (.tuple #[ptr b,.string RR,.bool true])/\LV w' (fun z=>w.heap.size<=z) u b);cases rr with
    | nil =>
     have HF:=hid (show valOf s.data.toList kt.data.toList v.data.toList=some ((x,k),u) by rw[HV.out,hp]);have hre:RR.toList.isEmpty=true:=(by rw[<-hRR,zaZ];rfl);have hre2:RR.toList=[]:=List.isEmpty_iff.1 hre;have HXN:=hid hxn;clear hp hRR hxn;go_enter Tryz.func29,Tryz.ntmps29;go_wp2_with (first|(go_at_call 51;refine(HRD.out _ _ _ _ HSP.out).mono ?_;rintro e w3 ⟨ho,hb3⟩;obtain⟨pb,rfl,hlv⟩:=HO2.out _ _ _ ho;have HLV:=hid hlv;have HB3:=hid (aE HB2.out hb3);have HSP3:=hid (HSP.out.below hb3);clear ho hb3 hlv)|(go_at_call 50;refine HLK.out.mono ?_;rintro e w2 ⟨ho,hb2⟩;obtain⟨b,a,c,rfl,hsp⟩:=HO.out _ _ _ ho;have HSP:=hid hsp;have HB2:=hid hb2;clear ho hb2 hsp))
     all_goals exact zbD (v:=.tuple #[.slice a xn c,ptr pb,.bool true]) (by simp[results,Tryz.results29,go_sem, *]) rfl ⟨cG.yes HF.out ⟨b,a,c,pb,by rw[HXN.out],by rw[HXN.out];exact HSP3.out,LV.mono HLV.out fun z hz _=>zaI HB2.out.size hz⟩,HB3.out⟩
    | cons c0 q0 =>
     have HF:=hid (show valOf s.data.toList kt.data.toList v.data.toList=none by rw[HV.out,hp]);have hre:RR.toList.isEmpty=false:=(by rw[<-hRR,zaZ];rfl);have hre2:RR.toList≠[]:=(by rw[<-hRR,zaZ];exact List.cons_ne_nil _ _);clear hp hRR;go_enter Tryz.func29,Tryz.ntmps29;go_wp2_with (first|(go_at_call 51;refine(HRD.out _ _ _ _ HSP.out).mono ?_;rintro e w3 ⟨ho,hb3⟩;obtain⟨pb,rfl,hlv⟩:=HO2.out _ _ _ ho;have HB3:=hid (aE HB2.out hb3);clear ho hb3 hlv)|(go_at_call 50;refine HLK.out.mono ?_;rintro e w2 ⟨ho,hb2⟩;obtain⟨b,a,c,rfl,hsp⟩:=HO.out _ _ _ ho;have HSP:=hid hsp;have HB2:=hid hb2;clear ho hb2 hsp))
     all_goals exact zbD (v:=.tuple #[.slice a xn c,ptr pb,.bool false]) (by simp[results,Tryz.results29,go_sem, *]) rfl ⟨cG.no HF.out ⟨_,_,_,_,rfl⟩,HB3.out⟩
  ·have HF:=hid (show valOf s.data.toList kt.data.toList v.data.toList=none by
    unfold valOf;rw[hty];dsimp only;rw[Wf.sV (by rw[aC];exact h400)])
   have hd:decide ((400:Int)<(v.size:Int))=true:=decide_eq_true (by omega);clear hty hsc hpk hhas hkt hkl hkk;go_enter Tryz.func29,Tryz.ntmps29;go_wp2_with (go_at_call 50;refine HLK.out.mono ?_;rintro e w2 ⟨ho,hb2⟩;obtain⟨b,a,c,rfl,hsp⟩:=HO.out _ _ _ ho;have HB2:=hid hb2;clear ho hb2 hsp)
   all_goals exact zbD (v:=.tuple #[.slice none 0 0,.pointer none,.bool false]) (by simp[results,Tryz.results29,go_sem, *]) rfl ⟨cG.no HF.out ⟨_,_,_,_,rfl⟩,HB2.out⟩

def vfV:Option (List UInt8)->Value
 | some b=>.tuple #[tx b,.bool true]
 | none=>.tuple #[tx [],.bool false]

theorem vJ (w:World) (SG BS NM:ByteArray):(w.alloc (.cells #[.string SG,.string BS,.string NM] 48)).cell? ⟨w.heap.size,0,none⟩=some (.string SG)/\(w.alloc (.cells #[.string SG,.string BS,.string NM] 48)).cell? ⟨w.heap.size,1,none⟩=some (.string BS)/\(w.alloc (.cells #[.string SG,.string BS,.string NM] 48)).cell? ⟨w.heap.size,2,none⟩=some (.string NM):=by
 refine⟨?_,?_,?_⟩ <;> simp[go_sem]
theorem gP (sb:Nat) (SG BS NM:ByteArray) (w:World) (h:SG.toList.isEmpty=false\/(SG.toList.isEmpty=true/\(BS.toList==[64])=false)):Calls Tryz.prog 36 #[ptr sb,.agg #[.string SG,.string BS,.string NM]] w fun e w'=>e=.returned (.tuple #[.pointer none,.bool false])/\Below w.heap.size w w':=by
 rcases h with h|⟨h,h2⟩;all_goals
  go_enter Tryz.func36,Tryz.ntmps36;go_wp2_with fail
  all_goals exact zbD (v:=.tuple #[.pointer none,.bool false]) (by simp[results,Tryz.results36,go_sem, *]) rfl ⟨rfl,(zaB).alloc (zaA) _⟩
theorem a4G (B:Bool) (sb mb tb q:Nat) (SG BS NM:ByteArray) (W w:World) (hW:Below W.heap.size W w) (hsb:sb<W.heap.size) (htb:tb<W.heap.size) (c1:W.cell? ⟨sb,1,none⟩=some (.map (some mb))) (t0:W.cell? ⟨tb,0,none⟩=some (.int .u8 q))
  (look:∀ wz,Below W.heap.size W wz->(Instr.lookup 114 (.map (some mb)) (.string NM) false).run Tryz.prog wz=.ok (ptr tb) wz) (hSG:SG.toList.isEmpty=true) (hSG2:SG.toList=[]) (hBS:BS.toList=[64]) (hq:((q:Int)==82)=B) :
  Calls Tryz.prog 36 #[ptr sb,.agg #[.string SG,.string BS,.string NM]] w fun e w'=>e=.returned (.tuple #[ptr tb,.bool B])/\Below w.heap.size w w':=by
 have HLK:=hid look;obtain⟨k0,k1,k2⟩:=vJ w SG BS NM;have hBS2:(BS.toList==[64])=true:=by rw[hBS];rfl
 have B3:=hid (hW.alloc hW.size (.cells #[.string SG,.string BS,.string NM] 48));have BW3:=hid ((Below.refl w.heap.size w).alloc (zaA) (.cells #[.string SG,.string BS,.string NM] 48));have l0:=HLK.out _ B3.out;have l1:=HLK.out _ B3.out.drew;have m1:=(B3.out.cell (p:=⟨sb,1,none⟩) hsb).trans c1;have u0:=(B3.out.cell (p:=⟨tb,0,none⟩) htb).trans t0;have hsw:sb<w.heap.size:=zaC hsb hW.size;have htw:tb<w.heap.size:=zaC htb hW.size;clear look c1 t0 hBS;cases B;all_goals
  go_enter Tryz.func36,Tryz.ntmps36;go_wp2_with fail
  obtain⟨W3,hW3⟩:∃ W3,w.alloc (.cells #[.string SG,.string BS,.string NM] 48)=W3:=⟨_,rfl⟩;rw[hW3] at k0 k1 k2 B3 BW3 l0 l1 m1 u0;rw[hW3];have hs3:w.heap.size<W3.heap.size:=by rw[<-hW3];simp
  have hsb3:sb<W3.heap.size:=by omega
  have htb3:tb<W3.heap.size:=by omega
  clear hW3;go_region_held3 (fun w'=>w'.cell? ⟨sb,1,none⟩=some (.map (some mb))/\w'.cell? ⟨w.heap.size,2,none⟩=some (.string NM)/\(Instr.lookup 114 (.map (some mb)) (.string NM) false).run Tryz.prog w'=.ok (ptr tb) w') (first|exact⟨m1,k2,l1⟩|go_keep) (fail)
  all_goals (go_wp2_with fail)
  all_goals (try go_quiet (fail))
  all_goals (go_wp2_with fail)
  all_goals exact zbD (v:=.tuple #[ptr tb,.bool _]) (by simp[results,Tryz.results36,go_sem, *]) rfl ⟨rfl,by first|exact bdn BW3.out.drew _|exact bdn BW3.out _|exact BW3.out.drew⟩
theorem record (x:Wf.Sc) (hx:Wf.ScOk x) (lo sb:Nat) (k:Wf.K) (hk:KOk x k) (W w:World) (hsc:ScL W lo sb x) (hW:Below W.heap.size W w):Calls Tryz.prog 36 #[ptr sb,kV k] w fun e w'=>(match Wf.recTy x k with
  | some t=>∃ tb,e=.returned (.tuple #[ptr tb,.bool true])/\TyL W lo tb t
  | none=>∃ p,e=.returned (.tuple #[.pointer p,.bool false]))/\Below w.heap.size w w':=by
 cases k with
 | ref nm =>
  obtain⟨mb,hsz,hc1,hnm⟩:=hsc.named;obtain⟨t,ht⟩:=Wf.mS hk.ref;have hnl:nm.length<=12:=by have:=eZ (.ref nm);have h2:=hk.len;simp only[Wf.K.name] at this;omega
  rcases hnm ⟨nm.toArray⟩ (by rw[aW];omega) with⟨h0,_⟩|⟨t',b,h1,hT,hl⟩
  ·rw[show(⟨nm.toArray⟩:ByteArray).data.toList=nm from rfl,ht] at h0;cases h0
  rw[show(⟨nm.toArray⟩:ByteArray).data.toList=nm from rfl,ht] at h1;obtain rfl:t=t':=Option.some.inj h1;have hto:=hx.tys t (Wf.bK ht).1;have hq:((t.sort.toNat:Int)==82)=decide (t.sort=82):=by
   rcases hto.sort with h|h|h <;> rw[h] <;> rfl
  refine(a4G (decide (t.sort=82)) sb mb b t.sort.toNat ⟨#[]⟩ ⟨#[64]⟩ ⟨nm.toArray⟩ W w hW hsz hT.sort.1 hc1 hT.sort.2 hl (by rw[zaZ];rfl) (by rw[zaZ]) (by rw[zaZ]) hq).mono fun e w' ⟨h1,h2⟩=>⟨?_,h2⟩;have hr:Wf.recTy x (.ref nm)=if t.sort=82 then some t else none:=by simp only[Wf.recTy,ht,Option.bind_some]
  rw[hr];by_cases h82:t.sort=82
  ·rw[if_pos h82]
   rw[decide_eq_true h82] at h1;exact⟨b,h1,hT⟩
  ·rw[if_neg h82]
   rw[decide_eq_false h82] at h1;exact⟨_,h1⟩
 | num=>exact(gP sb ⟨#[]⟩ ⟨#[110]⟩ ⟨#[]⟩ w (.inr ⟨by rw[zaZ];rfl,by rw[zaZ];rfl⟩)).mono fun e w' ⟨h1,h2⟩=>⟨⟨_,h1⟩,h2⟩
 | txt=>exact(gP sb ⟨#[]⟩ ⟨#[116]⟩ ⟨#[]⟩ w (.inr ⟨by rw[zaZ];rfl,by rw[zaZ];rfl⟩)).mono fun e w' ⟨h1,h2⟩=>⟨⟨_,h1⟩,h2⟩
 | flag=>exact(gP sb ⟨#[]⟩ ⟨#[102]⟩ ⟨#[]⟩ w (.inr ⟨by rw[zaZ];rfl,by rw[zaZ];rfl⟩)).mono fun e w' ⟨h1,h2⟩=>⟨⟨_,h1⟩,h2⟩
 | list k=>exact(gP sb ⟨(Wf.K.signs (.list k)).toArray⟩ ⟨(Wf.K.base (.list k)).toArray⟩ ⟨(Wf.K.name (.list k)).toArray⟩ w (.inl (by rw[zaZ];rfl))).mono fun e w' ⟨h1,h2⟩=>⟨⟨_,h1⟩,h2⟩
 | opt k=>exact(gP sb ⟨(Wf.K.signs (.opt k)).toArray⟩ ⟨(Wf.K.base (.opt k)).toArray⟩ ⟨(Wf.K.name (.opt k)).toArray⟩ w (.inl (by rw[zaZ];rfl))).mono fun e w' ⟨h1,h2⟩=>⟨⟨_,h1⟩,h2⟩

theorem xO (w:World) (q n c:Nat) (g:Int) (T:ByteArray) (a:Option Addr):(w.alloc (.cells #[.int .u8 q,.string T,.int .i64 g,.slice a n c] 51)).cell? ⟨w.heap.size,0,none⟩=some (.int .u8 q)/\(w.alloc (.cells #[.int .u8 q,.string T,.int .i64 g,.slice a n c] 51)).cell? ⟨w.heap.size,1,none⟩=some (.string T)/\(w.alloc (.cells #[.int .u8 q,.string T,.int .i64 g,.slice a n c] 51)).cell? ⟨w.heap.size,2,none⟩=some (.int .i64 g)/\(w.alloc (.cells #[.int .u8 q,.string T,.int .i64 g,.slice a n c] 51)).cell? ⟨w.heap.size,3,none⟩=some (.slice a n c):=by
 refine⟨?_,?_,?_,?_⟩ <;> simp[go_sem]



theorem fits (u:Wf.V) (q n c:Nat) (g:Int) (T:ByteArray) (a:Option Addr) (P:Nat->Prop) (W w:World) (hv:VC W P u [.int .u8 q,.string T,.int .i64 g,.slice a n c]) (hW:Below W.heap.size W w) (hl:u.print.length<=1000000) (hd:u.deep<=1000000):Calls Tryz.prog 58 #[.agg #[.int .u8 q,.string T,.int .i64 g,.slice a n c]] w fun e w'=>e=.returned (.bool (decide (u.print.length<=400)&&decide (u.deep<=12)))/\Below w.heap.size w w':=by
 obtain⟨O,hO⟩:∃ O:ByteArray,(⟨u.print.toArray⟩:ByteArray)=O:=⟨_,rfl⟩;obtain⟨D,hD⟩:∃ D,u.deep=D:=⟨_,rfl⟩;have hos:u.print.length=O.size:=by rw[<-hO];rfl
 have HPR:=hid fun(wz:World) (hz:Below W.heap.size W wz)=>(by
  have h:=print u P _ W wz hv hz hl;rw[tx,hO] at h;exact h:Calls Tryz.prog 33 #[.agg #[.int .u8 q,.string T,.int .i64 g,.slice a n c]] wz fun e w'=>e=.returned (.string O)/\Below wz.heap.size wz w')
 have HDP:=hid fun(wz:World) (hz:Below W.heap.size W wz)=>(by
  have h:=deep u P _ W wz hv hz (by omega);rw[hD] at h;exact h:Calls Tryz.prog 75 #[.agg #[.int .u8 q,.string T,.int .i64 g,.slice a n c]] wz fun e w'=>e=.returned (.int .i64 D)/\Below wz.heap.size wz w')
 have HW:=hid hW;rw[hos];obtain⟨B1,hB1⟩:∃ B1,decide (O.size<=400)=B1:=⟨_,rfl⟩;obtain⟨B2,hB2⟩:∃ B2,decide (D<=12)=B2:=⟨_,rfl⟩;have d1:decide ((O.size:Int)<=400)=B1:=by rw[<-hB1];congr 1;exact propext ⟨fun h=>by omega,fun h=>by omega⟩
 have d2:decide ((D:Int)<=12)=B2:=by rw[<-hB2];congr 1;exact propext ⟨fun h=>by omega,fun h=>by omega⟩
 rw[hD,hB1,hB2];have B3:=hid ((Below.refl w.heap.size w).alloc (zaA) (.cells #[.int .u8 q,.string T,.int .i64 g,.slice a n c] 51));obtain⟨k0,k1,k2,k3⟩:=xO w q n c g T a;have hlt:w.heap.size<(w.alloc (.cells #[.int .u8 q,.string T,.int .i64 g,.slice a n c] 51)).heap.size:=by simp
 clear hO hD hos hv hl hd hW hB1 hB2;cases B1 <;> cases B2;all_goals
  go_enter Tryz.func58,Tryz.ntmps58;go_wp2_with (first|(go_at_call 75;have _u:=HB5;refine(HDP.out _ (HW.out.trans ((B3.out.trans (HB5.out.mono B3.out.size)).mono HW.out.size))).mono ?_;rintro e w6 ⟨rfl,hb6⟩;have HB6:=hid hb6;clear hb6)|(go_at_call 33;refine(HPR.out _ (HW.out.alloc HW.out.size _)).mono ?_;rintro e w5 ⟨rfl,hb5⟩;have HB5:=hid hb5;have q0:=(hb5.cell (p:=⟨w.heap.size,0,none⟩) hlt).trans k0;have q1:=(hb5.cell (p:=⟨w.heap.size,1,none⟩) hlt).trans k1;have q2:=(hb5.cell (p:=⟨w.heap.size,2,none⟩) hlt).trans k2;have q3:=(hb5.cell (p:=⟨w.heap.size,3,none⟩) hlt).trans k3;clear hb5))
  go_ret
  first|exact⟨rfl,aE (B3.out.trans (HB5.out.mono B3.out.size)) HB6.out⟩|exact⟨rfl,B3.out.trans (HB5.out.mono B3.out.size)⟩

def FbOut (x:Wf.Sc) (k:Wf.K) (s:List UInt8) (w:World) (e:Ending) (w':World):Prop:=match Wf.getVal x k s with
 | some v=>∃ cs sk,e=.returned (.tuple #[.agg cs.toArray,sk,.bool true])/\VC w' (fun b=>w.heap.size<=b) v cs/\w'.ownsRow w.heap.size 3 1 sk (skB x 12 k s).length ((skB x 12 k s).map ix)
 | none=>e=.returned (.tuple #[.agg #[.int .u8 0,.string ⟨#[]⟩,.int .i64 0,.slice none 0 0],.slice none 0 0,.bool false])
theorem FbOut.no {x:Wf.Sc} {k:Wf.K} {s:List UInt8} {w w':World} {e:Ending} (h:Wf.getVal x k s=none) (he:e=.returned (.tuple #[.agg #[.int .u8 0,.string ⟨#[]⟩,.int .i64 0,.slice none 0 0],.slice none 0 0,.bool false])):FbOut x k s w e w':=by
 unfold FbOut;rw[h];exact he
theorem FbOut.yes {x:Wf.Sc} {k:Wf.K} {s:List UInt8} {w w':World} {e:Ending} {v:Wf.V} (h:Wf.getVal x k s=some v) (he:∃ cs sk,e=.returned (.tuple #[.agg cs.toArray,sk,.bool true])/\VC w' (fun b=>w.heap.size<=b) v cs/\w'.ownsRow w.heap.size 3 1 sk (skB x 12 k s).length ((skB x 12 k s).map ix)):FbOut x k s w e w':=by
 unfold FbOut;rw[h];exact he
theorem start_from (w:World) (SG BS NM S:ByteArray) (s:List UInt8) (hS:(⟨s.toArray⟩:ByteArray)=S) (sb:Nat) (W1:World) (hW1:((w.alloc (.cells #[.string SG,.string BS,.string NM] 48)).alloc (.cells #[.int .u8 0,.string ⟨#[]⟩,.int .i64 0,.slice none 0 0] 51)).alloc (.cells #[ptr sb,.string S,.bool false,.slice none 0 0,.int .i64 0] 88)=W1) :
  W1.cell? ⟨w.heap.size,0,none⟩=some (.string SG)/\W1.cell? ⟨w.heap.size,1,none⟩=some (.string BS)/\W1.cell? ⟨w.heap.size,2,none⟩=some (.string NM)/\Zero W1 (w.heap.size+1)/\Br W1 (w.heap.size+1+1) sb s false (.slice none 0 0) 0/\Below w.heap.size w W1 :=
 start_part w sb 0 s SG BS NM S hS W1 hW1
section
variable (x:Wf.Sc) (k:Wf.K) (sb:Nat) (s:List UInt8) (W w:World)
theorem from_long (hs:¬ s.length<=600) (hs2:s.length<=9000000000):Calls Tryz.prog 32 #[ptr sb,kV k,tx s] w fun e w'=>FbOut x k s w e w'/\Below w.heap.size w w':=by
 have HV:=hid (show Wf.getVal x k s=none by unfold Wf.getVal;rw[if_neg hs]);obtain⟨SG,hSG⟩:∃ SG:ByteArray,(⟨k.signs.toArray⟩:ByteArray)=SG:=⟨_,rfl⟩;obtain⟨BS,hBS⟩:∃ BS:ByteArray,(⟨k.base.toArray⟩:ByteArray)=BS:=⟨_,rfl⟩;obtain⟨NM,hNM⟩:∃ NM:ByteArray,(⟨k.name.toArray⟩:ByteArray)=NM:=⟨_,rfl⟩;obtain⟨S,hS⟩:∃ S:ByteArray,(⟨s.toArray⟩:ByteArray)=S:=⟨_,rfl⟩;have hsz:600<S.size:=by rw[<-hS];show 600<s.length;omega
 have hsz2:S.size<=9000000000:=by rw[<-hS];exact hs2
 simp only[kV,tx,hSG,hBS,hNM,hS];clear hSG hBS hNM hS hs hs2;go_enter Tryz.func32,Tryz.ntmps32;go_wp2_with fail
 exact zbD (v:=.tuple #[.agg #[.int .u8 0,.string ⟨#[]⟩,.int .i64 0,.slice none 0 0],.slice none 0 0,.bool false]) (by simp[results,Tryz.results32,go_sem, *]) rfl ⟨FbOut.no HV.out rfl,by repeat (first|with_reducible exact zaB|with_reducible refine zbE ?_|with_reducible refine zbF ?_ (by simp) _|with_reducible refine zbG ?_ (by first|exact zaA|simp) _)⟩
theorem from_short (hx:Wf.ScOk x) (lo:Nat) (hsc:ScL W lo sb x) (hk:KOk x k) (hs:s.length<=600) (hW:Below W.heap.size W w):Calls Tryz.prog 32 #[ptr sb,kV k,tx s] w fun e w'=>FbOut x k s w e w'/\Below w.heap.size w w':=by
 have hgv:Wf.getVal x k s=(match Wf.getB x 13 k s with|some (v,[])=>if v.print.length<=400/\v.deep<=12 then some v else none|_=>none):=by
  unfold Wf.getVal;rw[if_pos hs];rcases Wf.getB x 13 k s with _|⟨v,_|⟨a,r⟩⟩ <;> rfl
 have hrd:=fun wz hb h=>bvalue_top x hx lo sb (w.heap.size+1+1) W hsc (by have:=hW.size;omega) k hk s wz hb h hs;obtain⟨SG,hSG⟩:∃ SG:ByteArray,(⟨k.signs.toArray⟩:ByteArray)=SG:=⟨_,rfl⟩;obtain⟨BS,hBS⟩:∃ BS:ByteArray,(⟨k.base.toArray⟩:ByteArray)=BS:=⟨_,rfl⟩;obtain⟨NM,hNM⟩:∃ NM:ByteArray,(⟨k.name.toArray⟩:ByteArray)=NM:=⟨_,rfl⟩;obtain⟨S,hS⟩:∃ S:ByteArray,(⟨s.toArray⟩:ByteArray)=S:=⟨_,rfl⟩;have hsz:S.size<=600:=by rw[<-hS];exact hs
 have hkv:kV k=.agg #[.string SG,.string BS,.string NM]:=by simp only[kV,tx,hSG,hBS,hNM]
 have ST:=hid fun W1 h=>start_from w SG BS NM S s hS sb W1 h;have HW:=hid hW;have HS6:=hid hs;have HX:=hid hx;obtain⟨L,hL⟩:∃ L,skB x 12 k s=L:=⟨_,rfl⟩;rw[hkv,hL] at hrd;have HLL:=hid hL;simp only[hkv,tx,hS];clear hkv hSG hBS hNM hS hL hs hW hsc hx hk;have hrb:w.heap.size+1<w.heap.size+1+1:=by omega
 cases hg:Wf.getB x 13 k s with
 | none =>
  have HV:=hid (show Wf.getVal x k s=none by rw[hgv,hg]);have HRD:=hid fun wz (hb:Below W.heap.size W wz) (h:Br wz (w.heap.size+1+1) sb s false (.slice none 0 0) 0)=>(hrd wz hb h).mono (R':=fun e w'=>∃ cs v r sk',e=.returned (.agg cs.toArray)/\VC w' (fun b=>wz.heap.size<=b) v cs/\aA (w.heap.size+1+1) wz w'/\Br w' (w.heap.size+1+1) sb r true sk' 0) fun e w' ⟨cs,v,r,sk',h1,h2,h3,_,h4⟩=>⟨cs,v,r,sk',h1,h2,h3,by rcases h4 with⟨h4,_⟩|⟨_,h4⟩;(· rw[hg] at h4;cases h4);(· exact h4)⟩;clear hgv hrd hg;go_enter Tryz.func32,Tryz.ntmps32;go_wp2_with (go_at_call 57;obtain⟨d0,d1,d2,z0,sn0,b0⟩:=ST.out _ rfl;refine(HRD.out _ (HW.out.trans (b0.mono HW.out.size)) sn0).mono ?_;rintro e w2 ⟨cs,v,r,sk',rfl,hvc,hb2,hs2⟩;obtain⟨u0,u1,u2,u3,T2,a2,rfl⟩:=hvc.bA;have t1:=hs2.c1;have t2:=hs2.c2;have t3:=hs2.lt;have Z2:=hid (z0.step hb2 (by omega));obtain⟨zl,zr0,zr1,zr2,zr3,zf0,zf1,zf2,zf3⟩:=Z2.out;have BW2:=hid (aA.below (Below.refl w.heap.size w) (zaA) (by omega) ((aA.aF (rb:=w.heap.size+1+1) b0 (zaA)).trans hb2));clear hvc hb2 d0 d1 d2 z0 sn0 b0 hs2)
  all_goals exact zbD (v:=.tuple #[.agg #[.int .u8 0,.string ⟨#[]⟩,.int .i64 0,.slice none 0 0],.slice none 0 0,.bool false]) (by simp[results,Tryz.results32,go_sem, *]) rfl ⟨FbOut.no HV.out rfl,by have B:=BW2.out;repeat (first|with_reducible exact B|with_reducible refine zbE ?_|with_reducible refine zbF ?_ (by simp) _|with_reducible refine zbG ?_ (by first|exact B.size|(simp;omega)) _)⟩
 | some y =>
  obtain⟨v,r⟩:=y;have HRD:=hid fun wz (hb:Below W.heap.size W wz) (h:Br wz (w.heap.size+1+1) sb s false (.slice none 0 0) 0)=>(hrd wz hb h).mono (R':=fun e w'=>∃ cs sk',e=.returned (.agg cs.toArray)/\VC w' (fun b=>wz.heap.size<=b) v cs/\aA (w.heap.size+1+1) wz w'/\Br w' (w.heap.size+1+1) sb r false sk' 0/\w'.ownsRow wz.heap.size 3 1 sk' L.length (L.map ix)) fun e w' ⟨cs,v',r',sk',h1,h2,h3,_,h4⟩=>by
   rcases h4 with⟨h4,h5,h6⟩|⟨h4,_⟩
   ·rw[hg] at h4
    simp only[zaE,zaK] at h4;obtain⟨rfl,rfl⟩:=h4;exact⟨cs,sk',h1,h2,h3,h5,h6⟩
   ·rw[hg] at h4;cases h4
  have hpl:v.print.length<=1000000:=by
   have:=Wf.getB_short 13 k s v r hg;have:=HS6.out;omega
  have hdp:v.deep<=1000000:=by
   have:=(Wf.iE 13 k v (Wf.qS (Wf.gW HX.out) 13 k s v r hg)).2;omega
  have HPL:=hid hpl;have HDP:=hid hdp;clear hpl hdp hrd;cases r with
  | cons c0 r0 =>
   have HV:=hid (show Wf.getVal x k s=none by rw[hgv,hg]);obtain⟨R,hR⟩:∃ R:ByteArray,(⟨(c0::r0).toArray⟩:ByteArray)=R:=⟨_,rfl⟩;have hre:(R.toList==[])=false:=(by rw[<-hR,zaZ];rfl);have HRR:=hid hR;clear hgv hg hR;go_enter Tryz.func32,Tryz.ntmps32;go_wp2_with (go_at_call 57;obtain⟨d0,d1,d2,z0,sn0,b0⟩:=ST.out _ rfl;refine(HRD.out _ (HW.out.trans (b0.mono HW.out.size)) sn0).mono ?_;rintro e w2 ⟨cs,sk',rfl,hvc,hb2,hs2,_⟩;obtain⟨u0,u1,u2,u3,T2,a2,rfl⟩:=hvc.bA;have t1:=hs2.c1;rw[tx,HRR.out] at t1;have t2:=hs2.c2;have t3:=hs2.lt;have Z2:=hid (z0.step hb2 (by omega));obtain⟨zl,zr0,zr1,zr2,zr3,zf0,zf1,zf2,zf3⟩:=Z2.out;have BW2:=hid (aA.below (Below.refl w.heap.size w) (zaA) (by omega) ((aA.aF (rb:=w.heap.size+1+1) b0 (zaA)).trans hb2));clear hvc hb2 d0 d1 d2 z0 sn0 b0 hs2)
   all_goals exact zbD (v:=.tuple #[.agg #[.int .u8 0,.string ⟨#[]⟩,.int .i64 0,.slice none 0 0],.slice none 0 0,.bool false]) (by simp[results,Tryz.results32,go_sem, *]) rfl ⟨FbOut.no HV.out rfl,by have B:=BW2.out;repeat (first|with_reducible exact B|with_reducible refine zbE ?_|with_reducible refine zbF ?_ (by simp) _|with_reducible refine zbG ?_ (by first|exact B.size|(simp;omega)) _)⟩
  | nil =>
   obtain⟨B,hB⟩:∃ B,(decide (v.print.length<=400)&&decide (v.deep<=12))=B:=⟨_,rfl⟩;have HFT:=hid fun(q:Nat) (n:Nat) (c:Nat) (g:Int) (T:ByteArray) (a:Option Addr) (P:Nat->Prop) (W2 w2:World) (hv:VC W2 P v [.int .u8 q,.string T,.int .i64 g,.slice a n c]) (hb:Below W2.heap.size W2 w2)=>(by
    have h:=fits v q n c g T a P W2 w2 hv hb HPL.out HDP.out;rw[hB] at h;exact h:Calls Tryz.prog 58 #[.agg #[.int .u8 q,.string T,.int .i64 g,.slice a n c]] w2 fun e w'=>e=.returned (.bool B)/\Below w2.heap.size w2 w')
   cases B with
   | false =>
    have HV:=hid (show Wf.getVal x k s=none by
     rw[hgv,hg];dsimp only;rw[if_neg];rintro⟨h1,h2⟩;rw[decide_eq_true h1,decide_eq_true h2] at hB;cases hB)
    clear hgv hg hB;go_enter Tryz.func32,Tryz.ntmps32;go_wp2_with (first|(go_at_call 58;refine(HFT.out _ _ _ _ _ _ _ w2 _ HVC.out ((zaB).alloc (zaA) _)).mono ?_;rintro e w4 ⟨rfl,hb4⟩;have hb24:=hid (aE ((Below.refl w2.heap.size w2).alloc (zaA) _) hb4);have B4:=hid (BW2.out.trans (hb24.out.mono BW2.out.size));obtain⟨yl,yr0,yr1,yr2,yr3,yf0,yf1,yf2,yf3⟩:=Z2.out.below hb24.out Z2.out.lt;clear hb4)|(go_at_call 57;obtain⟨d0,d1,d2,z0,sn0,b0⟩:=ST.out _ rfl;refine(HRD.out _ (HW.out.trans (b0.mono HW.out.size)) sn0).mono ?_;rintro e w2 ⟨cs,sk',rfl,hvc,hb2,hs2,_⟩;obtain⟨u0,u1,u2,u3,T2,a2,rfl⟩:=hvc.bA;have HVC:=hid hvc;have t1:=hs2.c1;have t2:=hs2.c2;have t3:=hs2.lt;have Z2:=hid (z0.step hb2 (by omega));obtain⟨zl,zr0,zr1,zr2,zr3,zf0,zf1,zf2,zf3⟩:=Z2.out;have BW2:=hid (aA.below (Below.refl w.heap.size w) (zaA) (by omega) ((aA.aF (rb:=w.heap.size+1+1) b0 (zaA)).trans hb2));clear hvc hb2 d0 d1 d2 z0 sn0 b0 hs2))
    all_goals exact zbD (v:=.tuple #[.agg #[.int .u8 0,.string ⟨#[]⟩,.int .i64 0,.slice none 0 0],.slice none 0 0,.bool false]) (by simp[results,Tryz.results32,go_sem, *]) rfl ⟨FbOut.no HV.out rfl,by have B:=B4.out;repeat (first|with_reducible exact B|with_reducible refine zbE ?_|with_reducible refine zbF ?_ (by simp) _|with_reducible refine zbG ?_ (by first|exact B.size|(simp;omega)) _)⟩
   | true =>
    have HV:=hid (show Wf.getVal x k s=some v by
     rw[hgv,hg];dsimp only;rw[if_pos];rw[Bool.and_eq_true,decide_eq_true_eq,decide_eq_true_eq] at hB;exact hB)
    clear hgv hg hB;go_enter Tryz.func32,Tryz.ntmps32;go_wp2_with (first|(go_at_call 58;refine(HFT.out _ _ _ _ _ _ _ w2 _ HVC.out ((zaB).alloc (zaA) _)).mono ?_;rintro e w4 ⟨rfl,hb4⟩;have hb24:=hid (aE ((Below.refl w2.heap.size w2).alloc (zaA) _) hb4);have B4:=hid (BW2.out.trans (hb24.out.mono BW2.out.size));obtain⟨yl,yr0,yr1,yr2,yr3,yf0,yf1,yf2,yf3⟩:=Z2.out.below hb24.out Z2.out.lt;have n0:w4.cell? ⟨w2.heap.size,0,none⟩=some (.int .u8 u0):=(hb4.cell (p:=⟨w2.heap.size,0,none⟩) (by simp)).trans (by simp[go_sem]);have n1:w4.cell? ⟨w2.heap.size,1,none⟩=some (.string T2):=(hb4.cell (p:=⟨w2.heap.size,1,none⟩) (by simp)).trans (by simp[go_sem]);have n2:w4.cell? ⟨w2.heap.size,2,none⟩=some (.int .i64 u1):=(hb4.cell (p:=⟨w2.heap.size,2,none⟩) (by simp)).trans (by simp[go_sem]);have n3:w4.cell? ⟨w2.heap.size,3,none⟩=some (.slice a2 u2 u3):=(hb4.cell (p:=⟨w2.heap.size,3,none⟩) (by simp)).trans (by simp[go_sem]);have nl:w2.heap.size<w4.heap.size:=zaC (by simp) hb4.size;have n5:=(hb24.out.cell (p:=⟨w.heap.size+1+1,3,none⟩) t3).trans t5;have n6:=zaC t3 hb24.out.size;clear hb4)|(go_at_call 57;obtain⟨d0,d1,d2,z0,sn0,b0⟩:=ST.out _ rfl;have hz3:=sn0.lt;refine(HRD.out _ (HW.out.trans (b0.mono HW.out.size)) sn0).mono ?_;rintro e w2 ⟨cs,sk',rfl,hvc,hb2,hs2,hown⟩;obtain⟨u0,u1,u2,u3,T2,a2,rfl⟩:=hvc.bA;have HVC:=hid hvc;have HOWN:=hid hown;have t1:=hs2.c1;have t2:=hs2.c2;have t3:=hs2.lt;have t5:=hs2.c3;have Z2:=hid (z0.step hb2 (by omega));obtain⟨zl,zr0,zr1,zr2,zr3,zf0,zf1,zf2,zf3⟩:=Z2.out;have BW2:=hid (aA.below (Below.refl w.heap.size w) (zaA) (by omega) ((aA.aF (rb:=w.heap.size+1+1) b0 (zaA)).trans hb2));clear hvc hown hb2 d0 d1 d2 z0 sn0 b0 hs2))
    have hne:¬ w2.heap.size=w.heap.size+1:=(by omega);go_region
    all_goals (go_wp2_with fail)
    all_goals exact zbD (v:=.tuple #[.agg #[.int .u8 u0,.string T2,.int .i64 u1,.slice a2 u2 u3],sk',.bool true]) (by simp[results,Tryz.results32,go_sem, *]) rfl (by
     have hR:∀ W4,aA (w.heap.size+1) w4 W4->Below w.heap.size w W4->(FbOut x k s w (.returned (.tuple #[.agg #[.int .u8 u0,.string T2,.int .i64 u1,.slice a2 u2 u3],sk',.bool true])) W4/\Below w.heap.size w W4):=fun W4 hb hb0=>by
      refine⟨FbOut.yes HV.out ⟨[.int .u8 u0,.string T2,.int .i64 u1,.slice a2 u2 u3],sk',rfl,VC.keep (fun b hp hlt=>?_) (zaI hb24.out.size hb.size) _ _ HVC.out,?_⟩,hb0⟩
      ·have h3:w.heap.size+1+1+1<=b:=by simpa using hp
       exact⟨by omega,(hb.block b (zaC hlt hb24.out.size) (by omega)).trans (hb24.out.block b hlt)⟩
      ·rw[HLL.out]
       exact owns_base (cT (cF HOWN.out hb24.out) hb (by first|(simp;done)|(simp;omega))) (by first|(simp;done)|(simp;omega))
     refine hR _ ?_ ?_
     ·repeat (first|with_reducible exact aA.refl _ _|with_reducible refine aA.drew ?_|with_reducible refine aA.trans ?_ (aA.set _ _ _ _))
     ·have B:=B4.out
      repeat (first|with_reducible exact B|with_reducible refine zbE ?_|with_reducible refine zbF ?_ (by simp) _))
theorem fromBytes (hx:Wf.ScOk x) (lo:Nat) (hsc:ScL W lo sb x) (hk:KOk x k) (hs:s.length<=9000000) (hW:Below W.heap.size W w):Calls Tryz.prog 32 #[ptr sb,kV k,tx s] w fun e w'=>FbOut x k s w e w'/\Below w.heap.size w w':=by
 by_cases h:s.length<=600
 ·exact from_short x k sb s W w hx lo hsc hk h hW
 ·exact from_long x k sb s w h (by omega)
end
end Go.Proofs.YtidjpalnmnehmaaGreatDoor

namespace Go.Proofs.YtidjpalnmnehmaaGreatDoor
open Go.ChangeShapes Go.WideShapes Go.ChangeAt Go.RowKit
theorem l1Put_any (k:Nat):∀ (n:Int) (w:World),n<=k->0<=n->n<=999999 ->
  Calls Tryz.prog 53 #[.int .i64 n] w fun e w'=>e=.returned (.string ⟨(Wf.putN n.toNat).toArray⟩)/\Below w.heap.size w w':=by
 induction k with
 | zero =>
  intro n w hk h0 _;obtain rfl:n=0:=by omega
  have hcv:=run_convert_lit (P:=Tryz.prog) 22 9 5 Tryz.underlying22 Tryz.underlying5 Tryz.underlying9;go_enter Tryz.func53,Tryz.ntmps53;go_wp2_with fail
  go_ret
  exact⟨by rw[Wf.bL (by omega)];rfl,(zaB).alloc (zaA) _⟩
 | succ k ih0 =>
  have ih:=Lib.hid ih0;clear ih0;intro n w hk h0 hn;by_cases h:n<128
  ·have hcv:=run_convert_lit (P:=Tryz.prog) 22 9 5 Tryz.underlying22 Tryz.underlying5 Tryz.underlying9
   have E:=Lib.hid (show(Wf.putN n.toNat).toArray = #[UInt8.ofNat n.toNat] by rw[Wf.bL (by omega)]);go_enter Tryz.func53,Tryz.ntmps53;go_wp2_with fail
   go_ret
   exact⟨by rw[E.out];rfl,(zaB).alloc (zaA) _⟩
  ·have E:=Lib.hid (show Wf.putN n.toNat=[UInt8.ofNat (128+n % 128).toNat]++Wf.putN (n / 128).toNat by
    rw[Wf.cC (by omega),show(128+n % 128).toNat=128+n.toNat % 128 by omega,show(n / 128).toNat=n.toNat / 128 by omega];simp)
   have hc1:=fun W a c=>run_convert_one (P:=Tryz.prog) 22 9 5 Tryz.underlying22 Tryz.underlying5 Tryz.underlying9 W a c (128+n % 128);have hl:=(Wf.bH (n / 128).toNat (by omega)).2;have w0:n.tdiv 128=n / 128:=Int.tdiv_eq_ediv_of_nonneg (by omega);have w1:IntKind.i64.wrap (n / 128)=n / 128:=zbI _ (by omega);have w2:n.tmod 128=n % 128:=Int.tmod_eq_emod_of_nonneg (by omega);have w3:IntKind.i64.wrap (128+n % 128)=128+n % 128:=zbI _ (by omega);have w4:IntKind.u8.wrap (128+n % 128)=128+n % 128:=IntWalk.u8_in _ (by omega);have w5:∀ W:World,(Op.stringOp .add ⟨#[UInt8.ofNat (128+n % 128).toNat]⟩ ⟨(Wf.putN (n / 128).toNat).toArray⟩).run Tryz.prog W=.ok (.string ⟨(Wf.putN n.toNat).toArray⟩) W :=
    run_add_bytes [UInt8.ofNat (128+n % 128).toNat] (Wf.putN (n / 128).toNat) _ (by simp;omega) E.out
   clear E;go_enter Tryz.func53,Tryz.ntmps53;go_wp2_with fail
   go_region_with (go_at_call 53;refine(ih.out (n / 128) _ (by omega) (by omega) (by omega)).mono ?_;rintro e w' ⟨rfl,hb⟩;have hc:=(bcell hb).1)
   all_goals go_wp2
   all_goals go_ret
   ·exact⟨rfl,(((zaB).alloc (zaA) _).drew).trans (hb.mono (by simp))⟩
   ·exact⟨rfl,(((zaB).alloc (zaA) _).drew).trans (hb.mono (by simp))⟩
   ·exact⟨rfl,((zaB).drew.trans hb).alloc (by have:=hb.size;simpa using this) _⟩
def putL (n:Int):List UInt8:=if 0<=n/\n<=999999 then Wf.putN n.toNat else []
def putB (n:Int):Bool:=decide (0<=n/\n<=999999)
def putV (n:Int):Value:=.tuple #[.string ⟨(putL n).toArray⟩,.bool (putB n)]
theorem ret_sb {a b:ByteArray} {x y:Bool} (h1:a=b) (h2:x=y):Ending.returned (.tuple #[.string a,.bool x])=.returned (.tuple #[.string b,.bool y]):=by rw[h1,h2]
theorem put_no {n:Int} (h:¬ (0<=n/\n<=999999)):Ending.returned (.tuple #[.string ⟨#[]⟩,.bool false])=.returned (putV n):=ret_sb (by rw[putL,if_neg h]) (by rw[putB,decide_eq_false h])
theorem put_yes {n:Int} {s:ByteArray} (h:0<=n/\n<=999999) (hs:s=⟨(Wf.putN n.toNat).toArray⟩):Ending.returned (.tuple #[.string s,.bool true])=.returned (putV n):=ret_sb (by rw[putL,if_pos h,hs]) (by rw[putB,decide_eq_true h])
theorem info_u8:(Tryz.prog.info? 5).map (fun i=>(i.zero,i.size,i.bytes))=some (some (.int .u8 0),1,1):=by kernel_rfl
def Room (k:Nat) (m:Int):Prop:=(k=0/\m<=999999)\/(k=1/\m<=7812)\/(k=2/\m<=61)
theorem Room.more {l:List UInt8} {m:Int} {c:UInt8} (h:128<=m) (hr:Room l.length m):Room (l++[c]).length (m / 128):=by
 have e:(l++[c]).length=l.length+1:=by simp
 rw[e];unfold Room at hr ⊢;omega
theorem Room.le {k:Nat} {m:Int} (hr:Room k m):k<=2/\m<=999999:=by unfold Room at hr;omega
theorem numPut_impl (n:Int) (w:World):Calls Tryz.prog 17 #[.int .i64 n] w fun e w'=>e=.returned (putV n)/\Below w.heap.size w w':=by
 by_cases h:0<=n/\n<=999999
 ·have h1:=h.1
  have h2:=h.2;have H:=Lib.hid h;clear h;have hcv:=fun wx v (l:List UInt8) hl=>run_convert_owned (P:=Tryz.prog) wx 22 9 5 (base:=w.heap.size) (et:=5) (v:=v) (l:=l) Tryz.underlying22 Tryz.underlying5 Tryz.underlying9 hl;have HCV:=Lib.hid hcv;clear hcv;go_enter Tryz.func17,Tryz.ntmps17;go_wp2;go_loopw [4,0] (fun v i wr=>∃ (l:List UInt8) (m:Int),0<=m/\Room l.length m/\i=.int .i64 m/\Hid (l++Wf.putN m.toNat=Wf.putN n.toNat)/\wr.ownsRow w.heap.size 5 1 v l.length (Lib.byteCells l)/\Below w.heap.size w wr)
   (fun _ i _=>(intOf i).toNat)
  case atStart=>exact⟨[],n,h1,.inl ⟨rfl,h2⟩,rfl,rfl,World.ownsRow_nil _ _ _ _,zaB⟩
  case round =>
   obtain⟨l,m,hm1,hroom,rfl,hput,hown,hbel⟩:=hrel;have hl:=hroom.le.1;have hm2:=hroom.le.2;by_cases hlt:m<128
   ·have hm:IntKind.u8.wrap m=m:=IntWalk.u8_in _ (by omega)
    have hsz:=hbel.size;have HMC:=Lib.hid (show m=((UInt8.ofNat m.toNat).toNat:Int) by rw[Wf.toNat_ofNat (by omega)];omega);clear hroom;go_wp2_with (at_builtin;refine wpList_append_byte _ rfl (.tmp 22) (.tmp 25) 22 rfl w.heap.size 5 Tryz.underlying22 info_u8 _ l rfl (hown.alloc _) ⟨wr.heap.size,0,none⟩ m rfl (by simp) (UInt8.ofNat m.toNat) HMC.out (by omega) (by simp;omega) ?_;intro v1 w1 hown1 hb1;have hc1:=HCV.out w1 v1 _ hown1)
    go_ret2
    exact⟨put_yes H.out (by rw[<-hput.out,Wf.bL (by omega)]),(hbel.alloc hsz _).trans hb1⟩
   ·have hm0:m % 128+128<256:=by omega
    have hmu:IntKind.u8.wrap (m % 128+128)=m % 128+128:=IntWalk.u8_in _ (by omega);have hsz:=hbel.size;have HMC:=Lib.hid (show m % 128+128=((UInt8.ofNat (m % 128+128).toNat).toNat:Int) by rw[Wf.toNat_ofNat (by omega)];omega);have HL:=Lib.hid (hroom.more (c:=UInt8.ofNat (m % 128+128).toNat) (by omega));clear hroom;have HP:=Lib.hid (show(l++[UInt8.ofNat (m % 128+128).toNat])++Wf.putN (m / 128).toNat=Wf.putN n.toNat by
     rw[<-hput.out,Wf.cC (show 128<=m.toNat by omega),show(m % 128+128).toNat=128+m.toNat % 128 by omega,show(m / 128).toNat=m.toNat / 128 by omega];simp)
    go_wp2_with (at_builtin;refine wpList_append_byte _ rfl (.tmp 13) (.tmp 18) 22 rfl w.heap.size 5 Tryz.underlying22 info_u8 _ l rfl (hown.alloc _) ⟨wr.heap.size,0,none⟩ (m % 128+128) rfl (by simp) (UInt8.ofNat (m % 128+128).toNat) HMC.out (by omega) (by simp;omega) ?_;intro v1 w1 hown1 hb1)
    go_roundw
    case rel=>exact⟨_,_,by omega,HL.out,rfl,HP.out,hown1,(hbel.alloc hsz _).trans hb1⟩
    case measure=>simp[intOf];omega
 ·have H:=Lib.hid h
  have h1:n<0\/999999<n:=by omega
  clear h;go_enter Tryz.func17,Tryz.ntmps17;go_wp2;all_goals go_ret2
  all_goals exact⟨put_no H.out,zaB⟩
end Go.Proofs.YtidjpalnmnehmaaGreatDoor

namespace Go.Proofs.YtidjpalnmnehmaaGreatDoor
open Go.ChangeShapes Go.WideShapes Go.ChangeAt Go.RowKit Go.Lib
theorem putV_nat (n:Nat) (hn:n<=999999):putV n=.tuple #[tx (Wf.putN n),.bool true]:=by
 unfold putV putL putB;rw[if_pos ⟨by omega,by omega⟩,decide_eq_true ⟨by omega,by omega⟩,Int.toNat_natCast]
theorem numText (n:Nat) (hn:n<=999999) (w:World):Calls Tryz.prog 77 #[.int .i64 n] w fun e w'=>e=.returned (tx (Wf.putN n))/\Below w.heap.size w w':=by
 have HP:=hid fun wz=>numPut_impl (n:Int) wz;rw[putV_nat n hn] at HP;obtain⟨B,hB⟩:∃ B:ByteArray,(⟨(Wf.putN n).toArray⟩:ByteArray)=B:=⟨_,rfl⟩;simp only[tx,hB] at HP ⊢;clear hB;go_enter Tryz.func77,Tryz.ntmps77;go_wp2_with (go_at_call 17;refine(HP.out _).mono ?_;rintro e w2 ⟨rfl,hb2⟩;have HB2:=hid hb2;clear hb2)
 go_ret
 exact⟨rfl,HB2.out⟩
theorem sized (s:ByteArray) (hs:s.size<=999999) (w:World):Calls Tryz.prog 78 #[.string s] w fun e w'=>e=.returned (tx (Wf.putN s.data.toList.length++s.data.toList))/\Below w.heap.size w w':=by
 have HP:=hid fun wz=>numText s.size hs wz;obtain⟨B,hB⟩:∃ B:ByteArray,(⟨(Wf.putN s.size).toArray⟩:ByteArray)=B:=⟨_,rfl⟩;have hBs:B.size<=3:=by rw[<-hB];exact(Wf.bH s.size hs).2
 have HF:=hid (show(⟨(Wf.putN s.data.toList.length++s.data.toList).toArray⟩:ByteArray)=B++s from
  ((aS (B++s) _).2 (by rw[zaU,zaW,<-hB,aC])).symm)
 have a1:=fun wz=>zbH (P:=Tryz.prog) (w:=wz) B s (by omega);simp only[tx,hB] at HP;clear hB;go_enter Tryz.func78,Tryz.ntmps78;go_wp2_with (go_at_call 77;refine(HP.out _).mono ?_;rintro e w2 ⟨rfl,hb2⟩;have HB2:=hid hb2;clear hb2)
 go_ret
 exact⟨by rw[tx,HF.out];rfl,HB2.out⟩
