/- Packed. -/
import Derived.Test.YtidjpalnmnehmaaGreatDoorK36
set_option maxRecDepth 99999
set_option maxHeartbeats 40000000
set_option linter.all false
namespace Go.Proofs.YtidjpalnmnehmaaGreatDoor
open Go.ChangeShapes Go.WideShapes Go.ChangeAt Go.RowKit Go.Lib
theorem rP {S:ByteArray} {c:UInt8} {q:List UInt8} (h:S.data.toList=c::q):S.toList.isEmpty=false/\S.toList≠[]/\0<S.size/\1<=S.size/\(∀ h,(S[0]'h).toNat=c.toNat)/\(S.extract 1 S.size).data.toList=q:=by
 rcases fG S with⟨h1,_⟩|⟨c',q',h1,h2,h3,h4,h5,h6⟩
 ·rw[h] at h1;cases h1
 ·rw[h] at h1
  cases h1;exact⟨h2,h3,h4,h4,h5,by rw[h6]⟩
section
variable (x:Wf.Sc) (v:Value) (W:World) (n:Nat) (S KT:ByteArray) (D:Int) (w:World) (o:Option (Wf.V × List UInt8))
theorem nY (h:S.toList.isEmpty=true\/(S.toList.isEmpty=false/\decide (D<1)=true)) (ho:o=none):Calls Tryz.prog 51 #[.agg #[v],.string S,.string KT,.int .i64 D] w fun e w'=>aB o w e w'/\Below w.heap.size w w':=by
 have HO:=hid ho;clear ho;rcases h with h|⟨h,h2⟩;all_goals
  go_enter Tryz.func51,Tryz.ntmps51;go_wp2_with fail
  all_goals exact zbD (v:=.tuple #[.pointer none,.string S,.bool false]) (by simp[results,Tryz.results51,go_sem, *]) rfl ⟨aB.no HO.out ⟨_,_,rfl⟩,(zaB).alloc (zaA) _⟩
theorem jU (hS:S.toList.isEmpty=false) (hD:decide (D<1)=false) (q:Nat) (hk0:0<KT.size) (ek:∀ h,(KT[0]'h).toNat=q) (hq:q=110\/q=116\/q=102)
  (hp:∀ wz,Calls Tryz.prog 88 #[.agg #[v],.string S,.string KT] wz fun e w'=>aB o wz e w'/\Below wz.heap.size wz w') :
  Calls Tryz.prog 51 #[.agg #[v],.string S,.string KT,.int .i64 D] w fun e w'=>aB o w e w'/\Below w.heap.size w w':=by
 have HP:=hid hp;clear hp;rcases hq with rfl|rfl|rfl;all_goals
  go_enter Tryz.func51,Tryz.ntmps51;go_wp2_with (go_at_call 88;refine(HP.out _).mono ?_;rintro e w7 ⟨ho,hb7⟩;obtain⟨p,r,b,rfl,hlr⟩:=ho.form;have HLR:=hid hlr;have HB7:=hid (aC ((Below.refl w.heap.size w).alloc (zaA) _) hb7);clear ho hb7 hlr)
  all_goals exact zbD (v:=.tuple #[.pointer p,.string r,.bool b]) (by simp[results,Tryz.results51,go_sem, *]) rfl ⟨HLR.out.mono (by simp),HB7.out⟩
theorem a1N (hS:S.toList.isEmpty=false) (hD:decide (D<1)=false) (hk0:0<KT.size) (ek:∀ h,(KT[0]'h).toNat=64)
  (hp:∀ wz,Below w.heap.size w wz->Calls Tryz.prog 87 #[.agg #[v],.string S,.string KT,.int .i64 D] wz fun e w'=>aB o wz e w'/\Below wz.heap.size wz w') :
  Calls Tryz.prog 51 #[.agg #[v],.string S,.string KT,.int .i64 D] w fun e w'=>aB o w e w'/\Below w.heap.size w w':=by
 have HP:=hid hp;clear hp;go_enter Tryz.func51,Tryz.ntmps51;go_wp2_with (go_at_call 87;refine(HP.out _ ((zaB).alloc (zaA) _)).mono ?_;rintro e w7 ⟨ho,hb7⟩;obtain⟨p,r,b,rfl,hlr⟩:=ho.form;have HLR:=hid hlr;have HB7:=hid (aC ((Below.refl w.heap.size w).alloc (zaA) _) hb7);clear ho hb7 hlr)
 all_goals exact zbD (v:=.tuple #[.pointer p,.string r,.bool b]) (by simp[results,Tryz.results51,go_sem, *]) rfl ⟨HLR.out.mono (by simp),HB7.out⟩
theorem vR (hS:S.toList.isEmpty=false) (h0:0<S.size) (hD:decide (D<1)=false) (hk0:0<KT.size) (ek:∀ h,(KT[0]'h).toNat=91) (b0:Nat) (e1:∀ h,(S[0]'h).toNat=b0) (m1:((b0:Int) != 91)=true) (ho:o=none) :
  Calls Tryz.prog 51 #[.agg #[v],.string S,.string KT,.int .i64 D] w fun e w'=>aB o w e w'/\Below w.heap.size w w':=by
 have HO:=hid ho;clear ho;go_enter Tryz.func51,Tryz.ntmps51;go_wp2_with fail
 all_goals exact zbD (v:=.tuple #[.pointer none,.string S,.bool false]) (by simp[results,Tryz.results51,go_sem, *]) rfl ⟨aB.no HO.out ⟨_,_,rfl⟩,(zaB).alloc (zaA) _⟩
theorem vB (R:ByteArray) (hS:S.toList.isEmpty=false) (h0:0<S.size) (h1:1<=S.size) (hR:S.extract 1 S.size=R) (hD:decide (D<1)=false) (hk0:0<KT.size) (ek:∀ h,(KT[0]'h).toNat=91) (e1:∀ h,(S[0]'h).toNat=91)
  (hp:∀ wz,Below w.heap.size w wz->Calls Tryz.prog 86 #[.agg #[v],.string R,.string KT,.int .i64 D] wz fun e w'=>aB o wz e w'/\Below wz.heap.size wz w') :
  Calls Tryz.prog 51 #[.agg #[v],.string S,.string KT,.int .i64 D] w fun e w'=>aB o w e w'/\Below w.heap.size w w':=by
 have HP:=hid hp;have kx:∀ wz,(Instr.slice 9 (.string S) (some (.int .i64 1)) none none).run Tryz.prog wz=.ok (.string R) wz:=fun wz=>by
  have h:=bD S 1 h1 wz;rw[hR] at h;exact h
 clear hp hR;have c0:(w.alloc (.cells #[v] 99)).cell? ⟨w.heap.size,0,none⟩=some v:=by simp[go_sem]
 have B3:=hid ((Below.refl w.heap.size w).alloc (zaA) (.cells #[v] 99));have hl3:w.heap.size<(w.alloc (.cells #[v] 99)).heap.size:=by simp
 go_enter Tryz.func51,Tryz.ntmps51;go_wp2_with fail
 obtain⟨W3,hW3⟩:∃ W3,w.alloc (.cells #[v] 99)=W3:=⟨_,rfl⟩;rw[hW3] at c0 B3 hl3;rw[hW3];clear hW3;go_region_held3 (fun w'=>w'.cell? ⟨w.heap.size,0,none⟩=some v) (first|exact j0|go_keep) ((go_at_call 86;refine(HP.out W3.drew B3.out.drew).mono ?_;rintro e w7 ⟨ho,hb7⟩;obtain⟨p,r,b,rfl,hlr⟩:=ho.form;have HLR:=hid hlr;have HB7:=hid (zbE (Below.refl W3.heap.size W3) |>.trans hb7);have j0:=(HB7.out.cell (p:=⟨w.heap.size,0,none⟩) hl3).trans c0;clear ho hb7 hlr))
 all_goals (go_wp2_with fail)
 all_goals exact zbD (v:=.tuple #[.pointer p,.string r,.bool b]) (by simp[results,Tryz.results51,go_sem, *]) rfl ⟨HLR.out.mono B3.out.size,B3.out.trans (HB7.out.mono B3.out.size)⟩
theorem a1S (hS:S.toList.isEmpty=false) (h0:0<S.size) (hD:decide (D<1)=false) (hk0:0<KT.size) (ek:∀ h,(KT[0]'h).toNat=63) (b0:Nat) (e1:∀ h,(S[0]'h).toNat=b0) (m0:((b0:Int)==45)=false) (m1:((b0:Int) != 43)=true) (ho:o=none) :
  Calls Tryz.prog 51 #[.agg #[v],.string S,.string KT,.int .i64 D] w fun e w'=>aB o w e w'/\Below w.heap.size w w':=by
 have HO:=hid ho;clear ho;go_enter Tryz.func51,Tryz.ntmps51;go_wp2_with fail
 all_goals exact zbD (v:=.tuple #[.pointer none,.string S,.bool false]) (by simp[results,Tryz.results51,go_sem, *]) rfl ⟨aB.no HO.out ⟨_,_,rfl⟩,(zaB).alloc (zaA) _⟩
theorem a0V (R:ByteArray) (hS:S.toList.isEmpty=false) (h0:0<S.size) (h1:1<=S.size) (hR:S.extract 1 S.size=R) (hD:decide (D<1)=false) (hk0:0<KT.size) (ek:∀ h,(KT[0]'h).toNat=63) (hk:KT.data.toList.head? = some 63) (e1:∀ h,(S[0]'h).toNat=45) (ho:o=some (.mk 63 [] 0 [],R.data.toList)) :
  Calls Tryz.prog 51 #[.agg #[v],.string S,.string KT,.int .i64 D] w fun e w'=>aB o w e w'/\Below w.heap.size w w':=by
 have HO:=hid ho;have HKH:=hid hk;have kx:∀ wz,(Instr.slice 9 (.string S) (some (.int .i64 1)) none none).run Tryz.prog wz=.ok (.string R) wz:=fun wz=>by
  have h:=bD S 1 h1 wz;rw[hR] at h;exact h
 clear ho hR hk;go_enter Tryz.func51,Tryz.ntmps51;go_wp2_with fail
 go_region
 all_goals (go_wp2_with fail)
 all_goals exact zbD (v:=.tuple #[ptr (w.heap.size+1),.string R,.bool true]) (by simp[results,Tryz.results51,go_sem, *]) rfl (by
  have hR:∀ W3:World,W3.heap.size=w.heap.size+1->Below w.heap.size w W3->(aB o w (.returned (.tuple #[ptr (w.heap.size+1),.string R,.bool true])) (W3.alloc (.cells #[.string KT,.string ⟨#[]⟩,.slice none 0 0,.slice none 0 0] 103))/\Below w.heap.size w (W3.alloc (.cells #[.string KT,.string ⟨#[]⟩,.slice none 0 0,.slice none 0 0] 103))):=fun W3 h1 h2=>by
   refine⟨aB.yes HO.out ⟨w.heap.size+1,rfl,?_⟩,h2.alloc h2.size _⟩;rw[<-h1];exact LV.new (kd:=KT.data.toList) (t:=[]) (by decide) ⟨HKH.out,rfl⟩ rfl h2.size (by simp) (by first|(simp[go_sem];done)|(simp[go_sem];rfl)) (by first|(simp[go_sem];done)|(simp[go_sem];rfl)) (by simp[go_sem]) (by simp[go_sem])
  have hb:=(Below.refl w.heap.size w).alloc (zaA) (.cells #[v] 99);first|exact hR _ (by simp) hb|exact hR _ (by simp) hb.drew)
theorem xZ (k:Wf.K) (R K1:ByteArray) (hS:S.toList.isEmpty=false) (h0:0<S.size) (h1:1<=S.size) (hR:S.extract 1 S.size=R) (hD:decide (D<1)=false) (hk0:0<KT.size) (hk1:1<=KT.size) (hK1:KT.extract 1 KT.size=K1) (ek:∀ h,(KT[0]'h).toNat=63) (hk:KT.data.toList.head? = some 63) (e1:∀ h,(S[0]'h).toNat=43) (kd:IntKind.i64.wrap (D-1)=(n:Int)) (o1:Option (Wf.V × List UInt8)) (ho:o=o1.map fun y=>(.mk 63 [] 0 [y.1],y.2))
  (hp:∀ wz,Below w.heap.size w wz->Calls Tryz.prog 51 #[.agg #[v],.string R,.string K1,.int .i64 n] wz fun e w'=>aB o1 wz e w'/\Below wz.heap.size wz w') :
  Calls Tryz.prog 51 #[.agg #[v],.string S,.string KT,.int .i64 D] w fun e w'=>aB o w e w'/\Below w.heap.size w w':=by
 have HP:=hid hp;have HKH:=hid hk;have HO:=hid ho;have kx:∀ wz,(Instr.slice 9 (.string S) (some (.int .i64 1)) none none).run Tryz.prog wz=.ok (.string R) wz:=fun wz=>by
  have h:=bD S 1 h1 wz;rw[hR] at h;exact h
 have ky:∀ wz,(Instr.slice 9 (.string KT) (some (.int .i64 1)) none none).run Tryz.prog wz=.ok (.string K1) wz:=fun wz=>by
  have h:=bD KT 1 hk1 wz;rw[hK1] at h;exact h
 clear hp hR hK1 hk ho;have c0:(w.alloc (.cells #[v] 99)).cell? ⟨w.heap.size,0,none⟩=some v:=by simp[go_sem]
 have B3:=hid ((Below.refl w.heap.size w).alloc (zaA) (.cells #[v] 99));have hl3:w.heap.size<(w.alloc (.cells #[v] 99)).heap.size:=by simp
 go_enter Tryz.func51,Tryz.ntmps51;go_wp2_with fail
 obtain⟨W3,hW3⟩:∃ W3,w.alloc (.cells #[v] 99)=W3:=⟨_,rfl⟩;rw[hW3] at c0 B3 hl3;rw[hW3];clear hW3;go_region_held3 (fun w'=>w'.cell? ⟨w.heap.size,0,none⟩=some v) (first|exact j0|go_keep) ((go_at_call 51;refine(HP.out W3.drew B3.out.drew).mono ?_;rintro e w7 ⟨ho,hb7⟩;obtain⟨p,r,b,rfl,hlr⟩:=ho.form;have HLR:=hid hlr;have HB7:=hid (zbE (Below.refl W3.heap.size W3) |>.trans hb7);have j0:=(HB7.out.cell (p:=⟨w.heap.size,0,none⟩) hl3).trans c0;clear ho hb7 hlr))
 all_goals (go_wp2_with fail)
 all_goals exact zbD (v:=.tuple #[ptr (w7.heap.size+1),.string r,.bool b]) (by simp[results,Tryz.results51,go_sem, *]) rfl (by
  have hle:=zaI B3.out.size HB7.out.size;have h7:=B3.out.trans (HB7.out.mono B3.out.size);refine⟨?_,(h7.alloc hle _).alloc (by simp;omega) _⟩;have hl:=HLR.out;cases ho1:o1 with
  | none =>
   rw[ho1] at hl;obtain⟨p',r',he⟩:=hl;obtain⟨_,_,e2⟩:=three he;injection e2 with e2;subst e2;exact aB.no (by rw[HO.out,ho1];rfl) ⟨_,_,rfl⟩
  | some y =>
   rw[ho1] at hl;obtain⟨b',he,hlv⟩:=hl;obtain⟨e0,e1,e2⟩:=three he;injection e0 with e0;injection e1 with e1;injection e2 with e2;subst e0 e1 e2;refine aB.yes (v:=.mk 63 [] 0 [y.1]) (r:=y.2) (by rw[HO.out,ho1];rfl) ⟨w7.heap.size+1,rfl,LV.opt1 (kb:=w7.heap.size) (u:=b') (KT:=KT) (by omega) hle (by first|(simp;done)|(simp;omega)) (by first|(simp;done)|(simp;omega)) HKH.out ?_ ?_ ?_ ?_ ?_ ?_ (LV.mono (LV.below (LV.below hlv ((zaB).alloc (zaA) _)) ((zaB).alloc (zaA) _)) fun z hz _=>by have:=B3.out.size;have:W3.drew.heap.size=W3.heap.size:=rfl;omega)⟩;all_goals (simp[go_sem];done))
end

theorem fH {x:Wf.Sc} {v:Value} {W:World} (hx:Wf.ScOk x) (lo bsc:Nat) (hsp:ScSp W lo bsc v x) {nm:List UInt8} {t:Wf.Ty} (hf:x.find nm=some t) (hnm:(Wf.K.ref nm).text.length<=1000000) (q:Nat) (hq:t.sort.toNat=q) (wz:World) (hz:Below W.heap.size W wz):Calls Tryz.prog 122 #[v,tx (Wf.K.ref nm).text] wz fun e w'=>(∃ fb fa fc,e=.returned (.tuple #[.agg #[.int .u8 q,.string ⟨t.name.toArray⟩,.slice fa t.fields.length fc],.bool true])/\RowK W fb (.slice fa t.fields.length fc) 4 (t.fields.map (fdS t.sort)))/\Below wz.heap.size wz w':=by
 rw[<-hq];exact xQ x v W t nm hx lo bsc hsp hf hnm wz hz
theorem rR (x:Wf.Sc) (hx:Wf.ScOk x) (v:Value) (lo bsc:Nat) (W:World) (hsp:ScSp W lo bsc v x):∀ (n:Nat),n<=1000->∀ (k:Wf.K),KOk x k->LR x v W n k:=by
 intro n;induction n with
 | zero =>
  intro _ k hk S w hS hW;refine nY v S ⟨k.text.toArray⟩ (0:Nat) w _ ?_ (Wf.zC x k _);by_cases h:S.toList.isEmpty=true
  ·exact .inl h
  ·exact .inr ⟨by simpa using h,by decide⟩
 | succ n ih =>
  intro hn k hk S w hS hW;have hD:decide (((n+1:Nat):Int)<1)=false:=decide_eq_false (by omega);have hDe:((n+1:Nat):Int)=(n:Int)+1:=by omega
  have kd:IntKind.i64.wrap (((n+1:Nat):Int)-1)=(n:Int):=by rw[hDe,Int.add_sub_cancel];exact zbI _ (by omega)
  cases hl:S.data.toList with
  | nil =>
   refine nY v S ⟨k.text.toArray⟩ _ w _ (.inl ?_) (Wf.rM x (n+1) k);rw[zaZ,hl];rfl
  | cons c q =>
   obtain⟨e1,e2,e3,e4,e5,e6⟩:=rP hl;have hRs:(S.extract 1 S.size).size<=1048576:=(by rw[zaY];omega);rw[<-hl];cases k with
   | num=>exact jU v S ⟨(Wf.K.text .num).toArray⟩ _ w _ e1 hD 110 (by decide) (fun _=>rfl) (.inl rfl) (fun wz=>zK x n v S hS wz)
   | txt=>exact jU v S ⟨(Wf.K.text .txt).toArray⟩ _ w _ e1 hD 116 (by decide) (fun _=>rfl) (.inr (.inl rfl)) (fun wz=>wC x n v S hS wz)
   | flag=>exact jU v S ⟨(Wf.K.text .flag).toArray⟩ _ w _ e1 hD 102 (by decide) (fun _=>rfl) (.inr (.inr rfl)) (fun wz=>tQ x n v S hS wz)
   | list k =>
    obtain⟨hk0,ek⟩:=bK (kd:=(Wf.K.list k).text) (c:=91) rfl;by_cases hc:c=91
    ·subst hc
     rw[hl];have h:=fun wz (hz:Below w.heap.size w wz)=>sU x v W n k (S.extract 1 S.size) ((n+1:Nat):Int) wz hRs hDe (by omega) (ih (by omega) k hk.list) (hW.trans (hz.mono hW.size));rw[e6] at h;exact vB v S _ _ w _ _ e1 e3 e4 rfl hD hk0 ek e5 h
    ·refine vR v S _ _ w _ e1 e3 hD hk0 ek c.toNat e5 ?_ (Wf.rW x n k (by rw[hl];simpa using hc))
     rw[bne_iff_ne];intro h;exact hc (UInt8.toNat_inj.1 (by show c.toNat=91;omega))
   | opt k =>
    obtain⟨hk0,ek⟩:=bK (kd:=(Wf.K.opt k).text) (c:=63) rfl;have hK1:(⟨(Wf.K.opt k).text.toArray⟩:ByteArray).extract 1 (⟨(Wf.K.opt k).text.toArray⟩:ByteArray).size=⟨k.text.toArray⟩:=(by rw[aQ,cI];rfl);by_cases h45:c=45
    ·subst h45
     exact a0V v S _ _ w _ _ e1 e3 e4 rfl hD hk0 ek rfl e5 (by rw[e6,hl];exact Wf.pW x n k q)
    ·by_cases h43:c=43
     ·subst h43
      refine xZ v n S _ _ w _ k _ _ e1 e3 e4 rfl hD hk0 (by simp[ByteArray.size,Wf.K.text]) hK1 ek rfl e5 kd (Wf.parse x n k (S.extract 1 S.size).data.toList) (by rw[hl,e6];exact Wf.nM x n k q) (fun wz hz=>ih (by omega) k hk.opt _ wz hRs (hW.trans (hz.mono hW.size)))
     ·refine a1S v S _ _ w _ e1 e3 hD hk0 ek c.toNat e5 ?_ ?_ (Wf.nH x n k (by rw[hl];simpa using h45) (by rw[hl];simpa using h43))
      ·rw[zaJ]
       intro h;exact h45 (UInt8.toNat_inj.1 (by show c.toNat=45;omega))
      ·rw[bne_iff_ne]
       intro h;exact h43 (UInt8.toNat_inj.1 (by show c.toNat=43;omega))
   | ref nm =>
    obtain⟨hk0,ek⟩:=bK (kd:=(Wf.K.ref nm).text) (c:=64) rfl;obtain⟨t,hf⟩:=Wf.mP hk.ref;have htx:=(Wf.cE hf).1;have hto:=hx.tys t htx;have hnm:(Wf.K.ref nm).text.length<=1000000:=(by have:=hk.len;omega);have htl:t.fields.length<=1000:=(by have:=hto.len;omega);have hR:=fun(h69:t.sort≠69) f hfm=>ih (by omega) f.kind (KOk.fld hx htx h69 (f:=f) hfm);refine a1N v S _ _ w _ e1 hD hk0 ek fun wz hz=>?_;have hWz:=hW.trans (hz.mono hW.size);rcases hto.sort with hs|hs|hs
    ·have hr:=fun wy (hy:Below wz.heap.size wz wy)=>fH hx lo bsc hsp hf hnm 82 (by rw[hs];rfl) wy (hWz.trans (hy.mono hWz.size))
     by_cases hc:c=123
     ·subst hc
      rw[hl];have h:=fun fb fa fc wy (hrow:RowK W fb (.slice fa t.fields.length fc) 4 (t.fields.map (fdS t.sort))) (hy:Below wz.heap.size wz wy)=>a0H x v W n t nm (S.extract 1 S.size) ((n+1:Nat):Int) wy hx lo bsc hsp htx hf fb fc fa hrow hs hRs hDe (by omega) (hR (by rw[hs];decide)) (hWz.trans (hy.mono hWz.size));rw[e6] at h;exact wZ v W t S _ wz _ _ _ _ e4 e5 rfl _ hr h
     ·refine lG v S _ wz 82 c.toNat _ _ t.fields.length e3 e5 (.inl ⟨rfl,?_⟩) (fun wy hy=>(hr wy hy).mono fun e w' ⟨⟨fb,fa,fc,h1,_⟩,h2⟩=>⟨⟨fa,fc,h1⟩,h2⟩) _ (Wf.oB x n hf hs (by rw[hl];simpa using hc))
      rw[zaJ];intro h;exact hc (UInt8.toNat_inj.1 (by show c.toNat=123;omega))
    ·have hr:=fun wy (hy:Below wz.heap.size wz wy)=>fH hx lo bsc hsp hf hnm 85 (by rw[hs];rfl) wy (hWz.trans (hy.mono hWz.size))
     by_cases hc:c=60
     ·subst hc
      rw[hl];have h:=uA x v W n t nm S ((n+1:Nat):Int) wz ⟨(Wf.K.ref nm).text.toArray⟩ ⟨t.name.toArray⟩ (S.extract 1 S.size) t.fields.length hx htx hf e4 hRs rfl e5 rfl hs hDe (by omega) hWz (hR (by rw[hs];decide)) hr (fun fb fa fc wy hrow hy=>by
       have h:=kN t htl v (S.extract 1 S.size) hRs fb fc fa W wy (hWz.trans (hy.mono hWz.size)) hrow;rw[hs] at h;exact h)
      rw[e6] at h;exact h
     ·refine lG v S _ wz 85 c.toNat _ _ t.fields.length e3 e5 (.inr (.inr ⟨rfl,?_⟩)) (fun wy hy=>(hr wy hy).mono fun e w' ⟨⟨fb,fa,fc,h1,_⟩,h2⟩=>⟨⟨fa,fc,h1⟩,h2⟩) _ (Wf.rE x n hf hs (by rw[hl];simpa using hc))
      rw[zaJ];intro h;exact hc (UInt8.toNat_inj.1 (by show c.toNat=60;omega))
    ·have hr:=fun wy (hy:Below wz.heap.size wz wy)=>fH hx lo bsc hsp hf hnm 69 (by rw[hs];rfl) wy (hWz.trans (hy.mono hWz.size))
     by_cases hc:c=35
     ·subst hc
      rw[hl,a1G x n hf hs q];have h:=xV v W t S ((n+1:Nat):Int) wz ⟨(Wf.K.ref nm).text.toArray⟩ ⟨t.name.toArray⟩ (S.extract 1 S.size) t.fields.length e4 rfl e5 rfl hs hr (fun fb fa fc wy hrow hy=>by
       have h:=kN t htl v (S.extract 1 S.size) hRs fb fc fa W wy (hWz.trans (hy.mono hWz.size)) hrow;rw[hs] at h;exact h)
      rw[e6] at h;exact h
     ·refine lG v S _ wz 69 c.toNat _ _ t.fields.length e3 e5 (.inr (.inl ⟨rfl,?_⟩)) (fun wy hy=>(hr wy hy).mono fun e w' ⟨⟨fb,fa,fc,h1,_⟩,h2⟩=>⟨⟨fa,fc,h1⟩,h2⟩) _ (Wf.qU x n hf hs (by rw[hl];simpa using hc))
      rw[zaJ];intro h;exact hc (UInt8.toNat_inj.1 (by show c.toNat=35;omega))
def cK (l kt s:List UInt8) (lo:Nat) (e:Ending) (w':World):Prop:=match valOf l kt s with
 | some y=>∃ b a c p,e=.returned (.tuple #[.slice a y.1.1.length c,ptr p,.bool true])/\ScSp w' lo b (.slice a y.1.1.length c) y.1.1/\LV w' (fun z=>lo<=z) y.2 p
 | none=>∃ a n c p,e=.returned (.tuple #[.slice a n c,.pointer p,.bool false])
theorem cK.no {l kt s:List UInt8} {lo:Nat} {e:Ending} {w':World} (h:valOf l kt s=none) (he:∃ a n c p,e=.returned (.tuple #[.slice a n c,.pointer p,.bool false])):cK l kt s lo e w':=by
 unfold cK;rw[h];exact he
theorem cK.yes {l kt s:List UInt8} {lo:Nat} {e:Ending} {w':World} {y:(Wf.Sc × Wf.K) × Wf.V} (h:valOf l kt s=some y) (he:∃ b a c p,e=.returned (.tuple #[.slice a y.1.1.length c,ptr p,.bool true])/\ScSp w' lo b (.slice a y.1.1.length c) y.1.1/\LV w' (fun z=>lo<=z) y.2 p):cK l kt s lo e w':=by
 unfold cK;rw[h];exact he
theorem l4Of (s kt v:ByteArray) (w:World) (hs:s.size<=1048576) (hv:v.size<=1048576):Calls Tryz.prog 29 #[.string s,.string kt,.string v] w fun e w'=>cK s.data.toList kt.data.toList v.data.toList w.heap.size e w'/\Below w.heap.size w w':=by
 have HLK:=hid (oQ s kt w hs);cases hty:aV s.data.toList kt.data.toList with
 | none =>
  have HO:=hid fun lo e wz (h:cM s.data.toList kt.data.toList lo e wz)=>(by unfold cM at h;rw[hty] at h;exact h:∃ a n c,e=.returned (.tuple #[.slice a n c,.bool false]));have HF:=hid (show valOf s.data.toList kt.data.toList v.data.toList=none by unfold valOf;rw[hty]);clear hty;go_enter Tryz.func29,Tryz.ntmps29;go_wp2_with (go_at_call 50;refine HLK.out.mono ?_;rintro e w2 ⟨ho,hb2⟩;obtain⟨a,n,c,rfl⟩:=HO.out _ _ _ ho;have HB2:=hid hb2;clear ho hb2)
  all_goals exact zbD (v:=.tuple #[.slice none 0 0,.pointer none,.bool false]) (by simp[results,Tryz.results29,go_sem, *]) rfl ⟨cK.no HF.out ⟨_,_,_,_,rfl⟩,HB2.out⟩
 | some y =>
  obtain⟨x,k⟩:=y;obtain⟨hsc,hpk,hhas,hkt,hkl⟩:=jJ hty;have hx:=Wf.gE hsc;have hk:KOk x k:=⟨by rw[hkt];exact hkl,hhas⟩;have HO:=hid fun lo e wz (h:cM s.data.toList kt.data.toList lo e wz)=>(by unfold cM at h;rw[hty] at h;exact h:∃ b a c,e=.returned (.tuple #[.slice a x.length c,.bool true])/\ScSp wz lo b (.slice a x.length c) x);obtain⟨xn,hxn⟩:∃ xn,x.length=xn:=⟨_,rfl⟩;rw[hxn] at HO;have hkk:tx k.text=.string kt:=by rw[tx,show k.text=kt.data.toList from hkt]
  by_cases h400:v.size<=400
  ·have HRD:=hid fun(wz:World) (vv:Value) (lo b:Nat) (hsp:ScSp wz lo b vv x)=>(by
    have h:=rR x hx vv lo b wz hsp 12 (by omega) k hk v wz hv (zaB);rw[hkk] at h;exact h:Calls Tryz.prog 51 #[.agg #[vv],.string v,.string kt,.int .i64 12] wz fun e w'=>aB (Wf.parse x 12 k v.data.toList) wz e w'/\Below wz.heap.size wz w')
   have HV:=hid (show valOf s.data.toList kt.data.toList v.data.toList=match (match Wf.parse x 12 k v.data.toList with|some (u,[])=>some u|_=>none) with|some u=>some ((x,k),u)|none=>none by
    unfold valOf;rw[hty];dsimp only;rw[Wf.valIn,if_pos (by rw[aE];exact h400)];rfl)
   have hd:decide ((400:Int)<(v.size:Int))=false:=decide_eq_false (by omega);clear hty hsc hpk hhas hkt hkl hkk;cases hp:Wf.parse x 12 k v.data.toList with
   | none =>
    have HF:=hid (show valOf s.data.toList kt.data.toList v.data.toList=none by rw[HV.out,hp]);have HO2:=hid fun(e:Ending) (w w':World) (h:aB (Wf.parse x 12 k v.data.toList) w e w')=>(by rw[hp] at h;exact h:∃ (p:Option Addr) (r:ByteArray),e=.returned (.tuple #[.pointer p,.string r,.bool false]));clear hp;go_enter Tryz.func29,Tryz.ntmps29;go_wp2_with (first|(go_at_call 51;refine(HRD.out _ _ _ _ HSP.out).mono ?_;rintro e w3 ⟨ho,hb3⟩;obtain⟨p,r,rfl⟩:=HO2.out _ _ _ ho;have HB3:=hid (aC HB2.out hb3);clear ho hb3)|(go_at_call 50;refine HLK.out.mono ?_;rintro e w2 ⟨ho,hb2⟩;obtain⟨b,a,c,rfl,hsp⟩:=HO.out _ _ _ ho;have HSP:=hid hsp;have HB2:=hid hb2;clear ho hb2 hsp))
    all_goals exact zbD (v:=.tuple #[.slice a xn c,.pointer p,.bool false]) (by simp[results,Tryz.results29,go_sem, *]) rfl ⟨cK.no HF.out ⟨_,_,_,_,rfl⟩,HB3.out⟩
   | some y =>
    obtain⟨u,rr⟩:=y;obtain⟨RR,hRR⟩:∃ RR:ByteArray,(⟨rr.toArray⟩:ByteArray)=RR:=⟨_,rfl⟩;have HO2:=hid fun(e:Ending) (w w':World) (h:aB (Wf.parse x 12 k v.data.toList) w e w')=>(by unfold aB at h;rw[hp] at h;dsimp only at h;rw[tx,hRR] at h;exact h:∃ b,e=.returned (.tuple #[ptr b,.string RR,.bool true])/\LV w' (fun z=>w.heap.size<=z) u b);cases rr with
    | nil =>
     have HF:=hid (show valOf s.data.toList kt.data.toList v.data.toList=some ((x,k),u) by rw[HV.out,hp]);have hre:RR.toList.isEmpty=true:=(by rw[<-hRR,zaZ];rfl);have hre2:RR.toList=[]:=List.isEmpty_iff.1 hre;have HXN:=hid hxn;clear hp hRR hxn;go_enter Tryz.func29,Tryz.ntmps29;go_wp2_with (first|(go_at_call 51;refine(HRD.out _ _ _ _ HSP.out).mono ?_;rintro e w3 ⟨ho,hb3⟩;obtain⟨pb,rfl,hlv⟩:=HO2.out _ _ _ ho;have HLV:=hid hlv;have HB3:=hid (aC HB2.out hb3);have HSP3:=hid (HSP.out.below hb3);clear ho hb3 hlv)|(go_at_call 50;refine HLK.out.mono ?_;rintro e w2 ⟨ho,hb2⟩;obtain⟨b,a,c,rfl,hsp⟩:=HO.out _ _ _ ho;have HSP:=hid hsp;have HB2:=hid hb2;clear ho hb2 hsp))
     all_goals exact zbD (v:=.tuple #[.slice a xn c,ptr pb,.bool true]) (by simp[results,Tryz.results29,go_sem, *]) rfl ⟨cK.yes HF.out ⟨b,a,c,pb,by rw[HXN.out],by rw[HXN.out];exact HSP3.out,LV.mono HLV.out fun z hz _=>zaI HB2.out.size hz⟩,HB3.out⟩
    | cons c0 q0 =>
     have HF:=hid (show valOf s.data.toList kt.data.toList v.data.toList=none by rw[HV.out,hp]);have hre:RR.toList.isEmpty=false:=(by rw[<-hRR,zaZ];rfl);have hre2:RR.toList≠[]:=(by rw[<-hRR,zaZ];exact List.cons_ne_nil _ _);clear hp hRR;go_enter Tryz.func29,Tryz.ntmps29;go_wp2_with (first|(go_at_call 51;refine(HRD.out _ _ _ _ HSP.out).mono ?_;rintro e w3 ⟨ho,hb3⟩;obtain⟨pb,rfl,hlv⟩:=HO2.out _ _ _ ho;have HB3:=hid (aC HB2.out hb3);clear ho hb3 hlv)|(go_at_call 50;refine HLK.out.mono ?_;rintro e w2 ⟨ho,hb2⟩;obtain⟨b,a,c,rfl,hsp⟩:=HO.out _ _ _ ho;have HSP:=hid hsp;have HB2:=hid hb2;clear ho hb2 hsp))
     all_goals exact zbD (v:=.tuple #[.slice a xn c,ptr pb,.bool false]) (by simp[results,Tryz.results29,go_sem, *]) rfl ⟨cK.no HF.out ⟨_,_,_,_,rfl⟩,HB3.out⟩
  ·have HF:=hid (show valOf s.data.toList kt.data.toList v.data.toList=none by
    unfold valOf;rw[hty];dsimp only;rw[Wf.jW (by rw[aE];exact h400)])
   have hd:decide ((400:Int)<(v.size:Int))=true:=decide_eq_true (by omega);clear hty hsc hpk hhas hkt hkl hkk;go_enter Tryz.func29,Tryz.ntmps29;go_wp2_with (go_at_call 50;refine HLK.out.mono ?_;rintro e w2 ⟨ho,hb2⟩;obtain⟨b,a,c,rfl,hsp⟩:=HO.out _ _ _ ho;have HB2:=hid hb2;clear ho hb2 hsp)
   all_goals exact zbD (v:=.tuple #[.slice none 0 0,.pointer none,.bool false]) (by simp[results,Tryz.results29,go_sem, *]) rfl ⟨cK.no HF.out ⟨_,_,_,_,rfl⟩,HB2.out⟩
theorem cK.form {l kt s:List UInt8} {lo:Nat} {e:Ending} {w':World} (h:cK l kt s lo e w'):∃ (a:Option Addr) (n c:Nat) (p:Option Addr),e=.returned (.tuple #[.slice a n c,.pointer p,.bool (vOkB l kt s)]):=by
 unfold cK at h;unfold vOkB;cases hv:valOf l kt s with
 | none =>
  rw[hv] at h;exact h
 | some y =>
  rw[hv] at h;obtain⟨b,a,c,p,rfl,_⟩:=h;exact⟨_,_,_,_,rfl⟩

def vfV:Option (List UInt8)->Value
 | some b=>.tuple #[tx b,.bool true]
 | none=>.tuple #[tx [],.bool false]

theorem a2V (w:World) (SG BS NM:ByteArray):(w.alloc (.cells #[.string SG,.string BS,.string NM] 48)).cell? ⟨w.heap.size,0,none⟩=some (.string SG)/\(w.alloc (.cells #[.string SG,.string BS,.string NM] 48)).cell? ⟨w.heap.size,1,none⟩=some (.string BS)/\(w.alloc (.cells #[.string SG,.string BS,.string NM] 48)).cell? ⟨w.heap.size,2,none⟩=some (.string NM):=by
 refine⟨?_,?_,?_⟩ <;> simp[go_sem]
theorem gG (sb:Nat) (SG BS NM:ByteArray) (w:World) (h:SG.toList.isEmpty=false\/(SG.toList.isEmpty=true/\(BS.toList==[64])=false)):Calls Tryz.prog 36 #[ptr sb,.agg #[.string SG,.string BS,.string NM]] w fun e w'=>e=.returned (.tuple #[.pointer none,.bool false])/\Below w.heap.size w w':=by
 rcases h with h|⟨h,h2⟩;all_goals
  go_enter Tryz.func36,Tryz.ntmps36;go_wp2_with fail
  all_goals exact zbD (v:=.tuple #[.pointer none,.bool false]) (by simp[results,Tryz.results36,go_sem, *]) rfl ⟨rfl,(zaB).alloc (zaA) _⟩
theorem a0R (B:Bool) (sb mb tb q:Nat) (SG BS NM:ByteArray) (W w:World) (hW:Below W.heap.size W w) (hsb:sb<W.heap.size) (htb:tb<W.heap.size) (c1:W.cell? ⟨sb,1,none⟩=some (.map (some mb))) (t0:W.cell? ⟨tb,0,none⟩=some (.int .u8 q))
  (look:∀ wz,Below W.heap.size W wz->(Instr.lookup 114 (.map (some mb)) (.string NM) false).run Tryz.prog wz=.ok (ptr tb) wz) (hSG:SG.toList.isEmpty=true) (hSG2:SG.toList=[]) (hBS:BS.toList=[64]) (hq:((q:Int)==82)=B) :
  Calls Tryz.prog 36 #[ptr sb,.agg #[.string SG,.string BS,.string NM]] w fun e w'=>e=.returned (.tuple #[ptr tb,.bool B])/\Below w.heap.size w w':=by
 have HLK:=hid look;obtain⟨k0,k1,k2⟩:=a2V w SG BS NM;have hBS2:(BS.toList==[64])=true:=by rw[hBS];rfl
 have B3:=hid (hW.alloc hW.size (.cells #[.string SG,.string BS,.string NM] 48));have BW3:=hid ((Below.refl w.heap.size w).alloc (zaA) (.cells #[.string SG,.string BS,.string NM] 48));have l0:=HLK.out _ B3.out;have l1:=HLK.out _ B3.out.drew;have m1:=(B3.out.cell (p:=⟨sb,1,none⟩) hsb).trans c1;have u0:=(B3.out.cell (p:=⟨tb,0,none⟩) htb).trans t0;have hsw:sb<w.heap.size:=zaC hsb hW.size;have htw:tb<w.heap.size:=zaC htb hW.size;clear look c1 t0 hBS;cases B;all_goals
  go_enter Tryz.func36,Tryz.ntmps36;go_wp2_with fail
  obtain⟨W3,hW3⟩:∃ W3,w.alloc (.cells #[.string SG,.string BS,.string NM] 48)=W3:=⟨_,rfl⟩;rw[hW3] at k0 k1 k2 B3 BW3 l0 l1 m1 u0;rw[hW3];have hs3:w.heap.size<W3.heap.size:=by rw[<-hW3];simp
  have hsb3:sb<W3.heap.size:=by omega
  have htb3:tb<W3.heap.size:=by omega
  clear hW3;go_region_held3 (fun w'=>w'.cell? ⟨sb,1,none⟩=some (.map (some mb))/\w'.cell? ⟨w.heap.size,2,none⟩=some (.string NM)/\(Instr.lookup 114 (.map (some mb)) (.string NM) false).run Tryz.prog w'=.ok (ptr tb) w') (first|exact⟨m1,k2,l1⟩|go_keep) (fail)
  all_goals (go_wp2_with fail)
  all_goals (try go_quiet (fail))
  all_goals (go_wp2_with fail)
  all_goals exact zbD (v:=.tuple #[ptr tb,.bool _]) (by simp[results,Tryz.results36,go_sem, *]) rfl ⟨rfl,by first|exact bdn BW3.out.drew _|exact bdn BW3.out _|exact BW3.out.drew⟩
theorem record (x:Wf.Sc) (hx:Wf.ScOk x) (lo sb:Nat) (k:Wf.K) (hk:KOk x k) (W w:World) (hsc:ScL W lo sb x) (hW:Below W.heap.size W w):Calls Tryz.prog 36 #[ptr sb,kV k] w fun e w'=>(match Wf.recTy x k with
  | some t=>∃ tb,e=.returned (.tuple #[ptr tb,.bool true])/\TyL W lo tb t
  | none=>∃ p,e=.returned (.tuple #[.pointer p,.bool false]))/\Below w.heap.size w w':=by
 cases k with
 | ref nm =>
  obtain⟨mb,hsz,hc1,hnm⟩:=hsc.named;obtain⟨t,ht⟩:=Wf.mP hk.ref;have hnl:nm.length<=12:=by have:=fP (.ref nm);have h2:=hk.len;simp only[Wf.K.name] at this;omega
  rcases hnm ⟨nm.toArray⟩ (by rw[aR];omega) with⟨h0,_⟩|⟨t',b,h1,hT,hl⟩
  ·rw[show(⟨nm.toArray⟩:ByteArray).data.toList=nm from rfl,ht] at h0;cases h0
  rw[show(⟨nm.toArray⟩:ByteArray).data.toList=nm from rfl,ht] at h1;obtain rfl:t=t':=Option.some.inj h1;have hto:=hx.tys t (Wf.cE ht).1;have hq:((t.sort.toNat:Int)==82)=decide (t.sort=82):=by
   rcases hto.sort with h|h|h <;> rw[h] <;> rfl
  refine(a0R (decide (t.sort=82)) sb mb b t.sort.toNat ⟨#[]⟩ ⟨#[64]⟩ ⟨nm.toArray⟩ W w hW hsz hT.sort.1 hc1 hT.sort.2 hl (by rw[zaZ];rfl) (by rw[zaZ]) (by rw[zaZ]) hq).mono fun e w' ⟨h1,h2⟩=>⟨?_,h2⟩;have hr:Wf.recTy x (.ref nm)=if t.sort=82 then some t else none:=by simp only[Wf.recTy,ht,Option.bind_some]
  rw[hr];by_cases h82:t.sort=82
  ·rw[if_pos h82]
   rw[decide_eq_true h82] at h1;exact⟨b,h1,hT⟩
  ·rw[if_neg h82]
   rw[decide_eq_false h82] at h1;exact⟨_,h1⟩
 | num=>exact(gG sb ⟨#[]⟩ ⟨#[110]⟩ ⟨#[]⟩ w (.inr ⟨by rw[zaZ];rfl,by rw[zaZ];rfl⟩)).mono fun e w' ⟨h1,h2⟩=>⟨⟨_,h1⟩,h2⟩
 | txt=>exact(gG sb ⟨#[]⟩ ⟨#[116]⟩ ⟨#[]⟩ w (.inr ⟨by rw[zaZ];rfl,by rw[zaZ];rfl⟩)).mono fun e w' ⟨h1,h2⟩=>⟨⟨_,h1⟩,h2⟩
 | flag=>exact(gG sb ⟨#[]⟩ ⟨#[102]⟩ ⟨#[]⟩ w (.inr ⟨by rw[zaZ];rfl,by rw[zaZ];rfl⟩)).mono fun e w' ⟨h1,h2⟩=>⟨⟨_,h1⟩,h2⟩
 | list k=>exact(gG sb ⟨(Wf.K.signs (.list k)).toArray⟩ ⟨(Wf.K.base (.list k)).toArray⟩ ⟨(Wf.K.name (.list k)).toArray⟩ w (.inl (by rw[zaZ];rfl))).mono fun e w' ⟨h1,h2⟩=>⟨⟨_,h1⟩,h2⟩
 | opt k=>exact(gG sb ⟨(Wf.K.signs (.opt k)).toArray⟩ ⟨(Wf.K.base (.opt k)).toArray⟩ ⟨(Wf.K.name (.opt k)).toArray⟩ w (.inl (by rw[zaZ];rfl))).mono fun e w' ⟨h1,h2⟩=>⟨⟨_,h1⟩,h2⟩

def gT (e:Ending):Prop:=e=.returned (.tuple #[.pointer none,.agg #[.int .u8 0,.string ⟨#[]⟩,.int .i64 0,.slice none 0 0],.bool false])
def dR (l kt s:List UInt8) (g:Int) (lo:Nat) (e:Ending) (w':World):Prop:=match valOf l kt s with
 | some y=>(match Wf.gN y.1.1 y.1.2 g with
  | some f=>∃ fb o cs,e=.returned (.tuple #[.pointer (some ⟨fb,o,none⟩),.agg cs.toArray,.bool true])/\FdAt w' fb o 82 f/\VC w' (fun b=>lo<=b) y.2 cs
  | none=>gT e)
 | none=>gT e
theorem TyL.a2F {w:World} {lo b:Nat} {t:Wf.Ty} (h:TyL w lo b t):∃ fb a c,lo<=fb/\b<w.heap.size/\w.cell? ⟨b,2,none⟩=some (.slice a t.fields.length c)/\t.fields.length<=c/\c<=maxLen/\∀ i (hi:i<t.fields.length),∃ o,a=some ⟨fb,o,none⟩/\FdAt w fb (o+i*6) t.sort t.fields[i]:=by
 obtain⟨fb,a,c,line,_,hlo,hb,_,_,c2,_,hr⟩:=h;have hl:t.fields.length<=c/\c<=maxLen:=by
  obtain⟨a',cap',e1,e2,e3,_⟩:=hr;simp only[Value.slice.injEq] at e1;rw[zaG] at e2;omega
 refine⟨fb,a,c,hlo,hb,c2,hl.1,hl.2,fun i hi=>?_⟩;obtain⟨o,ha,hfb,_,_,hcell⟩:=hr.get (i:=i) (by rw[zaG];exact hi);have e0:(t.fields.map (fdC t.sort))[i]'(by rw[zaG];exact hi)=fdC t.sort t.fields[i]:=by rw[zaR]
 rw[e0] at hcell;refine⟨o,ha,hfb,fun j u hu=>hcell j u ?_ hu⟩;have:=(List.getElem?_eq_some_iff.1 hu).1;rw[oK] at this;exact this
def iP (W:World) (t:Wf.Ty) (g:Int) (lo:Nat) (e:Ending):Prop:=match bJ t g with
 | some f=>∃ fb o,e=.returned (.pointer (some ⟨fb,o,none⟩))/\FdAt W fb o t.sort f/\lo<=fb
 | none=>e=.returned (.pointer none)
theorem yV (t:Wf.Ty) (ht:t.fields.length<=1000) (g:Int) (lo tb:Nat) (W w:World) (hW:Below W.heap.size W w) (hT:TyL W lo tb t):Calls Tryz.prog 40 #[ptr tb,.int .i64 g] w fun e w'=>iP W t g lo e/\w=w':=by
 obtain⟨fb,a,c,hlo,hb,c2,hnc,hcm,hrow⟩:=hT.a2F;have HROW:=hid hrow;obtain⟨n,hn⟩:∃ n,t.fields.length=n:=⟨_,rfl⟩;have HN:=hid hn;rw[hn] at ht c2 hnc;have y2:=(hW.cell (p:=⟨tb,2,none⟩) hb).trans c2;have HW:=hid hW;clear hrow hn c2 hT;go_enter Tryz.func40,Tryz.ntmps40;go_wp2_with fail
 go_loop [11] (fun v=>∃ k:Nat,k<=n/\v=.int .i64 k/\Hid (∀ j (hj:j<t.fields.length),j<k->((t.fields[j]).tag:Int)≠g)) (fun v=>n-(RowKit.intOf v).toNat)
 case atStart=>exact⟨0,Nat.zero_le _,rfl,hid fun j hj h=>by omega⟩
 case round =>
  obtain⟨k,hk,rfl,hno⟩:=hrel;by_cases hlt:k<n
  ·have hkx:k<t.fields.length:=by rw[HN.out];exact hlt
   obtain⟨o,rfl,hfd⟩:=HROW.out k hkx;have HFD:=hid hfd;have e0:(fdC t.sort t.fields[k])[0]? = some (.int .i64 (t.fields[k]).tag):=by
    obtain⟨_,_,_,_,h⟩:=eD t.sort t.fields[k];rw[h];rfl
   have z0:w.cell? ⟨fb,o+k*6,none⟩=some (.int .i64 (t.fields[k]).tag):=(HW.out.cell (p:=⟨fb,o+k*6,none⟩) hfd.1).trans (hfd.2 0 _ e0);obtain⟨G,hG⟩:∃ G,(t.fields[k]).tag=G:=⟨_,rfl⟩;rw[hG] at z0;have HG:=hid hG;clear hfd e0 hG;cases hq:((G:Int)==g) with
   | true =>
    have HF:=hid (show bJ t g=some t.fields[k] from lS hkx hno.out (by rw[HG.out];simpa using hq));have hge:(G:Int)=g:=(by simpa using hq);subst hge;clear hq;go_wp2_with fail
    go_ret
    exact⟨by unfold iP;rw[HF.out];exact⟨fb,o+k*6,rfl,HFD.out,hlo⟩,rfl⟩
   | false =>
    have hne:Hid ((G:Int)≠g):=hid (by simpa using hq);go_wp2_with fail
    go_round
    case rel=>exact⟨k+1,by omega,by go_num,hid fun j hj hjk=>by
     by_cases hj2:j=k
     ·subst hj2;rw[HG.out];exact hne.out
     ·exact hno.out j hj (by omega)⟩
    case measure=>simp[RowKit.intOf];omega
  ·have hkn:k=n:=by omega
   subst hkn;have HF:=hid (show bJ t g=none from lB fun j hj=>hno.out j hj (by rw[<-HN.out];exact hj));go_wp2_with fail
   go_ret
   exact⟨by unfold iP;rw[HF.out];rfl,rfl⟩
theorem FdAt.over {w w':World} {fb o lo:Nat} {q:UInt8} {f:Wf.Fd} (h:FdAt w fb o q f) (hlo:lo<=fb) (hb:Over lo w w'):FdAt w' fb o q f :=
 ⟨zaC h.1 hb.size,fun j u hu=>(zbJ (w:=w) (w':=w') (a:=⟨fb,o+j,none⟩) (hb.block fb hlo h.1)).trans (h.2 j u hu)⟩
theorem tF (w:World) (q n c:Nat) (g:Int) (T:ByteArray) (a:Option Addr):(w.alloc (.cells #[.int .u8 q,.string T,.int .i64 g,.slice a n c] 51)).cell? ⟨w.heap.size,0,none⟩=some (.int .u8 q)/\(w.alloc (.cells #[.int .u8 q,.string T,.int .i64 g,.slice a n c] 51)).cell? ⟨w.heap.size,1,none⟩=some (.string T)/\(w.alloc (.cells #[.int .u8 q,.string T,.int .i64 g,.slice a n c] 51)).cell? ⟨w.heap.size,2,none⟩=some (.int .i64 g)/\(w.alloc (.cells #[.int .u8 q,.string T,.int .i64 g,.slice a n c] 51)).cell? ⟨w.heap.size,3,none⟩=some (.slice a n c):=by
 refine⟨?_,?_,?_,?_⟩ <;> simp[go_sem]
theorem a3O (s kt v:ByteArray) (g:Int) (m:Int) (w:World) (hm:ML m w) (hs:s.size<=1048576) (hkt:kt.size<=1048576) (hv:v.size<=1048576):Calls Tryz.prog 43 #[.string s,.string kt,.string v,.int .i64 g] w fun e w'=>dR s.data.toList kt.data.toList v.data.toList g w.heap.size e w'/\Below w.heap.size w w':=by
 have W0:=(Below.refl w.heap.size w).alloc (zaA) (.cells #[.int .u8 0,.string ⟨#[]⟩,.int .i64 0,.slice none 0 0] 51);have HG:=hid (given s kt v m _ (hm.below W0) hs hkt hv);clear hm W0;cases hvo:valOf s.data.toList kt.data.toList v.data.toList with
 | none =>
  have HO:=hid fun lo e w' (h:bC s.data.toList kt.data.toList v.data.toList lo e w')=>(by unfold bC at h;rw[hvo] at h;exact h:∃ p a b c,e=.returned (.tuple #[.pointer p,.agg #[.string a,.string b,.string c],.agg #[.int .u8 0,.string ⟨#[]⟩,.int .i64 0,.slice none 0 0],.bool false]));have HD:=hid fun(e:Ending) (w':World) (h:gT e)=>(show dR s.data.toList kt.data.toList v.data.toList g w.heap.size e w' by unfold dR;rw[hvo];exact h);clear hvo;go_enter Tryz.func43,Tryz.ntmps43;go_wp2_with (go_at_call 27;refine HG.out.mono ?_;rintro e w2 ⟨ho,hb2⟩;obtain⟨p,a,b,c,rfl⟩:=HO.out _ _ _ ho;have Z2:=hid ((eE w).below hb2 (by simp));have HB2:=hid (aC ((Below.refl w.heap.size w).alloc (zaA) _) hb2);obtain⟨zl,zr0,zr1,zr2,zr3,zf0,zf1,zf2,zf3⟩:=Z2.out;clear ho hb2)
  all_goals exact zbD (v:=.tuple #[.pointer none,.agg #[.int .u8 0,.string ⟨#[]⟩,.int .i64 0,.slice none 0 0],.bool false]) (by simp[results,Tryz.results43,go_sem, *]) rfl ⟨HD.out _ _ rfl,by have B:=HB2.out;have hB:=B.size;repeat (first|with_reducible exact B|with_reducible refine zbE ?_|with_reducible refine zbF ?_ (by first|(simp;done)|(simp;omega)) _|with_reducible refine zbG ?_ (by first|exact B.size|(simp;omega)) _)⟩
 | some y =>
  obtain⟨⟨x,k⟩,u⟩:=y;obtain⟨hko,hvi⟩:=lI hvo;obtain⟨hx,hk⟩:=gW hko;obtain⟨SG,hSG⟩:∃ SG:ByteArray,(⟨k.signs.toArray⟩:ByteArray)=SG:=⟨_,rfl⟩;obtain⟨BS,hBS⟩:∃ BS:ByteArray,(⟨k.base.toArray⟩:ByteArray)=BS:=⟨_,rfl⟩;obtain⟨NM,hNM⟩:∃ NM:ByteArray,(⟨k.name.toArray⟩:ByteArray)=NM:=⟨_,rfl⟩;have hkv:kV k=.agg #[.string SG,.string BS,.string NM]:=by simp only[kV,tx,hSG,hBS,hNM]
  have HO:=hid fun lo e w' (h:bC s.data.toList kt.data.toList v.data.toList lo e w')=>(by unfold bC at h;rw[hvo] at h;dsimp only at h;rw[hkv] at h;exact h:∃ sb cs,e=.returned (.tuple #[ptr sb,.agg #[.string SG,.string BS,.string NM],.agg cs.toArray,.bool true])/\ScL w' lo sb x/\VC w' (fun b=>lo<=b) u cs);cases hrt:Wf.recTy x k with
  | none =>
   have HD:=hid fun(e:Ending) (w':World) (h:gT e)=>(show dR s.data.toList kt.data.toList v.data.toList g w.heap.size e w' by unfold dR;rw[hvo];dsimp only;rw[show Wf.gN x k g=none by unfold Wf.gN;rw[hrt];rfl];exact h);have HR:=hid fun(lo sb:Nat) (W wz:World) (hsc:ScL W lo sb x) (hz:Below W.heap.size W wz)=>(by
    have h:=record x hx lo sb k hk W wz hsc hz;rw[hrt,hkv] at h;exact h:Calls Tryz.prog 36 #[ptr sb,.agg #[.string SG,.string BS,.string NM]] wz fun e w'=>(∃ p,e=.returned (.tuple #[.pointer p,.bool false]))/\Below wz.heap.size wz w')
   clear hvo hko hvi hSG hBS hNM hkv hrt;go_enter Tryz.func43,Tryz.ntmps43;go_wp2_with (first|(go_at_call 36;refine(HR.out _ _ _ _ HSC.out (by first|exact((zaB).alloc (zaA) _).alloc (by simp) _)).mono ?_;rintro e w3 ⟨⟨p,rfl⟩,hb3⟩;have HB3:=hid (aC ((HB2.out.alloc HB2.out.size _).alloc (by have:=HB2.out.size;simp;omega) _) hb3);obtain⟨zl,zr0,zr1,zr2,zr3,zf0,zf1,zf2,zf3⟩:=(Z2.out.below (((Below.refl w2.heap.size w2).alloc (zaA) _).alloc (by simp) _) Z2.out.lt).below hb3 (by have:=Z2.out.lt;simp;omega);clear hb3)|(go_at_call 27;refine HG.out.mono ?_;rintro e w2 ⟨ho,hb2⟩;obtain⟨sb,cs,rfl,hsc,hvc⟩:=HO.out _ _ _ ho;obtain⟨q,gg,n,d,T,sa,rfl⟩:=hvc.aY;have HSC:=hid hsc;have Z2:=hid ((eE w).below hb2 (by simp));have HB2:=hid (aC ((Below.refl w.heap.size w).alloc (zaA) _) hb2);clear ho hb2 hsc hvc))
   all_goals exact zbD (v:=.tuple #[.pointer none,.agg #[.int .u8 0,.string ⟨#[]⟩,.int .i64 0,.slice none 0 0],.bool false]) (by simp[results,Tryz.results43,go_sem, *]) rfl ⟨HD.out _ _ rfl,by have B:=HB3.out;have hB:=B.size;repeat (first|with_reducible exact B|with_reducible refine zbE ?_|with_reducible refine zbF ?_ (by first|(simp;done)|(simp;omega)) _|with_reducible refine zbG ?_ (by first|exact B.size|(simp;omega)) _)⟩
  | some t =>
   obtain⟨nm,rfl,hft,h82⟩:=Wf.xM hrt;have htl:t.fields.length<=1000:=(by have:=(hx.tys t (Wf.cE hft).1).len;omega);have hrd:Wf.gN x (.ref nm) g=bJ t g:=(by unfold Wf.gN;rw[hrt];rfl);have HR:=hid fun(lo sb:Nat) (W wz:World) (hsc:ScL W lo sb x) (hz:Below W.heap.size W wz)=>(by
    have h:=record x hx lo sb (.ref nm) hk W wz hsc hz;rw[hrt,hkv] at h;exact h:Calls Tryz.prog 36 #[ptr sb,.agg #[.string SG,.string BS,.string NM]] wz fun e w'=>(∃ tb,e=.returned (.tuple #[ptr tb,.bool true])/\TyL W lo tb t)/\Below wz.heap.size wz w')
   have HF:=hid fun(lo tb:Nat) (W wz:World) (hT:TyL W lo tb t) (hz:Below W.heap.size W wz)=>field t htl g lo tb W wz hz hT;cases hfi:bJ t g with
   | none =>
    have HFI:=hid hfi;have HD:=hid fun(e:Ending) (w':World) (h:gT e)=>(show dR s.data.toList kt.data.toList v.data.toList g w.heap.size e w' by unfold dR;rw[hvo];dsimp only;rw[hrd,hfi];exact h);clear hvo hko hvi hSG hBS hNM hkv hrt hfi hrd;go_enter Tryz.func43,Tryz.ntmps43;go_wp2_with (first|(go_at_call 40;refine(HF.out _ _ _ _ HT.out HB23.out).mono ?_;rintro e w4 ⟨ho,rfl⟩;obtain rfl:=ho.no HFI.out;clear ho)|(go_at_call 36;refine(HR.out _ _ _ _ HSC.out (by first|exact((zaB).alloc (zaA) _).alloc (by simp) _)).mono ?_;rintro e w3 ⟨⟨tb,rfl,hT⟩,hb3⟩;have HT:=hid hT;have HB23:=hid (aC (((Below.refl w2.heap.size w2).alloc (zaA) _).alloc (by simp) _) hb3);have HB3:=hid (aC ((HB2.out.alloc HB2.out.size _).alloc (by have:=HB2.out.size;simp;omega) _) hb3);obtain⟨zl,zr0,zr1,zr2,zr3,zf0,zf1,zf2,zf3⟩:=(Z2.out.below (((Below.refl w2.heap.size w2).alloc (zaA) _).alloc (by simp) _) Z2.out.lt).below hb3 (by have:=Z2.out.lt;simp;omega);clear hb3 hT)|(go_at_call 27;refine HG.out.mono ?_;rintro e w2 ⟨ho,hb2⟩;obtain⟨sb,cs,rfl,hsc,hvc⟩:=HO.out _ _ _ ho;obtain⟨q,gg,n,d,T,sa,rfl⟩:=hvc.aY;have HSC:=hid hsc;have Z2:=hid ((eE w).below hb2 (by simp));have HB2:=hid (aC ((Below.refl w.heap.size w).alloc (zaA) _) hb2);clear ho hb2 hsc hvc))
    all_goals exact zbD (v:=.tuple #[.pointer none,.agg #[.int .u8 0,.string ⟨#[]⟩,.int .i64 0,.slice none 0 0],.bool false]) (by simp[results,Tryz.results43,go_sem, *]) rfl ⟨HD.out _ _ rfl,by have B:=HB3.out;have hB:=B.size;repeat (first|with_reducible exact B|with_reducible refine zbE ?_|with_reducible refine zbF ?_ (by first|(simp;done)|(simp;omega)) _|with_reducible refine zbG ?_ (by first|exact B.size|(simp;omega)) _)⟩
   | some f =>
    have HFI:=hid hfi;have H82:=hid h82;have HF2:=hid fun(lo tb:Nat) (wz:World) (hT:TyL wz lo tb t)=>(by
     refine(yV t htl g lo tb wz wz (zaB) hT).mono (R':=fun e w'=>(∃ fb o,e=.returned (.pointer (some ⟨fb,o,none⟩))/\FdAt wz fb o 82 f/\lo<=fb)/\wz=w') fun e w' ⟨h1,h2⟩=>⟨?_,h2⟩;unfold iP at h1;rw[hfi,h82] at h1;exact h1:Calls Tryz.prog 40 #[ptr tb,.int .i64 g] wz fun e w'=>(∃ fb o,e=.returned (.pointer (some ⟨fb,o,none⟩))/\FdAt wz fb o 82 f/\lo<=fb)/\wz=w')
    have HD:=hid fun(e:Ending) (w':World) (h:∃ fb o cs,e=.returned (.tuple #[.pointer (some ⟨fb,o,none⟩),.agg cs.toArray,.bool true])/\FdAt w' fb o 82 f/\VC w' (fun b=>w.heap.size<=b) u cs)=>(show dR s.data.toList kt.data.toList v.data.toList g w.heap.size e w' by unfold dR;rw[hvo];dsimp only;rw[hrd,hfi];exact h);clear hvo hko hvi hSG hBS hNM hkv hrt hfi hrd h82;go_enter Tryz.func43,Tryz.ntmps43;go_wp2_with (first|(go_at_call 40;refine(HF.out _ _ _ _ HT.out HB23.out).mono ?_;rintro e w4 ⟨ho,rfl⟩;obtain⟨fb,o,rfl,hfd⟩:=ho.yes HFI.out;have HFD:=hid hfd;clear ho hfd)|(go_at_call 36;refine(HR.out _ _ _ _ HSC.out (by first|exact((zaB).alloc (zaA) _).alloc (by simp) _)).mono ?_;rintro e w3 ⟨⟨tb,rfl,hT⟩,hb3⟩;have HT:=hid hT;have x0:w3.cell? ⟨w2.heap.size+1,0,none⟩=some (.int .u8 q):=(hb3.cell (p:=⟨w2.heap.size+1,0,none⟩) (by simp)).trans (by simp);have x1:w3.cell? ⟨w2.heap.size+1,1,none⟩=some (.string T):=(hb3.cell (p:=⟨w2.heap.size+1,1,none⟩) (by simp)).trans (by simp);have x2:w3.cell? ⟨w2.heap.size+1,2,none⟩=some (.int .i64 gg):=(hb3.cell (p:=⟨w2.heap.size+1,2,none⟩) (by simp)).trans (by simp);have x3:w3.cell? ⟨w2.heap.size+1,3,none⟩=some (.slice sa n d):=(hb3.cell (p:=⟨w2.heap.size+1,3,none⟩) (by simp)).trans (by simp);have hl3:w2.heap.size+1<w3.heap.size:=zaC (by simp) hb3.size;have HB23:=hid (aC (((Below.refl w2.heap.size w2).alloc (zaA) _).alloc (by simp) _) hb3);have HB3:=hid (aC ((HB2.out.alloc HB2.out.size _).alloc (by have:=HB2.out.size;simp;omega) _) hb3);obtain⟨zl,zr0,zr1,zr2,zr3,zf0,zf1,zf2,zf3⟩:=(Z2.out.below (((Below.refl w2.heap.size w2).alloc (zaA) _).alloc (by simp) _) Z2.out.lt).below hb3 (by have:=Z2.out.lt;simp;omega);clear hb3 hT)|(go_at_call 27;refine HG.out.mono ?_;rintro e w2 ⟨ho,hb2⟩;obtain⟨sb,cs,rfl,hsc,hvc⟩:=HO.out _ _ _ ho;obtain⟨q,gg,n,d,T,sa,rfl⟩:=hvc.aY;have HSC:=hid hsc;have HVC:=hid hvc;have Z2:=hid ((eE w).below hb2 (by simp));have HB2:=hid (aC ((Below.refl w.heap.size w).alloc (zaA) _) hb2);clear ho hb2 hsc hvc))
    have HT3:=hid (HT.out.below HB23.out);have HTO:=hid fun(wz:World) (h:Over (w.heap.size+1) w3 wz)=>HF2.out _ tb wz (TyL.keep HT3.out h.size (fun z h1 h2=>h.block z (by simpa using h1) h2));have hnz:¬ (w2.heap.size+1=w.heap.size):=(by have:=Z2.out.lt;omega);have hnz2:¬ (w.heap.size=w2.heap.size+1):=(by have:=Z2.out.lt;omega);go_region_law (((try go_simp);go_at_call 40;refine(HTO.out _ (by repeat (first|with_reducible exact Over.refl _ _|with_reducible refine Over.drew ?_|with_reducible refine Over.setCell ?_ (by simp) _))).mono ?_;rintro e w5 ⟨⟨fb5,o5,rfl,hfd5,hlo5⟩,rfl⟩;have HFD5:=hid hfd5;have HLO5:=hid hlo5;clear hfd5 hlo5))
    all_goals (go_wp2_with fail)
    all_goals exact zbD (v:=.tuple #[.pointer (some ⟨fb5,o5,none⟩),.agg #[.int .u8 q,.string T,.int .i64 gg,.slice sa n d],.bool true]) (by simp[results,Tryz.results43,go_sem, *]) rfl (by
     have hR:∀ WF,Over (w.heap.size+1) w3 WF->FdAt WF fb5 o5 82 f->dR s.data.toList kt.data.toList v.data.toList g w.heap.size (.returned (.tuple #[.pointer (some ⟨fb5,o5,none⟩),.agg #[.int .u8 q,.string T,.int .i64 gg,.slice sa n d],.bool true])) WF:=fun WF hO hF=>HD.out _ _ ⟨fb5,o5,[.int .u8 q,.string T,.int .i64 gg,.slice sa n d],rfl,hF,VC.keep (fun b hp hlt=>⟨zaI (by simp) hp,(hO.block b (by simpa using hp) (zaC hlt HB23.out.size)).trans (HB23.out.block b hlt)⟩) (zaI HB23.out.size hO.size) _ _ HVC.out⟩;refine⟨hR _ ?_ (FdAt.over HFD5.out HLO5.out ?_),?_⟩
     ·repeat (first|with_reducible exact Over.refl _ _|with_reducible refine Over.drew ?_|with_reducible refine Over.setCell ?_ (by simp) _)
     ·(repeat (first|with_reducible exact Over.refl _ _|with_reducible refine Over.drew ?_|with_reducible refine Over.setCell ?_ (by simp) _))
      all_goals exact⟨zaA,fun _ _ _=>rfl⟩
     ·have B:=HB3.out
      repeat (first|with_reducible exact B|with_reducible refine zbE ?_|with_reducible refine zbF ?_ (by first|(simp;done)|(simp;omega)) _))



theorem vJ {x:Wf.Sc} {k:Wf.K} {s:List UInt8} (h:s.length<=400):(Wf.valIn x k s).isSome=(match Wf.parse x 12 k s with|some (_,[])=>true|_=>false):=by
 rw[Wf.valIn,if_pos h];cases Wf.parse x 12 k s with
 | none=>rfl
 | some y =>
  obtain⟨u,r⟩:=y;cases r <;> rfl
def fJ (o:Bool) (S:ByteArray):Value:=match o with
 | true=>.tuple #[.string S,.bool true]
 | false=>.tuple #[.string ⟨#[]⟩,.bool false]
theorem a2I (x:Wf.Sc) (hx:Wf.ScOk x) (lo b:Nat) (v:Value) (k:Wf.K) (hk:KOk x k) (S:ByteArray) (hS:S.size<=9000000) (W w:World) (hW:Below W.heap.size W w) (hsp:ScSp W lo b v x):Calls Tryz.prog 73 #[v,tx k.text,.string S] w fun e w'=>e=.returned (fJ (Wf.valIn x k S.data.toList).isSome S)/\Below w.heap.size w w':=by
 obtain⟨KT,hKT⟩:∃ KT:ByteArray,(⟨k.text.toArray⟩:ByteArray)=KT:=⟨_,rfl⟩;obtain⟨va,vc,rfl,_,_⟩:=hsp.slice;obtain⟨vn,hvn⟩:∃ vn,x.length=vn:=⟨_,rfl⟩;rw[hvn] at hsp;rw[hvn];rw[tx,hKT];by_cases h400:S.size<=400
 ·have HRD:=hid (by
   have h:=rR x hx (.slice va vn vc) lo b W hsp 12 (by omega) k hk S w (by omega) hW;rw[tx,hKT] at h;exact h:Calls Tryz.prog 51 #[.agg #[.slice va vn vc],.string S,.string KT,.int .i64 12] w fun e w'=>aB (Wf.parse x 12 k S.data.toList) w e w'/\Below w.heap.size w w')
  have hd:decide ((400:Int)<(S.size:Int))=false:=decide_eq_false (by omega);have hvp:=vJ (x:=x) (k:=k) (s:=S.data.toList) (by rw[aE];exact h400);cases hp:Wf.parse x 12 k S.data.toList with
  | none =>
   have HB:=hid (show fJ (Wf.valIn x k S.data.toList).isSome S=.tuple #[.string ⟨#[]⟩,.bool false] by rw[hvp,hp];rfl);clear hvp;have HO2:=hid fun(e:Ending) (w w':World) (h:aB (Wf.parse x 12 k S.data.toList) w e w')=>(by rw[hp] at h;exact h:∃ (p:Option Addr) (r:ByteArray),e=.returned (.tuple #[.pointer p,.string r,.bool false]));clear hp;go_enter Tryz.func73,Tryz.ntmps73;go_wp2_with (go_at_call 51;refine HRD.out.mono ?_;rintro e w3 ⟨ho,hb3⟩;obtain⟨p,r,rfl⟩:=HO2.out _ _ _ ho;have HB3:=hid hb3;clear ho hb3)
   exact zbD (v:=.tuple #[.string ⟨#[]⟩,.bool false]) (by simp[results,Tryz.results73,go_sem, *]) rfl ⟨by rw[HB.out],HB3.out⟩
  | some y =>
   obtain⟨u,rr⟩:=y;obtain⟨RR,hRR⟩:∃ RR:ByteArray,(⟨rr.toArray⟩:ByteArray)=RR:=⟨_,rfl⟩;have HO2:=hid fun(e:Ending) (w w':World) (h:aB (Wf.parse x 12 k S.data.toList) w e w')=>(by unfold aB at h;rw[hp] at h;dsimp only at h;rw[tx,hRR] at h;exact h:∃ b,e=.returned (.tuple #[ptr b,.string RR,.bool true])/\LV w' (fun z=>w.heap.size<=z) u b);cases rr with
   | nil =>
    have HB:=hid (show fJ (Wf.valIn x k S.data.toList).isSome S=.tuple #[.string S,.bool true] by rw[hvp,hp];rfl);clear hvp;have hre:RR.toList.isEmpty=true:=(by rw[<-hRR,zaZ];rfl);have hre2:RR.toList=[]:=List.isEmpty_iff.1 hre;clear hp hRR;go_enter Tryz.func73,Tryz.ntmps73;go_wp2_with (go_at_call 51;refine HRD.out.mono ?_;rintro e w3 ⟨ho,hb3⟩;obtain⟨pb,rfl,hlv⟩:=HO2.out _ _ _ ho;have HB3:=hid hb3;clear ho hb3 hlv)
    exact zbD (v:=.tuple #[.string S,.bool true]) (by simp[results,Tryz.results73,go_sem, *]) rfl ⟨by rw[HB.out],HB3.out⟩
   | cons c0 q0 =>
    have HB:=hid (show fJ (Wf.valIn x k S.data.toList).isSome S=.tuple #[.string ⟨#[]⟩,.bool false] by rw[hvp,hp];rfl);clear hvp;have hre:RR.toList.isEmpty=false:=(by rw[<-hRR,zaZ];rfl);have hre2:RR.toList≠[]:=(by rw[<-hRR,zaZ];exact List.cons_ne_nil _ _);clear hp hRR;go_enter Tryz.func73,Tryz.ntmps73;go_wp2_with (go_at_call 51;refine HRD.out.mono ?_;rintro e w3 ⟨ho,hb3⟩;obtain⟨pb,rfl,hlv⟩:=HO2.out _ _ _ ho;have HB3:=hid hb3;clear ho hb3 hlv)
    exact zbD (v:=.tuple #[.string ⟨#[]⟩,.bool false]) (by simp[results,Tryz.results73,go_sem, *]) rfl ⟨by rw[HB.out],HB3.out⟩
 ·have hd:decide ((400:Int)<(S.size:Int))=true:=decide_eq_true (by omega)
  have HB:=hid (show fJ (Wf.valIn x k S.data.toList).isSome S=.tuple #[.string ⟨#[]⟩,.bool false] by rw[Wf.jW (by rw[aE];exact h400)];rfl);go_enter Tryz.func73,Tryz.ntmps73;go_wp2_with fail
  exact zbD (v:=.tuple #[.string ⟨#[]⟩,.bool false]) (by simp[results,Tryz.results73,go_sem, *]) rfl ⟨by rw[HB.out],zaB⟩
theorem fits (u:Wf.V) (q n c:Nat) (g:Int) (T:ByteArray) (a:Option Addr) (P:Nat->Prop) (W w:World) (hv:VC W P u [.int .u8 q,.string T,.int .i64 g,.slice a n c]) (hW:Below W.heap.size W w) (hl:u.print.length<=1000000) (hd:u.deep<=1000000):Calls Tryz.prog 58 #[.agg #[.int .u8 q,.string T,.int .i64 g,.slice a n c]] w fun e w'=>e=.returned (.bool (decide (u.print.length<=400)&&decide (u.deep<=12)))/\Below w.heap.size w w':=by
 obtain⟨O,hO⟩:∃ O:ByteArray,(⟨u.print.toArray⟩:ByteArray)=O:=⟨_,rfl⟩;obtain⟨D,hD⟩:∃ D,u.deep=D:=⟨_,rfl⟩;have hos:u.print.length=O.size:=by rw[<-hO];rfl
 have HPR:=hid fun(wz:World) (hz:Below W.heap.size W wz)=>(by
  have h:=print u P _ W wz hv hz hl;rw[tx,hO] at h;exact h:Calls Tryz.prog 33 #[.agg #[.int .u8 q,.string T,.int .i64 g,.slice a n c]] wz fun e w'=>e=.returned (.string O)/\Below wz.heap.size wz w')
 have HDP:=hid fun(wz:World) (hz:Below W.heap.size W wz)=>(by
  have h:=deep u P _ W wz hv hz (by omega);rw[hD] at h;exact h:Calls Tryz.prog 75 #[.agg #[.int .u8 q,.string T,.int .i64 g,.slice a n c]] wz fun e w'=>e=.returned (.int .i64 D)/\Below wz.heap.size wz w')
 have HW:=hid hW;rw[hos];obtain⟨B1,hB1⟩:∃ B1,decide (O.size<=400)=B1:=⟨_,rfl⟩;obtain⟨B2,hB2⟩:∃ B2,decide (D<=12)=B2:=⟨_,rfl⟩;have d1:decide ((O.size:Int)<=400)=B1:=by rw[<-hB1];congr 1;exact propext ⟨fun h=>by omega,fun h=>by omega⟩
 have d2:decide ((D:Int)<=12)=B2:=by rw[<-hB2];congr 1;exact propext ⟨fun h=>by omega,fun h=>by omega⟩
 rw[hD,hB1,hB2];have B3:=hid ((Below.refl w.heap.size w).alloc (zaA) (.cells #[.int .u8 q,.string T,.int .i64 g,.slice a n c] 51));obtain⟨k0,k1,k2,k3⟩:=tF w q n c g T a;have hlt:w.heap.size<(w.alloc (.cells #[.int .u8 q,.string T,.int .i64 g,.slice a n c] 51)).heap.size:=by simp
 clear hO hD hos hv hl hd hW hB1 hB2;cases B1 <;> cases B2;all_goals
  go_enter Tryz.func58,Tryz.ntmps58;go_wp2_with (first|(go_at_call 75;have _u:=HB5;refine(HDP.out _ (HW.out.trans ((B3.out.trans (HB5.out.mono B3.out.size)).mono HW.out.size))).mono ?_;rintro e w6 ⟨rfl,hb6⟩;have HB6:=hid hb6;clear hb6)|(go_at_call 33;refine(HPR.out _ (HW.out.alloc HW.out.size _)).mono ?_;rintro e w5 ⟨rfl,hb5⟩;have HB5:=hid hb5;have q0:=(hb5.cell (p:=⟨w.heap.size,0,none⟩) hlt).trans k0;have q1:=(hb5.cell (p:=⟨w.heap.size,1,none⟩) hlt).trans k1;have q2:=(hb5.cell (p:=⟨w.heap.size,2,none⟩) hlt).trans k2;have q3:=(hb5.cell (p:=⟨w.heap.size,3,none⟩) hlt).trans k3;clear hb5))
  go_ret
  first|exact⟨rfl,aC (B3.out.trans (HB5.out.mono B3.out.size)) HB6.out⟩|exact⟨rfl,B3.out.trans (HB5.out.mono B3.out.size)⟩
