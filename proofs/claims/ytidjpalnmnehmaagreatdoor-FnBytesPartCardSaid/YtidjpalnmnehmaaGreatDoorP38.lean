/- Packed. -/
import Derived.Test.YtidjpalnmnehmaaGreatDoorP37
set_option maxRecDepth 99999
set_option maxHeartbeats 40000000
set_option linter.all false
namespace Go.Proofs.YtidjpalnmnehmaaGreatDoor
open Go.ChangeShapes Go.WideShapes Go.ChangeAt Go.RowKit Go.Lib
theorem yO {S:ByteArray} {c:UInt8} {q:List UInt8} (h:S.data.toList=c::q):S.toList.isEmpty=false/\S.toList≠[]/\0<S.size/\1<=S.size/\(∀ h,(S[0]'h).toNat=c.toNat)/\(S.extract 1 S.size).data.toList=q:=by
 rcases gF S with⟨h1,_⟩|⟨c',q',h1,h2,h3,h4,h5,h6⟩
 ·rw[h] at h1;cases h1
 ·rw[h] at h1
  cases h1;exact⟨h2,h3,h4,h4,h5,by rw[h6]⟩
section
variable (x:Wf.Sc) (v:Value) (W:World) (n:Nat) (S KT:ByteArray) (D:Int) (w:World) (o:Option (Wf.V × List UInt8))
theorem pR (h:S.toList.isEmpty=true\/(S.toList.isEmpty=false/\decide (D<1)=true)) (ho:o=none):Calls Tryz.prog 51 #[.agg #[v],.string S,.string KT,.int .i64 D] w fun e w'=>aE o w e w'/\Below w.heap.size w w':=by
 have HO:=hid ho;clear ho;rcases h with h|⟨h,h2⟩;all_goals
  go_enter Tryz.func51,Tryz.ntmps51;go_wp2_with fail
  all_goals exact bodyPost_ret (v:=.tuple #[.pointer none,.string S,.bool false]) (by simp[results,Tryz.results51,go_sem, *]) rfl ⟨aE.no HO.out ⟨_,_,rfl⟩,(Below.refl _ _).alloc (Nat.le_refl _) _⟩
theorem lV (hS:S.toList.isEmpty=false) (hD:decide (D<1)=false) (q:Nat) (hk0:0<KT.size) (ek:∀ h,(KT[0]'h).toNat=q) (hq:q=110\/q=116\/q=102)
  (hp:∀ wz,Calls Tryz.prog 88 #[.agg #[v],.string S,.string KT] wz fun e w'=>aE o wz e w'/\Below wz.heap.size wz w') :
  Calls Tryz.prog 51 #[.agg #[v],.string S,.string KT,.int .i64 D] w fun e w'=>aE o w e w'/\Below w.heap.size w w':=by
 have HP:=hid hp;clear hp;rcases hq with rfl|rfl|rfl;all_goals
  go_enter Tryz.func51,Tryz.ntmps51;go_wp2_with (go_at_call 88;refine(HP.out _).mono ?_;rintro e w7 ⟨ho,hb7⟩;obtain⟨p,r,b,rfl,hlr⟩:=ho.form;have HLR:=hid hlr;have HB7:=hid (aC ((Below.refl w.heap.size w).alloc (Nat.le_refl _) _) hb7);clear ho hb7 hlr)
  all_goals exact bodyPost_ret (v:=.tuple #[.pointer p,.string r,.bool b]) (by simp[results,Tryz.results51,go_sem, *]) rfl ⟨HLR.out.mono (by simp),HB7.out⟩
theorem xM (hS:S.toList.isEmpty=false) (hD:decide (D<1)=false) (hk0:0<KT.size) (ek:∀ h,(KT[0]'h).toNat=64)
  (hp:∀ wz,Below w.heap.size w wz->Calls Tryz.prog 87 #[.agg #[v],.string S,.string KT,.int .i64 D] wz fun e w'=>aE o wz e w'/\Below wz.heap.size wz w') :
  Calls Tryz.prog 51 #[.agg #[v],.string S,.string KT,.int .i64 D] w fun e w'=>aE o w e w'/\Below w.heap.size w w':=by
 have HP:=hid hp;clear hp;go_enter Tryz.func51,Tryz.ntmps51;go_wp2_with (go_at_call 87;refine(HP.out _ ((Below.refl _ _).alloc (Nat.le_refl _) _)).mono ?_;rintro e w7 ⟨ho,hb7⟩;obtain⟨p,r,b,rfl,hlr⟩:=ho.form;have HLR:=hid hlr;have HB7:=hid (aC ((Below.refl w.heap.size w).alloc (Nat.le_refl _) _) hb7);clear ho hb7 hlr)
 all_goals exact bodyPost_ret (v:=.tuple #[.pointer p,.string r,.bool b]) (by simp[results,Tryz.results51,go_sem, *]) rfl ⟨HLR.out.mono (by simp),HB7.out⟩
theorem zC (hS:S.toList.isEmpty=false) (h0:0<S.size) (hD:decide (D<1)=false) (hk0:0<KT.size) (ek:∀ h,(KT[0]'h).toNat=91) (b0:Nat) (e1:∀ h,(S[0]'h).toNat=b0) (m1:((b0:Int) != 91)=true) (ho:o=none) :
  Calls Tryz.prog 51 #[.agg #[v],.string S,.string KT,.int .i64 D] w fun e w'=>aE o w e w'/\Below w.heap.size w w':=by
 have HO:=hid ho;clear ho;go_enter Tryz.func51,Tryz.ntmps51;go_wp2_with fail
 all_goals exact bodyPost_ret (v:=.tuple #[.pointer none,.string S,.bool false]) (by simp[results,Tryz.results51,go_sem, *]) rfl ⟨aE.no HO.out ⟨_,_,rfl⟩,(Below.refl _ _).alloc (Nat.le_refl _) _⟩
theorem a2Z (R:ByteArray) (hS:S.toList.isEmpty=false) (h0:0<S.size) (h1:1<=S.size) (hR:S.extract 1 S.size=R) (hD:decide (D<1)=false) (hk0:0<KT.size) (ek:∀ h,(KT[0]'h).toNat=91) (e1:∀ h,(S[0]'h).toNat=91)
  (hp:∀ wz,Below w.heap.size w wz->Calls Tryz.prog 86 #[.agg #[v],.string R,.string KT,.int .i64 D] wz fun e w'=>aE o wz e w'/\Below wz.heap.size wz w') :
  Calls Tryz.prog 51 #[.agg #[v],.string S,.string KT,.int .i64 D] w fun e w'=>aE o w e w'/\Below w.heap.size w w':=by
 have HP:=hid hp;have kx:∀ wz,(Instr.slice 9 (.string S) (some (.int .i64 1)) none none).run Tryz.prog wz=.ok (.string R) wz:=fun wz=>by
  have h:=bK S 1 h1 wz;rw[hR] at h;exact h
 clear hp hR;have c0:(w.alloc (.cells #[v] 99)).cell? ⟨w.heap.size,0,none⟩=some v:=by simp[go_sem]
 have B3:=hid ((Below.refl w.heap.size w).alloc (Nat.le_refl _) (.cells #[v] 99));have hl3:w.heap.size<(w.alloc (.cells #[v] 99)).heap.size:=by simp
 go_enter Tryz.func51,Tryz.ntmps51;go_wp2_with fail
 obtain⟨W3,hW3⟩:∃ W3,w.alloc (.cells #[v] 99)=W3:=⟨_,rfl⟩;rw[hW3] at c0 B3 hl3;rw[hW3];clear hW3;go_region_held3 (fun w'=>w'.cell? ⟨w.heap.size,0,none⟩=some v) (first|exact j0|go_keep) ((go_at_call 86;refine(HP.out W3.drew B3.out.drew).mono ?_;rintro e w7 ⟨ho,hb7⟩;obtain⟨p,r,b,rfl,hlr⟩:=ho.form;have HLR:=hid hlr;have HB7:=hid (Below.drew (Below.refl W3.heap.size W3) |>.trans hb7);have j0:=(HB7.out.cell (p:=⟨w.heap.size,0,none⟩) hl3).trans c0;clear ho hb7 hlr))
 all_goals (go_wp2_with fail)
 all_goals exact bodyPost_ret (v:=.tuple #[.pointer p,.string r,.bool b]) (by simp[results,Tryz.results51,go_sem, *]) rfl ⟨HLR.out.mono B3.out.size,B3.out.trans (HB7.out.mono B3.out.size)⟩
theorem wO (hS:S.toList.isEmpty=false) (h0:0<S.size) (hD:decide (D<1)=false) (hk0:0<KT.size) (ek:∀ h,(KT[0]'h).toNat=63) (b0:Nat) (e1:∀ h,(S[0]'h).toNat=b0) (m0:((b0:Int)==45)=false) (m1:((b0:Int) != 43)=true) (ho:o=none) :
  Calls Tryz.prog 51 #[.agg #[v],.string S,.string KT,.int .i64 D] w fun e w'=>aE o w e w'/\Below w.heap.size w w':=by
 have HO:=hid ho;clear ho;go_enter Tryz.func51,Tryz.ntmps51;go_wp2_with fail
 all_goals exact bodyPost_ret (v:=.tuple #[.pointer none,.string S,.bool false]) (by simp[results,Tryz.results51,go_sem, *]) rfl ⟨aE.no HO.out ⟨_,_,rfl⟩,(Below.refl _ _).alloc (Nat.le_refl _) _⟩
theorem a4G (R:ByteArray) (hS:S.toList.isEmpty=false) (h0:0<S.size) (h1:1<=S.size) (hR:S.extract 1 S.size=R) (hD:decide (D<1)=false) (hk0:0<KT.size) (ek:∀ h,(KT[0]'h).toNat=63) (hk:KT.data.toList.head? = some 63) (e1:∀ h,(S[0]'h).toNat=45) (ho:o=some (.mk 63 [] 0 [],R.data.toList)) :
  Calls Tryz.prog 51 #[.agg #[v],.string S,.string KT,.int .i64 D] w fun e w'=>aE o w e w'/\Below w.heap.size w w':=by
 have HO:=hid ho;have HKH:=hid hk;have kx:∀ wz,(Instr.slice 9 (.string S) (some (.int .i64 1)) none none).run Tryz.prog wz=.ok (.string R) wz:=fun wz=>by
  have h:=bK S 1 h1 wz;rw[hR] at h;exact h
 clear ho hR hk;go_enter Tryz.func51,Tryz.ntmps51;go_wp2_with fail
 go_region
 all_goals (go_wp2_with fail)
 all_goals exact bodyPost_ret (v:=.tuple #[ptr (w.heap.size+1),.string R,.bool true]) (by simp[results,Tryz.results51,go_sem, *]) rfl (by
  have hR:∀ W3:World,W3.heap.size=w.heap.size+1->Below w.heap.size w W3->(aE o w (.returned (.tuple #[ptr (w.heap.size+1),.string R,.bool true])) (W3.alloc (.cells #[.string KT,.string ⟨#[]⟩,.slice none 0 0,.slice none 0 0] 103))/\Below w.heap.size w (W3.alloc (.cells #[.string KT,.string ⟨#[]⟩,.slice none 0 0,.slice none 0 0] 103))):=fun W3 h1 h2=>by
   refine⟨aE.yes HO.out ⟨w.heap.size+1,rfl,?_⟩,h2.alloc h2.size _⟩;rw[<-h1];exact LV.new (kd:=KT.data.toList) (t:=[]) (by decide) ⟨HKH.out,rfl⟩ rfl h2.size (by simp) (by first|(simp[go_sem];done)|(simp[go_sem];rfl)) (by first|(simp[go_sem];done)|(simp[go_sem];rfl)) (by simp[go_sem]) (by simp[go_sem])
  have hb:=(Below.refl w.heap.size w).alloc (Nat.le_refl _) (.cells #[v] 99);first|exact hR _ (by simp) hb|exact hR _ (by simp) hb.drew)
theorem a0Q (k:Wf.K) (R K1:ByteArray) (hS:S.toList.isEmpty=false) (h0:0<S.size) (h1:1<=S.size) (hR:S.extract 1 S.size=R) (hD:decide (D<1)=false) (hk0:0<KT.size) (hk1:1<=KT.size) (hK1:KT.extract 1 KT.size=K1) (ek:∀ h,(KT[0]'h).toNat=63) (hk:KT.data.toList.head? = some 63) (e1:∀ h,(S[0]'h).toNat=43) (kd:IntKind.i64.wrap (D-1)=(n:Int)) (o1:Option (Wf.V × List UInt8)) (ho:o=o1.map fun y=>(.mk 63 [] 0 [y.1],y.2))
  (hp:∀ wz,Below w.heap.size w wz->Calls Tryz.prog 51 #[.agg #[v],.string R,.string K1,.int .i64 n] wz fun e w'=>aE o1 wz e w'/\Below wz.heap.size wz w') :
  Calls Tryz.prog 51 #[.agg #[v],.string S,.string KT,.int .i64 D] w fun e w'=>aE o w e w'/\Below w.heap.size w w':=by
 have HP:=hid hp;have HKH:=hid hk;have HO:=hid ho;have kx:∀ wz,(Instr.slice 9 (.string S) (some (.int .i64 1)) none none).run Tryz.prog wz=.ok (.string R) wz:=fun wz=>by
  have h:=bK S 1 h1 wz;rw[hR] at h;exact h
 have ky:∀ wz,(Instr.slice 9 (.string KT) (some (.int .i64 1)) none none).run Tryz.prog wz=.ok (.string K1) wz:=fun wz=>by
  have h:=bK KT 1 hk1 wz;rw[hK1] at h;exact h
 clear hp hR hK1 hk ho;have c0:(w.alloc (.cells #[v] 99)).cell? ⟨w.heap.size,0,none⟩=some v:=by simp[go_sem]
 have B3:=hid ((Below.refl w.heap.size w).alloc (Nat.le_refl _) (.cells #[v] 99));have hl3:w.heap.size<(w.alloc (.cells #[v] 99)).heap.size:=by simp
 go_enter Tryz.func51,Tryz.ntmps51;go_wp2_with fail
 obtain⟨W3,hW3⟩:∃ W3,w.alloc (.cells #[v] 99)=W3:=⟨_,rfl⟩;rw[hW3] at c0 B3 hl3;rw[hW3];clear hW3;go_region_held3 (fun w'=>w'.cell? ⟨w.heap.size,0,none⟩=some v) (first|exact j0|go_keep) ((go_at_call 51;refine(HP.out W3.drew B3.out.drew).mono ?_;rintro e w7 ⟨ho,hb7⟩;obtain⟨p,r,b,rfl,hlr⟩:=ho.form;have HLR:=hid hlr;have HB7:=hid (Below.drew (Below.refl W3.heap.size W3) |>.trans hb7);have j0:=(HB7.out.cell (p:=⟨w.heap.size,0,none⟩) hl3).trans c0;clear ho hb7 hlr))
 all_goals (go_wp2_with fail)
 all_goals exact bodyPost_ret (v:=.tuple #[ptr (w7.heap.size+1),.string r,.bool b]) (by simp[results,Tryz.results51,go_sem, *]) rfl (by
  have hle:=Nat.le_trans B3.out.size HB7.out.size;have h7:=B3.out.trans (HB7.out.mono B3.out.size);refine⟨?_,(h7.alloc hle _).alloc (by simp;omega) _⟩;have hl:=HLR.out;cases ho1:o1 with
  | none =>
   rw[ho1] at hl;obtain⟨p',r',he⟩:=hl;obtain⟨_,_,e2⟩:=three he;injection e2 with e2;subst e2;exact aE.no (by rw[HO.out,ho1];rfl) ⟨_,_,rfl⟩
  | some y =>
   rw[ho1] at hl;obtain⟨b',he,hlv⟩:=hl;obtain⟨e0,e1,e2⟩:=three he;injection e0 with e0;injection e1 with e1;injection e2 with e2;subst e0 e1 e2;refine aE.yes (v:=.mk 63 [] 0 [y.1]) (r:=y.2) (by rw[HO.out,ho1];rfl) ⟨w7.heap.size+1,rfl,LV.opt1 (kb:=w7.heap.size) (u:=b') (KT:=KT) (by omega) hle (by first|(simp;done)|(simp;omega)) (by first|(simp;done)|(simp;omega)) HKH.out ?_ ?_ ?_ ?_ ?_ ?_ (LV.mono (LV.below (LV.below hlv ((Below.refl _ _).alloc (Nat.le_refl _) _)) ((Below.refl _ _).alloc (Nat.le_refl _) _)) fun z hz _=>by have:=B3.out.size;have:W3.drew.heap.size=W3.heap.size:=rfl;omega)⟩;all_goals (simp[go_sem];done))
end

theorem mD {x:Wf.Sc} {v:Value} {W:World} (hx:Wf.ScOk x) (lo bsc:Nat) (hsp:ScSp W lo bsc v x) {nm:List UInt8} {t:Wf.Ty} (hf:x.find nm=some t) (hnm:(Wf.K.ref nm).text.length<=1000000) (q:Nat) (hq:t.sort.toNat=q) (wz:World) (hz:Below W.heap.size W wz):Calls Tryz.prog 122 #[v,tx (Wf.K.ref nm).text] wz fun e w'=>(∃ fb fa fc,e=.returned (.tuple #[.agg #[.int .u8 q,.string ⟨t.name.toArray⟩,.slice fa t.fields.length fc],.bool true])/\RowK W fb (.slice fa t.fields.length fc) 4 (t.fields.map (fdS t.sort)))/\Below wz.heap.size wz w':=by
 rw[<-hq];exact zR x v W t nm hx lo bsc hsp hf hnm wz hz
theorem a0L (x:Wf.Sc) (hx:Wf.ScOk x) (v:Value) (lo bsc:Nat) (W:World) (hsp:ScSp W lo bsc v x):∀ (n:Nat),n<=1000->∀ (k:Wf.K),KOk x k->LR x v W n k:=by
 intro n;induction n with
 | zero =>
  intro _ k hk S w hS hW;refine pR v S ⟨k.text.toArray⟩ (0:Nat) w _ ?_ (Wf.a4M x k _);by_cases h:S.toList.isEmpty=true
  ·exact .inl h
  ·exact .inr ⟨by simpa using h,by decide⟩
 | succ n ih =>
  intro hn k hk S w hS hW;have hD:decide (((n+1:Nat):Int)<1)=false:=decide_eq_false (by omega);have hDe:((n+1:Nat):Int)=(n:Int)+1:=by omega
  have kd:IntKind.i64.wrap (((n+1:Nat):Int)-1)=(n:Int):=by rw[hDe,Int.add_sub_cancel];exact IntWalk.i64_in _ (by omega)
  cases hl:S.data.toList with
  | nil =>
   refine pR v S ⟨k.text.toArray⟩ _ w _ (.inl ?_) (Wf.nH x (n+1) k);rw[ByteArray.toList_eq,hl];rfl
  | cons c q =>
   obtain⟨e1,e2,e3,e4,e5,e6⟩:=yO hl;have hRs:(S.extract 1 S.size).size<=1048576:=(by rw[ByteArray.size_extract];omega);rw[<-hl];cases k with
   | num=>exact lV v S ⟨(Wf.K.text .num).toArray⟩ _ w _ e1 hD 110 (by decide) (fun _=>rfl) (.inl rfl) (fun wz=>a1L x n v S hS wz)
   | txt=>exact lV v S ⟨(Wf.K.text .txt).toArray⟩ _ w _ e1 hD 116 (by decide) (fun _=>rfl) (.inr (.inl rfl)) (fun wz=>a2E x n v S hS wz)
   | flag=>exact lV v S ⟨(Wf.K.text .flag).toArray⟩ _ w _ e1 hD 102 (by decide) (fun _=>rfl) (.inr (.inr rfl)) (fun wz=>a3Y x n v S hS wz)
   | list k =>
    obtain⟨hk0,ek⟩:=bE (kd:=(Wf.K.list k).text) (c:=91) rfl;by_cases hc:c=91
    ·subst hc
     rw[hl];have h:=fun wz (hz:Below w.heap.size w wz)=>a2W x v W n k (S.extract 1 S.size) ((n+1:Nat):Int) wz hRs hDe (by omega) (ih (by omega) k hk.list) (hW.trans (hz.mono hW.size));rw[e6] at h;exact a2Z v S _ _ w _ _ e1 e3 e4 rfl hD hk0 ek e5 h
    ·refine zC v S _ _ w _ e1 e3 hD hk0 ek c.toNat e5 ?_ (Wf.rH x n k (by rw[hl];simpa using hc))
     rw[bne_iff_ne];intro h;exact hc (UInt8.toNat_inj.1 (by show c.toNat=91;omega))
   | opt k =>
    obtain⟨hk0,ek⟩:=bE (kd:=(Wf.K.opt k).text) (c:=63) rfl;have hK1:(⟨(Wf.K.opt k).text.toArray⟩:ByteArray).extract 1 (⟨(Wf.K.opt k).text.toArray⟩:ByteArray).size=⟨k.text.toArray⟩:=(by rw[aR,cN];rfl);by_cases h45:c=45
    ·subst h45
     exact a4G v S _ _ w _ _ e1 e3 e4 rfl hD hk0 ek rfl e5 (by rw[e6,hl];exact Wf.qI x n k q)
    ·by_cases h43:c=43
     ·subst h43
      refine a0Q v n S _ _ w _ k _ _ e1 e3 e4 rfl hD hk0 (by simp[ByteArray.size,Wf.K.text]) hK1 ek rfl e5 kd (Wf.parse x n k (S.extract 1 S.size).data.toList) (by rw[hl,e6];exact Wf.qN x n k q) (fun wz hz=>ih (by omega) k hk.opt _ wz hRs (hW.trans (hz.mono hW.size)))
     ·refine wO v S _ _ w _ e1 e3 hD hk0 ek c.toNat e5 ?_ ?_ (Wf.tN x n k (by rw[hl];simpa using h45) (by rw[hl];simpa using h43))
      ·rw[beq_eq_false_iff_ne]
       intro h;exact h45 (UInt8.toNat_inj.1 (by show c.toNat=45;omega))
      ·rw[bne_iff_ne]
       intro h;exact h43 (UInt8.toNat_inj.1 (by show c.toNat=43;omega))
   | ref nm =>
    obtain⟨hk0,ek⟩:=bE (kd:=(Wf.K.ref nm).text) (c:=64) rfl;obtain⟨t,hf⟩:=Wf.kX hk.ref;have htx:=(Wf.bI hf).1;have hto:=hx.tys t htx;have hnm:(Wf.K.ref nm).text.length<=1000000:=(by have:=hk.len;omega);have htl:t.fields.length<=1000:=(by have:=hto.len;omega);have hR:=fun(h69:t.sort≠69) f hfm=>ih (by omega) f.kind (KOk.fld hx htx h69 (f:=f) hfm);refine xM v S _ _ w _ e1 hD hk0 ek fun wz hz=>?_;have hWz:=hW.trans (hz.mono hW.size);rcases hto.sort with hs|hs|hs
    ·have hr:=fun wy (hy:Below wz.heap.size wz wy)=>mD hx lo bsc hsp hf hnm 82 (by rw[hs];rfl) wy (hWz.trans (hy.mono hWz.size))
     by_cases hc:c=123
     ·subst hc
      rw[hl];have h:=fun fb fa fc wy (hrow:RowK W fb (.slice fa t.fields.length fc) 4 (t.fields.map (fdS t.sort))) (hy:Below wz.heap.size wz wy)=>zT x v W n t nm (S.extract 1 S.size) ((n+1:Nat):Int) wy hx lo bsc hsp htx hf fb fc fa hrow hs hRs hDe (by omega) (hR (by rw[hs];decide)) (hWz.trans (hy.mono hWz.size));rw[e6] at h;exact a1S v W t S _ wz _ _ _ _ e4 e5 rfl _ hr h
     ·refine lY v S _ wz 82 c.toNat _ _ t.fields.length e3 e5 (.inl ⟨rfl,?_⟩) (fun wy hy=>(hr wy hy).mono fun e w' ⟨⟨fb,fa,fc,h1,_⟩,h2⟩=>⟨⟨fa,fc,h1⟩,h2⟩) _ (Wf.rV x n hf hs (by rw[hl];simpa using hc))
      rw[beq_eq_false_iff_ne];intro h;exact hc (UInt8.toNat_inj.1 (by show c.toNat=123;omega))
    ·have hr:=fun wy (hy:Below wz.heap.size wz wy)=>mD hx lo bsc hsp hf hnm 85 (by rw[hs];rfl) wy (hWz.trans (hy.mono hWz.size))
     by_cases hc:c=60
     ·subst hc
      rw[hl];have h:=zD x v W n t nm S ((n+1:Nat):Int) wz ⟨(Wf.K.ref nm).text.toArray⟩ ⟨t.name.toArray⟩ (S.extract 1 S.size) t.fields.length hx htx hf e4 hRs rfl e5 rfl hs hDe (by omega) hWz (hR (by rw[hs];decide)) hr (fun fb fa fc wy hrow hy=>by
       have h:=lG t htl v (S.extract 1 S.size) hRs fb fc fa W wy (hWz.trans (hy.mono hWz.size)) hrow;rw[hs] at h;exact h)
      rw[e6] at h;exact h
     ·refine lY v S _ wz 85 c.toNat _ _ t.fields.length e3 e5 (.inr (.inr ⟨rfl,?_⟩)) (fun wy hy=>(hr wy hy).mono fun e w' ⟨⟨fb,fa,fc,h1,_⟩,h2⟩=>⟨⟨fa,fc,h1⟩,h2⟩) _ (Wf.pC x n hf hs (by rw[hl];simpa using hc))
      rw[beq_eq_false_iff_ne];intro h;exact hc (UInt8.toNat_inj.1 (by show c.toNat=60;omega))
    ·have hr:=fun wy (hy:Below wz.heap.size wz wy)=>mD hx lo bsc hsp hf hnm 69 (by rw[hs];rfl) wy (hWz.trans (hy.mono hWz.size))
     by_cases hc:c=35
     ·subst hc
      rw[hl,wZ x n hf hs q];have h:=vW v W t S ((n+1:Nat):Int) wz ⟨(Wf.K.ref nm).text.toArray⟩ ⟨t.name.toArray⟩ (S.extract 1 S.size) t.fields.length e4 rfl e5 rfl hs hr (fun fb fa fc wy hrow hy=>by
       have h:=lG t htl v (S.extract 1 S.size) hRs fb fc fa W wy (hWz.trans (hy.mono hWz.size)) hrow;rw[hs] at h;exact h)
      rw[e6] at h;exact h
     ·refine lY v S _ wz 69 c.toNat _ _ t.fields.length e3 e5 (.inr (.inl ⟨rfl,?_⟩)) (fun wy hy=>(hr wy hy).mono fun e w' ⟨⟨fb,fa,fc,h1,_⟩,h2⟩=>⟨⟨fa,fc,h1⟩,h2⟩) _ (Wf.sE x n hf hs (by rw[hl];simpa using hc))
      rw[beq_eq_false_iff_ne];intro h;exact hc (UInt8.toNat_inj.1 (by show c.toNat=35;omega))
def cE (l kt s:List UInt8) (lo:Nat) (e:Ending) (w':World):Prop:=match valOf l kt s with
 | some y=>∃ b a c p,e=.returned (.tuple #[.slice a y.1.1.length c,ptr p,.bool true])/\ScSp w' lo b (.slice a y.1.1.length c) y.1.1/\LV w' (fun z=>lo<=z) y.2 p
 | none=>∃ a n c p,e=.returned (.tuple #[.slice a n c,.pointer p,.bool false])
theorem cE.no {l kt s:List UInt8} {lo:Nat} {e:Ending} {w':World} (h:valOf l kt s=none) (he:∃ a n c p,e=.returned (.tuple #[.slice a n c,.pointer p,.bool false])):cE l kt s lo e w':=by
 unfold cE;rw[h];exact he
theorem cE.yes {l kt s:List UInt8} {lo:Nat} {e:Ending} {w':World} {y:(Wf.Sc × Wf.K) × Wf.V} (h:valOf l kt s=some y) (he:∃ b a c p,e=.returned (.tuple #[.slice a y.1.1.length c,ptr p,.bool true])/\ScSp w' lo b (.slice a y.1.1.length c) y.1.1/\LV w' (fun z=>lo<=z) y.2 p):cE l kt s lo e w':=by
 unfold cE;rw[h];exact he
theorem l4Of (s kt v:ByteArray) (w:World) (hs:s.size<=1048576) (hv:v.size<=1048576):Calls Tryz.prog 29 #[.string s,.string kt,.string v] w fun e w'=>cE s.data.toList kt.data.toList v.data.toList w.heap.size e w'/\Below w.heap.size w w':=by
 have HLK:=hid (mH s kt w hs);cases hty:aX s.data.toList kt.data.toList with
 | none =>
  have HO:=hid fun lo e wz (h:cI s.data.toList kt.data.toList lo e wz)=>(by unfold cI at h;rw[hty] at h;exact h:∃ a n c,e=.returned (.tuple #[.slice a n c,.bool false]));have HF:=hid (show valOf s.data.toList kt.data.toList v.data.toList=none by unfold valOf;rw[hty]);clear hty;go_enter Tryz.func29,Tryz.ntmps29;go_wp2_with (go_at_call 50;refine HLK.out.mono ?_;rintro e w2 ⟨ho,hb2⟩;obtain⟨a,n,c,rfl⟩:=HO.out _ _ _ ho;have HB2:=hid hb2;clear ho hb2)
  all_goals exact bodyPost_ret (v:=.tuple #[.slice none 0 0,.pointer none,.bool false]) (by simp[results,Tryz.results29,go_sem, *]) rfl ⟨cE.no HF.out ⟨_,_,_,_,rfl⟩,HB2.out⟩
 | some y =>
  obtain⟨x,k⟩:=y;obtain⟨hsc,hpk,hhas,hkt,hkl⟩:=iA hty;have hx:=Wf.jP hsc;have hk:KOk x k:=⟨by rw[hkt];exact hkl,hhas⟩;have HO:=hid fun lo e wz (h:cI s.data.toList kt.data.toList lo e wz)=>(by unfold cI at h;rw[hty] at h;exact h:∃ b a c,e=.returned (.tuple #[.slice a x.length c,.bool true])/\ScSp wz lo b (.slice a x.length c) x);obtain⟨xn,hxn⟩:∃ xn,x.length=xn:=⟨_,rfl⟩;rw[hxn] at HO;have hkk:tx k.text=.string kt:=by rw[tx,show k.text=kt.data.toList from hkt]
  by_cases h400:v.size<=400
  ·have HRD:=hid fun(wz:World) (vv:Value) (lo b:Nat) (hsp:ScSp wz lo b vv x)=>(by
    have h:=a0L x hx vv lo b wz hsp 12 (by omega) k hk v wz hv (Below.refl _ _);rw[hkk] at h;exact h:Calls Tryz.prog 51 #[.agg #[vv],.string v,.string kt,.int .i64 12] wz fun e w'=>aE (Wf.parse x 12 k v.data.toList) wz e w'/\Below wz.heap.size wz w')
   have HV:=hid (show valOf s.data.toList kt.data.toList v.data.toList=match (match Wf.parse x 12 k v.data.toList with|some (u,[])=>some u|_=>none) with|some u=>some ((x,k),u)|none=>none by
    unfold valOf;rw[hty];dsimp only;rw[Wf.valIn,if_pos (by rw[aD];exact h400)];rfl)
   have hd:decide ((400:Int)<(v.size:Int))=false:=decide_eq_false (by omega);clear hty hsc hpk hhas hkt hkl hkk;cases hp:Wf.parse x 12 k v.data.toList with
   | none =>
    have HF:=hid (show valOf s.data.toList kt.data.toList v.data.toList=none by rw[HV.out,hp]);have HO2:=hid fun(e:Ending) (w w':World) (h:aE (Wf.parse x 12 k v.data.toList) w e w')=>(by rw[hp] at h;exact h:∃ (p:Option Addr) (r:ByteArray),e=.returned (.tuple #[.pointer p,.string r,.bool false]));clear hp;go_enter Tryz.func29,Tryz.ntmps29;go_wp2_with (first|(go_at_call 51;refine(HRD.out _ _ _ _ HSP.out).mono ?_;rintro e w3 ⟨ho,hb3⟩;obtain⟨p,r,rfl⟩:=HO2.out _ _ _ ho;have HB3:=hid (aC HB2.out hb3);clear ho hb3)|(go_at_call 50;refine HLK.out.mono ?_;rintro e w2 ⟨ho,hb2⟩;obtain⟨b,a,c,rfl,hsp⟩:=HO.out _ _ _ ho;have HSP:=hid hsp;have HB2:=hid hb2;clear ho hb2 hsp))
    all_goals exact bodyPost_ret (v:=.tuple #[.slice a xn c,.pointer p,.bool false]) (by simp[results,Tryz.results29,go_sem, *]) rfl ⟨cE.no HF.out ⟨_,_,_,_,rfl⟩,HB3.out⟩
   | some y =>
    obtain⟨u,rr⟩:=y;obtain⟨RR,hRR⟩:∃ RR:ByteArray,(⟨rr.toArray⟩:ByteArray)=RR:=⟨_,rfl⟩;have HO2:=hid fun(e:Ending) (w w':World) (h:aE (Wf.parse x 12 k v.data.toList) w e w')=>(by unfold aE at h;rw[hp] at h;dsimp only at h;rw[tx,hRR] at h;exact h:∃ b,e=.returned (.tuple #[ptr b,.string RR,.bool true])/\LV w' (fun z=>w.heap.size<=z) u b);cases rr with
    | nil =>
     have HF:=hid (show valOf s.data.toList kt.data.toList v.data.toList=some ((x,k),u) by rw[HV.out,hp]);have hre:RR.toList.isEmpty=true:=(by rw[<-hRR,ByteArray.toList_eq];rfl);have hre2:RR.toList=[]:=List.isEmpty_iff.1 hre;have HXN:=hid hxn;clear hp hRR hxn;go_enter Tryz.func29,Tryz.ntmps29;go_wp2_with (first|(go_at_call 51;refine(HRD.out _ _ _ _ HSP.out).mono ?_;rintro e w3 ⟨ho,hb3⟩;obtain⟨pb,rfl,hlv⟩:=HO2.out _ _ _ ho;have HLV:=hid hlv;have HB3:=hid (aC HB2.out hb3);have HSP3:=hid (HSP.out.below hb3);clear ho hb3 hlv)|(go_at_call 50;refine HLK.out.mono ?_;rintro e w2 ⟨ho,hb2⟩;obtain⟨b,a,c,rfl,hsp⟩:=HO.out _ _ _ ho;have HSP:=hid hsp;have HB2:=hid hb2;clear ho hb2 hsp))
     all_goals exact bodyPost_ret (v:=.tuple #[.slice a xn c,ptr pb,.bool true]) (by simp[results,Tryz.results29,go_sem, *]) rfl ⟨cE.yes HF.out ⟨b,a,c,pb,by rw[HXN.out],by rw[HXN.out];exact HSP3.out,LV.mono HLV.out fun z hz _=>Nat.le_trans HB2.out.size hz⟩,HB3.out⟩
    | cons c0 q0 =>
     have HF:=hid (show valOf s.data.toList kt.data.toList v.data.toList=none by rw[HV.out,hp]);have hre:RR.toList.isEmpty=false:=(by rw[<-hRR,ByteArray.toList_eq];rfl);have hre2:RR.toList≠[]:=(by rw[<-hRR,ByteArray.toList_eq];exact List.cons_ne_nil _ _);clear hp hRR;go_enter Tryz.func29,Tryz.ntmps29;go_wp2_with (first|(go_at_call 51;refine(HRD.out _ _ _ _ HSP.out).mono ?_;rintro e w3 ⟨ho,hb3⟩;obtain⟨pb,rfl,hlv⟩:=HO2.out _ _ _ ho;have HB3:=hid (aC HB2.out hb3);clear ho hb3 hlv)|(go_at_call 50;refine HLK.out.mono ?_;rintro e w2 ⟨ho,hb2⟩;obtain⟨b,a,c,rfl,hsp⟩:=HO.out _ _ _ ho;have HSP:=hid hsp;have HB2:=hid hb2;clear ho hb2 hsp))
     all_goals exact bodyPost_ret (v:=.tuple #[.slice a xn c,ptr pb,.bool false]) (by simp[results,Tryz.results29,go_sem, *]) rfl ⟨cE.no HF.out ⟨_,_,_,_,rfl⟩,HB3.out⟩
  ·have HF:=hid (show valOf s.data.toList kt.data.toList v.data.toList=none by
    unfold valOf;rw[hty];dsimp only;rw[Wf.nK (by rw[aD];exact h400)])
   have hd:decide ((400:Int)<(v.size:Int))=true:=decide_eq_true (by omega);clear hty hsc hpk hhas hkt hkl hkk;go_enter Tryz.func29,Tryz.ntmps29;go_wp2_with (go_at_call 50;refine HLK.out.mono ?_;rintro e w2 ⟨ho,hb2⟩;obtain⟨b,a,c,rfl,hsp⟩:=HO.out _ _ _ ho;have HB2:=hid hb2;clear ho hb2 hsp)
   all_goals exact bodyPost_ret (v:=.tuple #[.slice none 0 0,.pointer none,.bool false]) (by simp[results,Tryz.results29,go_sem, *]) rfl ⟨cE.no HF.out ⟨_,_,_,_,rfl⟩,HB2.out⟩

theorem a0W {es:List (Wf.Fd × Wf.V)} {g:Int} {k:Nat} (hk:k<es.length) (h0:∀ j (hj:j<es.length),j<k->((es[j]).1.tag:Int)≠g) (h1:((es[k]).1.tag:Int)=g):es.find? (fun d=>(d.1.tag:Int)==g)=some es[k]:=by
 rw[List.find?_eq_some_iff_getElem];exact⟨by simpa using h1,k,hk,rfl,fun j hj=>by simpa using h0 j (by omega) hj⟩
theorem vR {es:List (Wf.Fd × Wf.V)} {g:Int} (h0:∀ j (hj:j<es.length),((es[j]).1.tag:Int)≠g):es.find? (fun d=>(d.1.tag:Int)==g)=none:=by
 rw[List.find?_eq_none];intro f hf;obtain⟨j,hj,rfl⟩:=List.mem_iff_getElem.1 hf;simpa using h0 j hj
def vfV:Option (List UInt8)->Value
 | some b=>.tuple #[tx b,.bool true]
 | none=>.tuple #[tx [],.bool false]
def dD (l kt s:List UInt8) (g:Int):Option (List UInt8):=(valOf l kt s).bind fun y=>Wf.gJ y.1.1 y.1.2 y.2 g

def bytesVal (l kt s:List UInt8):Option (List UInt8):=(valOf l kt s).map fun y=>y.2.bytes
theorem bytesVal_len {l kt s b:List UInt8} (h:bytesVal l kt s=some b):b.length<=400:=by
 unfold bytesVal at h;cases hv:valOf l kt s with
 | none=>rw[hv] at h;cases h
 | some y =>
  rw[hv] at h;simp only[Option.map_some,Option.some.injEq] at h;subst h;obtain⟨_,h2⟩:=eN hv;obtain⟨ht,hs,hl⟩:=Wf.gD h2;have:=Wf.hM 12 _ _ ht (by rw[<-hs];omega);rw[<-hs] at this;exact Nat.le_trans this hl



theorem oO (c:List Value) {w1 w2:World} {rb et:Nat} (hb:aA rb (w1.alloc (.cells c.toArray et)) w2) (hr:rb<w1.heap.size) (v:Int) (h0:0<=v) (h1:v<c.length):∃ x∈c,w2.cell? ⟨w1.heap.size,v.toNat,none⟩=some x:=by
 refine⟨c[v.toNat]'(by omega),List.getElem_mem _,?_⟩;refine hb.sV ?_ (by omega);simp[List.getElem?_eq_getElem (show v.toNat<c.length by omega)]
theorem cM (m:Nat) (l:List (List UInt8)) {w1 w2:World} {rb et:Nat} (hb:aA rb (w1.alloc (.cells (l.map tx).toArray et)) w2) (hr:rb<w1.heap.size) (v:Int) (h0:0<=v) (h1:v<l.length) (hl:(l.all fun n=>decide (n.length<=m))=true):∃ x:ByteArray,x.size<=m/\x.data.toList∈l/\w2.cell? ⟨w1.heap.size,v.toNat,none⟩=some (.string x):=by
 obtain⟨x,hx,hc⟩:=oO _ hb hr v h0 (by simpa using h1);obtain⟨n,hn,rfl⟩:=List.mem_map.1 hx;have:=List.all_eq_true.1 hl n hn;exact⟨⟨n.toArray⟩,by simpa[aU] using this,hn,hc⟩
theorem pS (rb k:Nat) (w:World) (H:Rd w rb k) (hk:k<=900000) :
  Calls Tryz.prog 64 #[.pointer (some ⟨rb,0,none⟩)] w fun e w'=>∃ s:ByteArray,e=.returned (.string s)/\s.size<=100/\Rd w' rb (k+7)/\aA rb w w':=by
 have R0:=H.lt;go_enter Tryz.func64,Tryz.ntmps64;go_wp2_with (first|(go_at_call 62;refine(pick rb (k+1) 4 _ hR2 (by omega) (by omega)).mono ?_;rintro e w3 ⟨n,rfl,hn,_,hR3,hBs3⟩;obtain⟨hn0,hn1⟩:=hn (by omega);have B3:=Lib.hid (B2.out.trans hBs3);clear hBs3)|(go_at_call 62;refine(pick rb k 8 _ (H.alloc _) (by omega) (by omega)).mono ?_;rintro e w2 ⟨v,rfl,hv,_,hR2,hBs⟩;obtain⟨hv0,hv1⟩:=hv (by omega);obtain⟨x,hx0,hx1,hxc⟩:=cM 3 [[110],[116],[102],[110],[116],[64,97,59],[64,98,59],[64,99,59]] hBs H.lt v hv0 hv1 (by decide);have B2:=Lib.hid (((aA.refl rb w).alloc _).trans hBs);clear hBs))
 go_loopw [3,4] (fun v3 v4 wr=>∃ (t:ByteArray) (i:Int) (m:Nat),v3=.string t/\v4=.int .i64 i/\0<=i/\i<=3/\m+i.toNat<=5/\t.size<=10*m/\m<=5/\Rd wr rb (k+m)/\Hid (aA rb w wr)) (fun _ v _=>(RowKit.intOf v).toNat)
 case atStart=>exact⟨x,n,2,rfl,rfl,hn0,by omega,by omega,by omega,by omega,hR3,B3⟩
 case round =>
  obtain⟨t,i,m,rfl,rfl,hi0,hi1,hm,ht,hm5,hR,hBB⟩:=hrel;by_cases hi:1<i
  ·go_wp2_with (go_at_call 62;refine(pick rb (k+m) 3 _ (hR.alloc _) (by omega) (by omega)).mono ?_;rintro e w4 ⟨u,rfl,hu,_,hR4,hBs4⟩;obtain⟨hu0,hu1⟩:=hu (by omega);obtain⟨y,hy0,hy1,hyc⟩:=cM 1 [[91],[63],[91]] hBs4 hR.lt u hu0 hu1 (by decide);have B4:=Lib.hid ((hBB.out.alloc _).trans hBs4);clear hBs4)
   go_roundw
   case rel=>exact⟨_,_,m+1,rfl,rfl,by omega,by omega,by omega,by simp[ByteArray.size_append];omega,by omega,hR4,B4⟩
   case measure=>simp[RowKit.intOf];omega
  ·go_wp2_with (first|(go_at_call 62;refine(pick rb (k+m+1) 8 _ (hR5.alloc _) (by omega) (by omega)).mono ?_;rintro e w6 ⟨v6,rfl,hv6,_,hR6,hBs6⟩;obtain⟨hv60,hv61⟩:=hv6 (by omega);obtain⟨z,hz0,hz1,hzc⟩:=cM 20 [[],[120],[64,59],[64,65,59],[91],[63,63,63,63,63,63,63,63,63,63,63,63,63,63,110],[64,97],[110,110]] hBs6 hR5.lt v6 hv60 hv61 (by decide);have B6:=Lib.hid ((B5.out.alloc _).trans hBs6);clear hBs6)|(go_at_call 62;refine(pick rb (k+m) 30 _ hR (by omega) (by omega)).mono ?_;rintro e w5 ⟨v5,rfl,hv5,_,hR5,hBs5⟩;have B5:=Lib.hid (hBB.out.trans hBs5);clear hBs5 hv5))
   all_goals go_ret
   ·exact⟨z,rfl,by omega,hR6.mono (by omega),B6.out⟩
   ·exact⟨t,rfl,by omega,hR5.mono (by omega),B5.out⟩

def Drew (n:Nat) (rb k:Nat) (w:World) (e:Ending) (w':World):Prop:=∃ s:ByteArray,e=.returned (.string s)/\s.size<=n/\Rd w' rb k/\aA rb w w'
theorem a7I (rb k:Nat) (T NM:ByteArray) (g:Nat) (hg:g<=999999) (hn:NM.size<=10) (w:World) (H:Rd w rb k) (hk:k<=900000) :
  Calls Tryz.prog 102 #[.pointer (some ⟨rb,0,none⟩),.string T,.int .i64 g,.string NM] w fun e w'=>Drew 130 rb (k+9) w e w':=by
 have R0:=H.lt;have HD:=hid fun wz=>eL g g wz (Nat.le_refl _) (by omega);have ld:=Wf.bW hg;obtain⟨D,hD⟩:∃ D:ByteArray,(⟨(Wf.dec g).toArray⟩:ByteArray)=D:=⟨_,rfl⟩;simp only[tx,hD] at HD;have hds:D.size<=6:=by rw[<-hD,aU];exact ld
 have HH:=hid H;clear hD ld H;go_enter Tryz.func102,Tryz.ntmps102;go_wp2_with (first|(go_at_call 62;have _u:=hR4;have _t:(K.toList==[110])=true:=(by assumption);refine(pick rb (k+8) 8 _ (hR4.alloc _) (by omega) (by omega)).mono ?_;rintro e w5 ⟨u,rfl,hu,_,hR5,hBs5⟩;obtain⟨hu0,hu1⟩:=hu (by omega);obtain⟨x,hx0,hx1,hxc⟩:=cM 6 [[53],[55,55],[57,57,57,57,57,57],[48]] hBs5 hR4.lt (u / 2 % 4) (by omega) (by simp;omega) (by decide);have B5:=Lib.hid ((B4.out.alloc _).trans hBs5);clear hBs5)|(go_at_call 62;have _u:=hR4;have _t:(K.toList==[116])=true:=(by assumption);refine(pick rb (k+8) 7 _ (hR4.alloc _) (by omega) (by omega)).mono ?_;rintro e w5 ⟨u,rfl,hu,_,hR5,hBs5⟩;obtain⟨hu0,hu1⟩:=hu (by omega);obtain⟨x,hx0,hx1,hxc⟩:=cM 3 [[104,105],[97,32,98],[]] hBs5 hR4.lt (u / 3) (by omega) (by simp;omega) (by decide);have B5:=Lib.hid ((B4.out.alloc _).trans hBs5);clear hBs5)|(go_at_call 62;have _u:=hR4;have _t:(K.toList==[102])=true:=(by assumption);refine(pick rb (k+8) 7 _ (hR4.alloc _) (by omega) (by omega)).mono ?_;rintro e w5 ⟨u,rfl,hu,_,hR5,hBs5⟩;obtain⟨hu0,hu1⟩:=hu (by omega);obtain⟨x,hx0,hx1,hxc⟩:=cM 3 [[121,101,115],[121,101,115],[110,111]] hBs5 hR4.lt (u / 3) (by omega) (by simp;omega) (by decide);have B5:=Lib.hid ((B4.out.alloc _).trans hBs5);clear hBs5)|(go_at_call 62;refine(pick rb (k+7) 3 _ R3.out (by omega) (by omega)).mono ?_;rintro e w4 ⟨v,rfl,hv,_,hR4,hBs⟩;obtain⟨hv0,hv1⟩:=hv (by omega);have B4:=Lib.hid (B3.out.trans hBs);clear hBs)|(go_at_call 64;refine(pS rb k _ R1.out (by omega)).mono ?_;rintro e w3 ⟨K,rfl,hK,hR3,hBs3⟩;have B3:=Lib.hid (B1.out.trans hBs3);have R3:=Lib.hid hR3;clear hBs3 hR3)|(go_at_call 89;refine(HD.out _).mono ?_;rintro e w1 ⟨rfl,hb1⟩;have R1:=Lib.hid (HH.out.below hb1 R0);have B1:=Lib.hid (aA.aI (rb:=rb) hb1 (Nat.le_refl _));clear hb1))
 all_goals go_ret
 all_goals have c58:(⟨#[58]⟩:ByteArray).size=1:=rfl
 all_goals have c61:(⟨#[61]⟩:ByteArray).size=1:=rfl
 all_goals have c62:(⟨#[61,39]⟩:ByteArray).size=2:=rfl
 all_goals have c39:(⟨#[39]⟩:ByteArray).size=1:=rfl
 all_goals first|exact⟨_,rfl,by simp[ByteArray.size_append];omega,hR5.mono (by omega),B5.out⟩|exact⟨_,rfl,by simp[ByteArray.size_append];omega,hR4.mono (by omega),B4.out⟩|exact⟨_,rfl,by simp[ByteArray.size_append];omega,R3.out.mono (by omega),B3.out⟩|exact⟨_,rfl,by simp[ByteArray.size_append];omega,R1.out.mono (by omega),B1.out⟩
theorem a2F (rb k:Nat) (T NM:ByteArray) (g:Int) (hg0:0<=g) (hg:g<=999999) (hn:NM.size<=10) (w:World) (H:Rd w rb k) (hk:k<=900000) :
  Calls Tryz.prog 102 #[.pointer (some ⟨rb,0,none⟩),.string T,.int .i64 g,.string NM] w fun e w'=>Drew 130 rb (k+9) w e w':=by
 obtain⟨n,rfl⟩:=Int.eq_ofNat_of_zero_le hg0;exact a7I rb k T NM n (by omega) hn w H hk
theorem mV (rb k:Nat) (T NM:ByteArray) (hT:T.size<=1) (hT1:1<=T.size) (hn:NM.size<=1) (w:World) (H:Rd w rb k) (hk:k<=800000) :
  Calls Tryz.prog 61 #[.pointer (some ⟨rb,0,none⟩),.string T,.string NM] w fun e w'=>∃ s:ByteArray,e=.returned (.string s)/\1<=s.size/\s.size<=600/\Rd w' rb (k+50)/\aA rb w w':=by
 have R0:=H.lt;have HH:=hid H;have kc1:=fun W a c (q:Int) h=>run_convert_one (P:=Tryz.prog) 22 9 5 Tryz.underlying22 Tryz.underlying5 Tryz.underlying9 W a c q h;have c61:(⟨#[61]⟩:ByteArray).size=1:=rfl;have c44:(⟨#[44]⟩:ByteArray).size=1:=rfl;have c10:(⟨#[10]⟩:ByteArray).size=1:=rfl;clear H;go_enter Tryz.func61,Tryz.ntmps61;go_wp2_with (first|(go_at_call 62;have _u:=hR1;refine(pick rb (k+1) 8 _ hR1 (by omega) (by omega)).mono ?_;rintro e w2 ⟨v2,rfl,hv2,_,hR2,hBs2⟩;have B2:=Lib.hid (B1.out.trans hBs2);clear hBs2 hv2;rcases(Bool.eq_false_or_eq_true (v2==(0:Int))) with hq|hq)|(go_at_call 62;refine(pick rb k 4 _ HH.out (by omega) (by omega)).mono ?_;rintro e w1 ⟨v1,rfl,hv1,_,hR1,hBs⟩;obtain⟨hv10,hv11⟩:=hv1 (by omega);have B1:=Lib.hid hBs;clear hBs))
 all_goals
  go_loopw [7,8,10] (fun s tg iv wr=>∃ (S:ByteArray) (t:Int) (i:Nat),s=.string S/\tg=.int .i64 t/\iv=.int .i64 i/\i<=4/\0<=t/\t<=3*i/\S.size<=3+140*i/\1<=S.size/\Rd wr rb (k+2+11*i)/\Hid (aA rb w wr)) (fun _ _ v _=>4-(RowKit.intOf v).toNat)
  case atStart=>exact⟨_,_,0,rfl,rfl,rfl,by omega,by omega,by omega,by simp[ByteArray.size_append];omega,by simp[ByteArray.size_append];omega,by first|exact hR2|exact hR1.mono (by omega),by first|exact B2|exact B1⟩
  case round =>
   obtain⟨S,t,i,rfl,rfl,rfl,hi4,ht0,ht1,hS,hS1,hR,hB⟩:=hrel;go_wp2_with (first|(go_at_call 102;have _u:=hR7;refine(a2F rb (k+2+11*i+2) T ⟨#[112+UInt8.ofNat i]⟩ _ (by omega) (by omega) (show(1:Nat)<=10 by omega) _ (hR7.alloc _) (by omega)).mono ?_;rintro e w8 ⟨F,rfl,hF,hR8,hBs8⟩;have B8:=Lib.hid ((B7.out.alloc _).trans hBs8);clear hBs8)|(go_at_call 62;have _u:=hR6;refine(pick rb (k+2+11*i+1) 2 _ hR6 (by omega) (by omega)).mono ?_;rintro e w7 ⟨v7,rfl,hv7,_,hR7,hBs7⟩;obtain⟨hv70,hv71⟩:=hv7 (by omega);have B7:=Lib.hid (B6.out.trans hBs7);clear hBs7;rcases(show v7=0\/v7=1 by omega) with rfl|rfl)|(go_at_call 62;refine(pick rb (k+2+11*i) 3 _ hR (by omega) (by omega)).mono ?_;rintro e w6 ⟨v6,rfl,hv6,_,hR6,hBs6⟩;obtain⟨hv60,hv61⟩:=hv6 (by omega);have B6:=Lib.hid (hB.out.trans hBs6);clear hBs6))
   all_goals first|(go_roundw;(case rel=>exact⟨_,_,i+1,rfl,rfl,by go_num,by omega,by omega,by omega,by simp[ByteArray.size_append];omega,by simp[ByteArray.size_append];omega,hR8.mono (by omega),B8⟩);(case measure=>simp[RowKit.intOf];omega))|(go_ret;exact⟨_,rfl,by simp[ByteArray.size_append];omega,by simp[ByteArray.size_append];omega,hR.mono (by omega),hB.out⟩)

theorem qZ {x:ByteArray} {l:List (List UInt8)} (h:x.data.toList∈l) (hl:(l.all fun n=>decide (1<=n.length))=true):1<=x.size:=by
 have:=List.all_eq_true.1 hl _ h;have h2:1<=x.data.toList.length:=by simpa using this
 rw[aD] at h2;exact h2
theorem a4D (m:Nat) (l:List (List UInt8)) (v:Int) (h0:0<=v) (h1:v<l.length) (hl:(l.all fun n=>decide (n.length<=m))=true):∃ x:ByteArray,x.size<=m/\x.data.toList∈l/\∀ h:v.toNat<(l.map tx).length,(l.map tx)[v.toNat]'h=.string x:=by
 have hv:v.toNat<l.length:=by omega
 have:=List.all_eq_true.1 hl l[v.toNat] (List.getElem_mem _);exact⟨⟨(l[v.toNat]).toArray⟩,by simpa[aU] using this,List.getElem_mem _,fun h=>by rw[List.getElem_map]⟩
theorem a2M (rb k:Nat) (w:World) (H:Rd w rb k) (hk:k<=700000) :
  Calls Tryz.prog 37 #[.pointer (some ⟨rb,0,none⟩)] w fun e w'=>∃ s:ByteArray,e=.returned (.string s)/\s.size<=1900/\Rd w' rb (k+170)/\aA rb w w':=by
 have R0:=H.lt;have HH:=hid H;clear H;go_enter Tryz.func37,Tryz.ntmps37;go_upto_region 2 with(first|(go_at_call 61;have _u:=hR5;refine(mV rb (k+102) x2 ⟨#[99]⟩ hx21 hx22 (show(1:Nat)<=1 by omega) _ hR5 (by omega)).mono ?_;rintro e w6 ⟨S3,rfl,hS31,hS32,hR6,hBs6⟩;have B6:=Lib.hid (B5.out.trans hBs6);clear hBs6)|(go_at_call 62;have _u:=hR4;refine(pick rb (k+101) 3 _ (hR4.alloc _) (by omega) (by omega)).mono ?_;rintro e w5 ⟨v5,rfl,hv5,_,hR5,hBs5⟩;obtain⟨hv50,hv51⟩:=hv5 (by omega);obtain⟨x2,hx21,hx2m,hx2c⟩:=cM 1 [[82],[69],[85]] hBs5 hR4.lt v5 hv50 hv51 (by decide);have hx22:=qZ hx2m (by decide);have B5:=Lib.hid ((B4.out.alloc _).trans hBs5);clear hBs5)|(go_at_call 61;have _u:=hR3;refine(mV rb (k+51) x1 ⟨#[98]⟩ hx11 hx12 (show(1:Nat)<=1 by omega) _ hR3 (by omega)).mono ?_;rintro e w4 ⟨S2,rfl,hS21,hS22,hR4,hBs4⟩;have B4:=Lib.hid (B3.out.trans hBs4);clear hBs4)|(go_at_call 62;have _u:=hR2;refine(pick rb (k+50) 4 _ (hR2.alloc _) (by omega) (by omega)).mono ?_;rintro e w3 ⟨v3,rfl,hv3,_,hR3,hBs3⟩;obtain⟨hv30,hv31⟩:=hv3 (by omega);obtain⟨x1,hx11,hx1m,hx1c⟩:=cM 1 [[82],[85],[85],[69]] hBs3 hR2.lt v3 hv30 hv31 (by decide);have hx12:=qZ hx1m (by decide);have B3:=Lib.hid ((B2.out.alloc _).trans hBs3);clear hBs3)|(go_at_call 61;refine(mV rb k ⟨#[82]⟩ ⟨#[97]⟩ (show(1:Nat)<=1 by omega) (show(1:Nat)<=1 by omega) (show(1:Nat)<=1 by omega) _ HH.out (by omega)).mono ?_;rintro e w2 ⟨S1,rfl,hS11,hS12,hR2,hBs2⟩;have B2:=Lib.hid hBs2;clear hBs2))
 go_cut [3,30] from 23 (fun s3 s30 wx=>∃ (S:ByteArray) (b:Bool),s3=.string S/\s30=.bool b/\1<=S.size/\S.size<=1800/\Rd wx rb (k+160)/\Hid (aA rb w wx))
 case first =>
  have hsz:(S1++S2++S3).size<=1800:=by simp[ByteArray.size_append];omega
  have hsz1:1<=(S1++S2++S3).size:=by simp[ByteArray.size_append];omega
  have HSO:=hid fun wz=>a6Y (S1++S2++S3) wz (by omega);obtain⟨B,hB⟩:∃ B,okL (S1++S2++S3).data.toList=B:=⟨_,rfl⟩;rw[hB] at HSO;clear hB;go_wp2_with (first|(go_at_call 62;have _u:=hR7;refine(pick rb (k+152) 8 _ hR7 (by omega) (by omega)).mono ?_;rintro e w8 ⟨v8,rfl,hv8,_,hR8,hBs8⟩;have B8:=Lib.hid (B7.out.trans hBs8);clear hBs8)|(go_at_call 63;refine(HSO.out _).mono ?_;rintro e w7 ⟨rfl,hb7⟩;have hR7:=hR6.below hb7 hR6.lt;have B7:=Lib.hid (B6.out.trans (aA.aI hb7 (Nat.le_refl _)));clear hb7))
  all_goals go_meet
  all_goals exact⟨_,_,rfl,rfl,hsz1,hsz,by first|exact hR8.mono (by omega)|exact hR7.mono (by omega),by first|exact B8|exact B7⟩
 case rest =>
  obtain⟨S,b,rfl,rfl,hS1,hS2,hR,hB⟩:=hcut;go_upto_if 30 with fail
  go_cut [3] from 23 (fun s3 wx=>∃ (S':ByteArray),s3=.string S'/\1<=S'.size/\S'.size<=1800/\wx=wc)
  case first =>
   cases b
   ·go_wp2_with fail
    go_meet
    exact⟨S,rfl,hS1,hS2,rfl⟩
   ·go_wp2_with fail
    go_meet
    exact⟨_,rfl,by decide,by decide,rfl⟩
  case rest =>
   obtain⟨S',rfl,hS3,hS4,rfl⟩:=hcut;go_wp2_with (first|(go_at_call 62;have _u:=hR9;refine(pick rb (k+161) S'.size _ hR9 (by omega) (by omega)).mono ?_;rintro e w10 ⟨v10,rfl,hv10,_,hR10,hBs10⟩;obtain⟨hv100,hv101⟩:=hv10 (by omega);obtain⟨n10,rfl⟩:=Int.eq_ofNat_of_zero_le hv100;have B10:=Lib.hid (B9.out.trans hBs10);clear hBs10 hv10)|(go_at_call 62;refine(pick rb (k+160) 24 _ hR (by omega) (by omega)).mono ?_;rintro e w9 ⟨v9,rfl,hv9,_,hR9,hBs9⟩;have B9:=Lib.hid (hB.out.trans hBs9);clear hBs9 hv9))
   ·have kk1:n10<S'.size:=by omega
    have kk2:n10<=S'.size:=(by omega);have kk3:n10+1<=S'.size:=(by omega);have kk4:(0:Int)<=(n10:Int)+1:=(by omega);have kk5:(n10:Int)+1<=(S'.size:Int):=(by omega);have kw:IntKind.i64.wrap ((n10:Int)+1)=(n10:Int)+1:=by
     have:=lB (n10+1) (by omega);rw[show((n10+1:Nat):Int)=(n10:Int)+1 by omega] at this;exact this
    have ks:∀ wz,(Instr.slice 9 (.string S') (some (.int .i64 ((n10:Int)+1))) none none).run Tryz.prog wz=.ok (.string (S'.extract (n10+1) S'.size)) wz:=fun wz=>run_slice_string_l wz 9 S' Tryz.underlying9 .i64 ((n10:Int)+1) kk4 kk5;go_region_with (first|(go_at_call 62;refine(pick rb (k+162) 5 _ ((hR10.alloc _).drewN 1) (by omega) (by omega)).mono ?_;rintro e w11 ⟨v11,rfl,hv11,_,hR11,hBs11⟩;obtain⟨hv110,hv111⟩:=hv11 (by omega);obtain⟨x,hx0,hxm,hxc⟩:=cM 1 [[],[44],[58],[49],[10]] (w1:=w10) (aA.trans (aA.drew (aA.refl _ _)) hBs11) hR10.lt v11 hv110 hv111 (by decide);have a1:=fun wz=>run_string_add_sum (P:=Tryz.prog) (w:=wz) (S'.extract 0 n10) x (by rw[ByteArray.size_extract];omega);have a2:=fun wz=>run_string_add_sum (P:=Tryz.prog) (w:=wz) (S'.extract 0 n10++x) (S'.extract (n10+1) S'.size) (by rw[ByteArray.size_append,ByteArray.size_extract,ByteArray.size_extract];omega);have B11:=Lib.hid (((B10.out.alloc _).drew).trans hBs11);clear hBs11 hv11)|(go_at_call 62;refine(pick rb (k+162) 5 _ (hR10.drewN 1) (by omega) (by omega)).mono ?_;rintro e w11 ⟨v11,rfl,hv11,_,hR11,hBs11⟩;obtain⟨hv110,hv111⟩:=hv11 (by omega);obtain⟨x,hx0,hxm,hxc⟩:=a4D 1 [[],[44],[58],[49],[10]] v11 hv110 hv111 (by decide);have hel:∀ h,[Value.string ⟨#[]⟩,Value.string ⟨#[44]⟩,Value.string ⟨#[58]⟩,Value.string ⟨#[49]⟩,Value.string ⟨#[10]⟩][v11.toNat]'h=.string x:=(fun h=>hxc h);clear hxc;have a1:=fun wz=>run_string_add_sum (P:=Tryz.prog) (w:=wz) (S'.extract 0 n10) x (by rw[ByteArray.size_extract];omega);have a2:=fun wz=>run_string_add_sum (P:=Tryz.prog) (w:=wz) (S'.extract 0 n10++x) (S'.extract (n10+1) S'.size) (by rw[ByteArray.size_append,ByteArray.size_extract,ByteArray.size_extract];omega);have B11:=Lib.hid ((B10.out.drew).trans hBs11);clear hBs11 hv11))
    all_goals go_wp2_with fail
    all_goals go_ret
    all_goals exact⟨_,rfl,by rw[ByteArray.size_append,ByteArray.size_append,ByteArray.size_extract,ByteArray.size_extract];omega,by first|exact hR11.mono (by omega)|exact(hR11.alloc _).mono (by omega),by first|exact B11.out|exact B11.out.alloc _⟩
   ·go_ret
    exact⟨S',rfl,by omega,hR9.mono (by omega),B9.out⟩

theorem zK (w:World) (h:w.ShapedOpen Tryz.prog):∃ m,ML m w:=Tryz.laysM145.s1_3 w h



theorem xX {s:List UInt8} {k:Wf.K} (h:Wf.aK s=some k):Wf.aK k.text=some k:=by
 have h0:=h;unfold Wf.aK at h;split at h
 ·rw[Wf.hJ h];exact h0
 ·cases h
theorem zU {l nm:List UInt8} {x:Wf.Sc} {t:Wf.Ty} {f:Wf.Fd} (h:bC l nm=some (x,t)) (hf:f∈t.fields) (h69:t.sort≠69):aX l f.kind.text=some (x,f.kind):=by
 obtain⟨hs,hx,_,ht⟩:=fL h;obtain⟨s,hk⟩:=((hx.tys t ht).fds f hf).kind h69;unfold aX;rw[hs];dsimp only;rw[xX hk];dsimp only;rw[if_pos (hx.refs t ht h69 f hf)]

theorem part_words {l kt s a nm:List UInt8} {x:Wf.Sc} {t:Wf.Ty} {f:Wf.Fd} (ha:bytesVal l kt s=some a) (hk:aX l kt=some (x,.ref nm)) (hty:bC l nm=some (x,t)) (h82:t.sort=82) (hf:t.field f.tag=some f) (hfm:f∈t.fields) :
  ∃ v:List UInt8,dD l kt s f.tag=some v/\((∃ b,Wf.fieldAt f.tag a=some b/\v≠Wf.aL x f/\bytesVal l f.kind.text v=some b)\/(Wf.fieldAt f.tag a=none/\v=Wf.aL x f)):=by
 unfold bytesVal at ha;cases hv:valOf l kt s with
 | none=>rw[hv] at ha;cases ha
 | some y =>
  rw[hv] at ha;simp only[Option.map_some,Option.some.injEq] at ha;subst ha;obtain⟨hk',hvi⟩:=eN hv;rw[hk] at hk';have hy:y.1=(x,.ref nm):=(Option.some.inj hk').symm;rw[hy] at hvi;obtain⟨hsc,hx,ht,htx⟩:=fL hty;have h69:t.sort≠69:=by rw[h82];decide
  have hrf:Wf.cR x (.ref nm) (f.tag:Int)=some f:=by
   unfold Wf.cR;rw[show Wf.recTy x (.ref nm)=some t by simp only[Wf.recTy,ht,Option.bind_some,if_pos h82]];show t.fO (f.tag:Int)=some f;rw[Wf.pU];exact hf
  have hfv:dD l kt s f.tag=some (Wf.getV x y.2.kids f):=by
   unfold dD;rw[hv];show Wf.gJ y.1.1 y.1.2 y.2 f.tag=_;rw[hy];unfold Wf.gJ;rw[hrf];rfl
  refine⟨_,hfv,?_⟩;rcases Wf.part_law hvi hrf with⟨u,h1,h2,h3,h4⟩|⟨h1,h2⟩
  ·refine .inl ⟨_,h1,by rw[h2];exact h3,?_⟩
   unfold bytesVal valOf;rw[zU hty hfm h69,h2];dsimp only;rw[h4];rfl
  ·exact .inr ⟨h1,h2⟩

def nmL (l:List UInt8):List UInt8:=match Wf.aK l with
 | some (.ref nm)=>nm
 | _=>[]
theorem kindName_i (s:ByteArray) (w:World) (hs:s.size<=9223372036854775807):Calls Tryz.prog 35 #[.string s] w fun e w'=>(∃ b,e=.returned (.tuple #[tx (nmL s.data.toList),.bool b]))/\Below w.heap.size w w':=by
 cases hk:Wf.aK s.data.toList with
 | none =>
  have HK:=hid fun w=>kH s hk w hs;have HF:=hid (show nmL s.data.toList=[] by unfold nmL;rw[hk]);clear hk;go_enter Tryz.func35,Tryz.ntmps35;go_wp2_with (go_at_call 55;refine(HK.out _).mono ?_;rintro e w1 ⟨⟨a,b,c,rfl⟩,hb⟩)
  go_ret2
  exact⟨⟨false,by rw[HF.out];rfl⟩,(by repeat (first|exact hb|exact Below.refl _ _|refine Below.alloc ?_ (by first|exact hb.size|(simp;done)|(simp;omega)|omega) _|refine Below.setCell ?_ (by first|(simp;done)|(simp;omega)|omega) _|refine Below.drew ?_))⟩
 | some k =>
  have hry:=mG s k hk w hs;have hr:(k.signs=[]/\k.base=[64]/\nmL s.data.toList=k.name)\/((k.signs.isEmpty=false\/(k.signs.isEmpty=true/\(k.base==[64])=false))/\nmL s.data.toList=[]):=by
   unfold nmL;rw[hk];cases k with
   | ref n=>exact .inl ⟨rfl,rfl,rfl⟩
   | num=>exact .inr ⟨.inr ⟨rfl,rfl⟩,rfl⟩
   | txt=>exact .inr ⟨.inr ⟨rfl,rfl⟩,rfl⟩
   | flag=>exact .inr ⟨.inr ⟨rfl,rfl⟩,rfl⟩
   | list k=>exact .inr ⟨.inl rfl,rfl⟩
   | opt k=>exact .inr ⟨.inl rfl,rfl⟩
  obtain⟨SG,hSG⟩:∃ SG:ByteArray,(⟨k.signs.toArray⟩:ByteArray)=SG:=⟨_,rfl⟩;obtain⟨BS,hBS⟩:∃ BS:ByteArray,(⟨k.base.toArray⟩:ByteArray)=BS:=⟨_,rfl⟩;obtain⟨NM,hNM⟩:∃ NM:ByteArray,(⟨k.name.toArray⟩:ByteArray)=NM:=⟨_,rfl⟩;simp only[kV,tx,hSG,hBS,hNM] at hry;have HK:=hid hry;rcases hr with⟨h1,h2,h3⟩|⟨h1|⟨h1,h2⟩,h3⟩
  ·have HF:=hid (show tx (nmL s.data.toList)=.string NM by rw[h3,tx,hNM])
   have g1:SG.toList.isEmpty=true:=(by rw[<-hSG,h1,ByteArray.toList_eq];rfl);have g2:(BS.toList==[64])=true:=(by rw[<-hBS,h2,ByteArray.toList_eq];rfl);clear hk hry h1 h2 h3 hSG hBS hNM;go_enter Tryz.func35,Tryz.ntmps35;go_wp2_with (go_at_call 55;refine HK.out.mono ?_;rintro e w1 ⟨rfl,hb⟩)
   go_ret2
   exact⟨⟨true,by rw[HF.out];rfl⟩,(by repeat (first|exact hb|exact Below.refl _ _|refine Below.alloc ?_ (by first|exact hb.size|(simp;done)|(simp;omega)|omega) _|refine Below.setCell ?_ (by first|(simp;done)|(simp;omega)|omega) _|refine Below.drew ?_))⟩
  ·have HF:=hid h3
   have g1:SG.toList.isEmpty=false:=(by rw[<-hSG,ByteArray.toList_eq];exact h1);clear hk hry h1 h3 hSG hBS hNM;go_enter Tryz.func35,Tryz.ntmps35;go_wp2_with (go_at_call 55;refine HK.out.mono ?_;rintro e w1 ⟨rfl,hb⟩)
   go_ret2
   exact⟨⟨false,by rw[HF.out];rfl⟩,(by repeat (first|exact hb|exact Below.refl _ _|refine Below.alloc ?_ (by first|exact hb.size|(simp;done)|(simp;omega)|omega) _|refine Below.setCell ?_ (by first|(simp;done)|(simp;omega)|omega) _|refine Below.drew ?_))⟩
  ·have HF:=hid h3
   have g1:SG.toList.isEmpty=true:=(by rw[<-hSG,ByteArray.toList_eq];exact h1);have g2:(BS.toList==[64])=false:=(by rw[<-hBS,ByteArray.toList_eq];exact h2);clear hk hry h1 h2 h3 hSG hBS hNM;go_enter Tryz.func35,Tryz.ntmps35;go_wp2_with (go_at_call 55;refine HK.out.mono ?_;rintro e w1 ⟨rfl,hb⟩)
   go_ret2
   exact⟨⟨false,by rw[HF.out];rfl⟩,(by repeat (first|exact hb|exact Below.refl _ _|refine Below.alloc ?_ (by first|exact hb.size|(simp;done)|(simp;omega)|omega) _|refine Below.setCell ?_ (by first|(simp;done)|(simp;omega)|omega) _|refine Below.drew ?_))⟩
theorem kindName_l (s:ByteArray) (w:World) (hs:s.size<=9223372036854775807):Calls Tryz.prog 16 #[.string s] w fun e w'=>e=.returned (tx (nmL s.data.toList))/\Below w.heap.size w w':=by
 have HK:=hid (kindName_i s w hs);obtain⟨NM,hNM⟩:∃ NM:ByteArray,(⟨(nmL s.data.toList).toArray⟩:ByteArray)=NM:=⟨_,rfl⟩;simp only[tx,hNM] at HK ⊢;clear hNM;go_enter Tryz.func16,Tryz.ntmps16;go_wp2_with (go_at_call 35;refine HK.out.mono ?_;rintro e w1 ⟨⟨b,rfl⟩,hb⟩)
 go_ret
 exact⟨rfl,hb⟩
theorem nm_len {l:List UInt8}:(nmL l).length<=12:=by
 unfold nmL;split
 ·rename_i nm h
  have h1:=fU h;have h2:=fJ (.ref nm);simp only[Wf.K.name] at h2;omega
 ·simp
theorem nm_type {l kt:List UInt8} {y:Wf.Sc × Wf.K} {z:Wf.Sc × Wf.Ty} (hk:aX l kt=some y) (hz:bC l (nmL kt)=some z):z.1=y.1/\y.2=.ref (nmL kt)/\y.1.find (nmL kt)=some z.2:=by
 obtain⟨h1,h2,_,_,_⟩:=iA hk;obtain⟨z1,z2⟩:=z;obtain⟨h3,hx,h5,h6⟩:=fL hz;rw[h1] at h3;have hz1:y.1=z1:=Option.some.inj h3;have hne:nmL kt≠[]:=fun e=>by
  have h7:=(Wf.bI h5).2;have h8:=(hx.tys _ h6).name;rw[h7,e] at h8;exact absurd h8 (by decide)
 subst hz1;refine⟨rfl,?_,h5⟩;unfold nmL at hne ⊢;rw[h2] at hne ⊢;cases hy:y.2 <;> rw[hy] at hne <;> first|rfl|exact absurd rfl hne
