/- Packed. -/
import Derived.Test.YtmdacedmjbiekaaGreatDoorA32
set_option maxRecDepth 99999
set_option maxHeartbeats 40000000
set_option linter.all false
namespace Go.Proofs.YtmdacedmjbiekaaGreatDoor
open Go.ChangeShapes Go.WideShapes Go.ChangeAt Go.RowKit Go.Lib
theorem a2C (x:Wf.Sc) (rb sb:Nat) (W:World) (n:Nat) (nm:List UInt8) (hnm:nm.length<=1000000) (s:List UInt8) (w:World) (lo mb tb:Nat) (hW:Below W.heap.size W w) (hWr:W.heap.size<=rb) (hsb:sb<W.heap.size) (c1:W.cell? ⟨sb,1,none⟩=some (.map (some mb))) (look:∀ wz,Below W.heap.size W wz->(Instr.lookup 129 (.map (some mb)) (.string ⟨nm.toArray⟩) false).run Tryz.prog wz=.ok (ptr tb) wz)
  (hof:∀ w2,Below W.heap.size W w2->Sn w2 rb sb s false->Calls Tryz.prog 143 #[ptr rb,ptr tb] w2 fun e w'=>aS (Wf.parse x (n+1) (.ref nm) s) s rb sb w2 e w') (H:Sn w rb sb s false):Calls Tryz.prog 98 #[ptr rb,kV (.ref nm)] w fun e w'=>aS (Wf.parse x (n+1) (.ref nm) s) s rb sb w e w':=by
 have hrb:=H.lt;have c2:=H.c2;have HH:=hid H;have HW:=hid hW;have HOT:=hid hof;have HLK:=hid look;have HC1:=hid c1;have HSG:=hid fun w2=>sign (.ref nm) w2;obtain⟨NM,hNM⟩:∃ NM:ByteArray,(⟨nm.toArray⟩:ByteArray)=NM:=⟨_,rfl⟩;have hkv:kV (.ref nm)=.agg #[.string ⟨#[]⟩,.string ⟨#[64]⟩,.string NM]:=by rw[<-hNM];rfl
 rw[hkv] at HSG;rw[hkv];rw[hNM] at HLK;have hsn:gJ (.ref nm)=0:=rfl;rw[hsn] at HSG;have ST:=hid fun W1 h=>eQ w ⟨#[]⟩ ⟨#[64]⟩ NM W1 h;have hsw:sb<w.heap.size:=Nat.lt_of_lt_of_le hsb hW.size;clear H hW hof look c1 hNM hkv hsn;go_enter Tryz.func98,Tryz.ntmps98;go_wp2_with (go_at_call 122;obtain⟨d0,d1,d2,z0,b0⟩:=ST.out _ rfl;refine(HSG.out _).mono ?_;rintro e w1 ⟨rfl,hb1⟩;have b01:=aC b0 hb1;have hz:=Nat.lt_of_lt_of_le (Nat.lt_succ_self _) (Nat.le_of_lt z0.lt);have e0:=(hb1.cell (p:=⟨w.heap.size,0,none⟩) hz).trans d0;have e1:=(hb1.cell (p:=⟨w.heap.size,1,none⟩) hz).trans d1;have e2:=(hb1.cell (p:=⟨w.heap.size,2,none⟩) hz).trans d2;have S1:=hid (HH.out.below b01);have HB1:=hid (aA.aI (rb:=rb) b01 (Nat.le_refl _));have Z1:=hid (z0.below hb1 z0.lt);have BW1:=hid (aA.below HW.out HW.out.size hWr HB1.out);have s0:=S1.out.c0;have m1:=(BW1.out.cell (p:=⟨sb,1,none⟩) hsb).trans HC1.out;have hz1:=Nat.lt_of_lt_of_le hz hb1.size;have hs1:=S1.out.lt;have hsb1:=Nat.lt_of_lt_of_le hsw HB1.out.size;have l0:=HLK.out w1 BW1.out;have l1:=HLK.out w1.drew BW1.out.drew;clear hb1 b01 b0 d0 d1 d2 z0 hz)
 go_region_held3 (fun w'=>w'.cell? ⟨rb,0,none⟩=some (ptr sb)/\w'.cell? ⟨sb,1,none⟩=some (.map (some mb))/\w'.cell? ⟨w.heap.size,2,none⟩=some (.string NM)/\(Instr.lookup 129 (.map (some mb)) (.string NM) false).run Tryz.prog w'=.ok (ptr tb) w') (first|exact⟨j0,j1,j2,j3⟩|(refine FK.out _ ?_;repeat (first|with_reducible exact Below.refl _ _|with_reducible refine Below.setCell ?_ (by show w.heap.size+1<=w.heap.size+1;omega) _))|go_keep) ((go_at_call 143;refine(HOT.out _ BW1.out.drew (S1.out.drewN 1)).mono ?_;rintro e w3 ⟨cs,v,r,rfl,hvc,hb3,ho⟩;obtain⟨q2,g2,n2,c2,T2,a2,rfl⟩:=hvc.cF;have HVC:=hid hvc;have HO:=hid ho;have HB3:=hid (HB1.out.trans ((aA.drew (aA.refl rb w1)).trans hb3));have Z3:=hid (Z1.out.step ((aA.drew (aA.refl rb w1)).trans hb3) (by omega));obtain⟨zl,zr0,zr1,zr2,zr3,zf0,zf1,zf2,zf3⟩:=Z3.out;have BW3:=hid (aA.below HW.out HW.out.size hWr HB3.out);have j0:w3.cell? ⟨rb,0,none⟩=some (ptr sb):=(by rcases ho with⟨_,h⟩|⟨_,_,h⟩ <;> exact h.c0);have j1:=(BW3.out.cell (p:=⟨sb,1,none⟩) hsb).trans HC1.out;have j2:w3.cell? ⟨w.heap.size,2,none⟩=some (.string NM):=(hb3.cell (p:=⟨w.heap.size,2,none⟩) hz1 (by show w.heap.size≠rb;omega)).trans e2;have j3:=HLK.out w3 BW3.out;have FK:=hid fun(wz:World) (hz:Below (w.heap.size+1) w3 wz)=>(show wz.cell? ⟨rb,0,none⟩=some (ptr sb)/\wz.cell? ⟨sb,1,none⟩=some (.map (some mb))/\wz.cell? ⟨w.heap.size,2,none⟩=some (.string NM)/\(Instr.lookup 129 (.map (some mb)) (.string NM) false).run Tryz.prog wz=.ok (ptr tb) wz from⟨(hz.cell (p:=⟨rb,0,none⟩) (by show rb<w.heap.size+1;omega)).trans j0,(hz.cell (p:=⟨sb,1,none⟩) (by show sb<w.heap.size+1;omega)).trans j1,(hz.cell (p:=⟨w.heap.size,2,none⟩) (by show w.heap.size<w.heap.size+1;omega)).trans j2,HLK.out wz (BW3.out.trans (hz.mono (by have:=HW.out.size;omega)))⟩);clear hvc ho hb3))
 all_goals (go_wp2_with fail)
 all_goals exact bodyPost_ret (v:=.agg #[.int .u8 q2,.string T2,.int .i64 g2,.slice a2 n2 c2]) (by simp[results,Tryz.results98,go_sem, *]) rfl (by
  have hR:∀ W4,aA (w.heap.size+1) w3 W4->aS (Wf.parse x (n+1) (.ref nm) s) s rb sb w (.returned (.agg #[.int .u8 q2,.string T2,.int .i64 g2,.slice a2 n2 c2])) W4:=fun W4 hb=>by
   refine⟨[.int .u8 q2,.string T2,.int .i64 g2,.slice a2 n2 c2],v,r,rfl,VC.keep (P:=fun b=>w1.heap.size<=b) (fun b hp hlt=>⟨Nat.le_trans HB1.out.size hp,hb.block b hlt (by have h1:w1.heap.size<=b:=hp;have h2:=Z1.out.lt;omega)⟩) hb.size _ _ HVC.out,HB3.out.on hb (by omega),?_⟩;rcases HO.out with⟨hp,sn⟩|⟨hp,hbv,sn⟩
   ·exact .inl ⟨hp,sn.beside hb (by omega)⟩
   ·exact .inr ⟨hp,hbv,sn.beside hb (by omega)⟩
  refine hR _ ?_;repeat (first|with_reducible exact aA.refl _ _|with_reducible refine aA.drew ?_|with_reducible refine aA.trans ?_ (aA.set _ _ _ _)))
theorem KOk.list {x:Wf.Sc} {k:Wf.K} (h:KOk x (.list k)):KOk x k:=⟨by have:=h.len;simp[Wf.K.text] at this;omega,h.ref⟩
theorem KOk.opt {x:Wf.Sc} {k:Wf.K} (h:KOk x (.opt k)):KOk x k:=⟨by have:=h.len;simp[Wf.K.text] at this;omega,h.ref⟩
theorem KOk.fld {x:Wf.Sc} (hx:Wf.ScOk x) {t:Wf.Ty} (ht:t∈x) (h69:t.sort≠69) {f:Wf.Fd} (hf:f∈t.fields):KOk x f.kind:=⟨dQ ((hx.tys t ht).fds f hf),hx.refs t ht h69 f hf⟩
theorem value (x:Wf.Sc) (hx:Wf.ScOk x) (lo rb sb:Nat) (W:World) (hsc:ScL W lo sb x) (hWr:W.heap.size<=rb):∀ (n:Nat) (k:Wf.K),KOk x k->Reads x rb sb W n k:=by
 intro n;induction n with
 | zero=>intro k _ s w _ _ h;omega
 | succ n ih =>
  intro k hk s w hW H hn h400;cases k with
  | num=>exact a3N rb sb s w x n h400 H
  | txt=>exact a8F rb sb s w x n h400 H
  | flag=>exact a7C rb sb s w x n H
  | list k=>exact a3H x rb sb W n k s w hW hWr (ih k hk.list) hn h400 H
  | opt k =>
   cases s with
   | nil=>exact pO x rb sb W n k [] w (by simp) (by simp) hW hWr H
   | cons a r =>
    by_cases h45:a=45
    ·subst h45;exact a8Y x rb sb n k r w H
    ·by_cases h43:a=43
     ·subst h43
      exact a7A x rb sb W n k r w hW hWr (ih k hk.opt) (by simp at hn;omega) (by simp at h400;omega) H
     ·exact pO x rb sb W n k (a::r) w (by simpa using h45) (by simpa using h43) hW hWr H
  | ref nm =>
   obtain⟨mb,hsz,hc1,hnm⟩:=hsc.named;obtain⟨t,ht⟩:=Option.isSome_iff_exists.1 (show(x.find nm).isSome=true by simpa[Wf.aO,Wf.K.base,Wf.K.name] using hk.ref);have hnl:nm.length<=12:=(by have:=iF (.ref nm);have h2:=hk.len;simp only[Wf.K.name] at this;omega);rcases hnm ⟨nm.toArray⟩ (by rw[aV];omega) with⟨h0,_⟩|⟨t',b,h1,hT,hl⟩
   ·rw[show(⟨nm.toArray⟩:ByteArray).data.toList=nm from rfl,ht] at h0;cases h0
   rw[show(⟨nm.toArray⟩:ByteArray).data.toList=nm from rfl,ht] at h1;obtain rfl:t=t':=Option.some.inj h1;have hm:=(Wf.aY ht).1;exact a2C x rb sb W n nm (by omega) s w lo mb b hW hWr hsz hc1 hl (fun w2 hb hs=>ofType x rb sb W n t nm w2 s hx hm ht lo b hb hsc hT hWr (fun h69 f hf=>ih f.kind (KOk.fld hx hm h69 hf)) hn h400 hs) H
