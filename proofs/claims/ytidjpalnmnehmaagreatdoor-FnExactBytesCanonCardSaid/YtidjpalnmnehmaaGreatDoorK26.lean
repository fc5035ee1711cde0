/- Packed. -/
import Derived.Test.YtidjpalnmnehmaaGreatDoorK25
import Derived.WalkSmall
import Derived.Lib.PathFns
import Derived.Laws.Cover1
import Derived.Defers
set_option maxRecDepth 99999
set_option maxHeartbeats 40000000
set_option linter.all false
namespace Go.Proofs.YtidjpalnmnehmaaGreatDoor
open Go.ChangeShapes Go.WideShapes Go.ChangeAt Go.RowKit Go.Lib
theorem vZ (x:Wf.Sc) (rb sb:Nat) (W:World) (n:Nat) (nm:List UInt8) (hnm:nm.length<=1000000) (s:List UInt8) (w:World) (lo mb tb:Nat) (hW:Below W.heap.size W w) (hWr:W.heap.size<=rb) (hsb:sb<W.heap.size) (c1:W.cell? ⟨sb,1,none⟩=some (.map (some mb))) (look:∀ wz,Below W.heap.size W wz->(Instr.lookup 114 (.map (some mb)) (.string ⟨nm.toArray⟩) false).run Tryz.prog wz=.ok (ptr tb) wz)
  (hof:∀ w2,Below W.heap.size W w2->Sn w2 rb sb s false->Calls Tryz.prog 116 #[ptr rb,ptr tb] w2 fun e w'=>aP (Wf.parse x (n+1) (.ref nm) s) s rb sb w2 e w') (H:Sn w rb sb s false):Calls Tryz.prog 74 #[ptr rb,kV (.ref nm)] w fun e w'=>aP (Wf.parse x (n+1) (.ref nm) s) s rb sb w e w':=by
 have hrb:=H.lt;have c2:=H.c2;have HH:=hid H;have HW:=hid hW;have HOT:=hid hof;have HLK:=hid look;have HC1:=hid c1;have HSG:=hid fun w2=>sign (.ref nm) w2;obtain⟨NM,hNM⟩:∃ NM:ByteArray,(⟨nm.toArray⟩:ByteArray)=NM:=⟨_,rfl⟩;have hkv:kV (.ref nm)=.agg #[.string ⟨#[]⟩,.string ⟨#[64]⟩,.string NM]:=by rw[<-hNM];rfl
 rw[hkv] at HSG;rw[hkv];rw[hNM] at HLK;have hsn:bX (.ref nm)=0:=rfl;rw[hsn] at HSG;have ST:=hid fun W1 h=>eI w ⟨#[]⟩ ⟨#[64]⟩ NM W1 h;have hsw:sb<w.heap.size:=zaC hsb hW.size;clear H hW hof look c1 hNM hkv hsn;go_enter Tryz.func74,Tryz.ntmps74;go_wp2_with (go_at_call 95;obtain⟨d0,d1,d2,z0,b0⟩:=ST.out _ rfl;refine(HSG.out _).mono ?_;rintro e w1 ⟨rfl,hb1⟩;have b01:=aC b0 hb1;have hz:=zaC (zaH _) (Nat.le_of_lt z0.lt);have e0:=(hb1.cell (p:=⟨w.heap.size,0,none⟩) hz).trans d0;have e1:=(hb1.cell (p:=⟨w.heap.size,1,none⟩) hz).trans d1;have e2:=(hb1.cell (p:=⟨w.heap.size,2,none⟩) hz).trans d2;have S1:=hid (HH.out.below b01);have HB1:=hid (aA.aF (rb:=rb) b01 (zaA));have Z1:=hid (z0.below hb1 z0.lt);have BW1:=hid (aA.below HW.out HW.out.size hWr HB1.out);have s0:=S1.out.c0;have m1:=(BW1.out.cell (p:=⟨sb,1,none⟩) hsb).trans HC1.out;have hz1:=zaC hz hb1.size;have hs1:=S1.out.lt;have hsb1:=zaC hsw HB1.out.size;have l0:=HLK.out w1 BW1.out;have l1:=HLK.out w1.drew BW1.out.drew;clear hb1 b01 b0 d0 d1 d2 z0 hz)
 go_region_held3 (fun w'=>w'.cell? ⟨rb,0,none⟩=some (ptr sb)/\w'.cell? ⟨sb,1,none⟩=some (.map (some mb))/\w'.cell? ⟨w.heap.size,2,none⟩=some (.string NM)/\(Instr.lookup 114 (.map (some mb)) (.string NM) false).run Tryz.prog w'=.ok (ptr tb) w') (first|exact⟨j0,j1,j2,j3⟩|(refine FK.out _ ?_;repeat (first|with_reducible exact zaB|with_reducible refine zbF ?_ (by show w.heap.size+1<=w.heap.size+1;omega) _))|go_keep) ((go_at_call 116;refine(HOT.out _ BW1.out.drew (S1.out.drewN 1)).mono ?_;rintro e w3 ⟨cs,v,r,rfl,hvc,hb3,ho⟩;obtain⟨q2,g2,n2,c2,T2,a2,rfl⟩:=hvc.aY;have HVC:=hid hvc;have HO:=hid ho;have HB3:=hid (HB1.out.trans ((aA.drew (aA.refl rb w1)).trans hb3));have Z3:=hid (Z1.out.step ((aA.drew (aA.refl rb w1)).trans hb3) (by omega));obtain⟨zl,zr0,zr1,zr2,zr3,zf0,zf1,zf2,zf3⟩:=Z3.out;have BW3:=hid (aA.below HW.out HW.out.size hWr HB3.out);have j0:w3.cell? ⟨rb,0,none⟩=some (ptr sb):=(by rcases ho with⟨_,h⟩|⟨_,_,h⟩ <;> exact h.c0);have j1:=(BW3.out.cell (p:=⟨sb,1,none⟩) hsb).trans HC1.out;have j2:w3.cell? ⟨w.heap.size,2,none⟩=some (.string NM):=(hb3.cell (p:=⟨w.heap.size,2,none⟩) hz1 (by show w.heap.size≠rb;omega)).trans e2;have j3:=HLK.out w3 BW3.out;have FK:=hid fun(wz:World) (hz:Below (w.heap.size+1) w3 wz)=>(show wz.cell? ⟨rb,0,none⟩=some (ptr sb)/\wz.cell? ⟨sb,1,none⟩=some (.map (some mb))/\wz.cell? ⟨w.heap.size,2,none⟩=some (.string NM)/\(Instr.lookup 114 (.map (some mb)) (.string NM) false).run Tryz.prog wz=.ok (ptr tb) wz from⟨(hz.cell (p:=⟨rb,0,none⟩) (by show rb<w.heap.size+1;omega)).trans j0,(hz.cell (p:=⟨sb,1,none⟩) (by show sb<w.heap.size+1;omega)).trans j1,(hz.cell (p:=⟨w.heap.size,2,none⟩) (by show w.heap.size<w.heap.size+1;omega)).trans j2,HLK.out wz (BW3.out.trans (hz.mono (by have:=HW.out.size;omega)))⟩);clear hvc ho hb3))
 all_goals (go_wp2_with fail)
 all_goals exact zbD (v:=.agg #[.int .u8 q2,.string T2,.int .i64 g2,.slice a2 n2 c2]) (by simp[results,Tryz.results74,go_sem, *]) rfl (by
  have hR:∀ W4,aA (w.heap.size+1) w3 W4->aP (Wf.parse x (n+1) (.ref nm) s) s rb sb w (.returned (.agg #[.int .u8 q2,.string T2,.int .i64 g2,.slice a2 n2 c2])) W4:=fun W4 hb=>by
   refine⟨[.int .u8 q2,.string T2,.int .i64 g2,.slice a2 n2 c2],v,r,rfl,VC.keep (P:=fun b=>w1.heap.size<=b) (fun b hp hlt=>⟨zaI HB1.out.size hp,hb.block b hlt (by have h1:w1.heap.size<=b:=hp;have h2:=Z1.out.lt;omega)⟩) hb.size _ _ HVC.out,HB3.out.on hb (by omega),?_⟩;rcases HO.out with⟨hp,sn⟩|⟨hp,hbv,sn⟩
   ·exact .inl ⟨hp,sn.beside hb (by omega)⟩
   ·exact .inr ⟨hp,hbv,sn.beside hb (by omega)⟩
  refine hR _ ?_;repeat (first|with_reducible exact aA.refl _ _|with_reducible refine aA.drew ?_|with_reducible refine aA.trans ?_ (aA.set _ _ _ _)))
theorem KOk.list {x:Wf.Sc} {k:Wf.K} (h:KOk x (.list k)):KOk x k:=⟨by have:=h.len;simp[Wf.K.text] at this;omega,h.ref⟩
theorem KOk.opt {x:Wf.Sc} {k:Wf.K} (h:KOk x (.opt k)):KOk x k:=⟨by have:=h.len;simp[Wf.K.text] at this;omega,h.ref⟩
theorem KOk.fld {x:Wf.Sc} (hx:Wf.ScOk x) {t:Wf.Ty} (ht:t∈x) (h69:t.sort≠69) {f:Wf.Fd} (hf:f∈t.fields):KOk x f.kind:=⟨eV ((hx.tys t ht).fds f hf),hx.refs t ht h69 f hf⟩
theorem value (x:Wf.Sc) (hx:Wf.ScOk x) (lo rb sb:Nat) (W:World) (hsc:ScL W lo sb x) (hWr:W.heap.size<=rb):∀ (n:Nat) (k:Wf.K),KOk x k->Reads x rb sb W n k:=by
 intro n;induction n with
 | zero=>intro k _ s w _ _ h;omega
 | succ n ih =>
  intro k hk s w hW H hn h400;cases k with
  | num=>exact a2Y rb sb s w x n h400 H
  | txt=>exact xS rb sb s w x n h400 H
  | flag=>exact a0U rb sb s w x n H
  | list k=>exact sY x rb sb W n k s w hW hWr (ih k hk.list) hn h400 H
  | opt k =>
   cases s with
   | nil=>exact rD x rb sb W n k [] w (by simp) (by simp) hW hWr H
   | cons a r =>
    by_cases h45:a=45
    ·subst h45;exact a0G x rb sb n k r w H
    ·by_cases h43:a=43
     ·subst h43
      exact a3E x rb sb W n k r w hW hWr (ih k hk.opt) (by simp at hn;omega) (by simp at h400;omega) H
     ·exact rD x rb sb W n k (a::r) w (by simpa using h45) (by simpa using h43) hW hWr H
  | ref nm =>
   obtain⟨mb,hsz,hc1,hnm⟩:=hsc.named;obtain⟨t,ht⟩:=Option.isSome_iff_exists.1 (show(x.find nm).isSome=true by simpa[Wf.aL,Wf.K.base,Wf.K.name] using hk.ref);have hnl:nm.length<=12:=(by have:=fP (.ref nm);have h2:=hk.len;simp only[Wf.K.name] at this;omega);rcases hnm ⟨nm.toArray⟩ (by rw[aR];omega) with⟨h0,_⟩|⟨t',b,h1,hT,hl⟩
   ·rw[show(⟨nm.toArray⟩:ByteArray).data.toList=nm from rfl,ht] at h0;cases h0
   rw[show(⟨nm.toArray⟩:ByteArray).data.toList=nm from rfl,ht] at h1;obtain rfl:t=t':=Option.some.inj h1;have hm:=(Wf.cE ht).1;exact vZ x rb sb W n nm (by omega) s w lo mb b hW hWr hsz hc1 hl (fun w2 hb hs=>ofType x rb sb W n t nm w2 s hx hm ht lo b hb hsc hT hWr (fun h69 f hf=>ih f.kind (KOk.fld hx hm h69 hf)) hn h400 hs) H
end Go.Proofs.YtidjpalnmnehmaaGreatDoor

namespace Go.Proofs.YtidjpalnmnehmaaGreatDoor
open Go.ChangeShapes Go.WideShapes Go.ChangeAt Go.RowKit Go.Lib Go.Lib.Pa
theorem ngi_e0 (s:ByteArray) (w:World) (_hl:s.size<=9223372036854775807) (h0:s.size=0) :
  Calls Tryz.prog 71 #[.string s] w fun e w'=>e=.returned (.tuple #[.int .i64 0,.string ⟨#[]⟩,.bool false])/\∃ n,w'=w.drewN n:=by
 go_enter Tryz.func71,Tryz.ntmps71;go_wp2;refine wp_loop_rounds 4 ?_;rw[rounds_succ];go_wp2;all_goals go_ret3
 all_goals exact⟨rfl,0,rfl⟩
theorem ngi_y0 (s:ByteArray) (w:World) (_hl:s.size<=9223372036854775807) (h1:1<=s.size) (a:Nat) (e0:∀ h,(s[0]'h).toNat=a) (ha:a<128) :
  Calls Tryz.prog 71 #[.string s] w fun e w'=>e=.returned (.tuple #[.int .i64 ((a:Int) % 128),.string (s.extract 1 s.size),.bool true])/\∃ n,w'=w.drewN n:=by
 go_enter Tryz.func71,Tryz.ntmps71;go_wp2;refine wp_loop_rounds 4 ?_;rw[rounds_succ];go_wp2;go_region
 go_wp2;all_goals go_ret3
 all_goals exact⟨rfl,1,rfl⟩
theorem ngi_e1 (s:ByteArray) (w:World) (_hl:s.size<=9223372036854775807) (h1:s.size=1) (a:Nat) (e0:∀ h,(s[0]'h).toNat=a) (ha:128<=a) (ha2:a<256) :
  Calls Tryz.prog 71 #[.string s] w fun e w'=>e=.returned (.tuple #[.int .i64 0,.string ⟨#[]⟩,.bool false])/\∃ n,w'=w.drewN n:=by
 go_enter Tryz.func71,Tryz.ntmps71;go_wp2;refine wp_loop_rounds 4 ?_;rw[rounds_succ];go_wp2;rw[rounds_succ];go_wp2;all_goals go_ret3
 all_goals exact⟨rfl,0,rfl⟩
theorem ngi_z1 (s:ByteArray) (w:World) (_hl:s.size<=9223372036854775807) (h2:2<=s.size) (a:Nat) (e0:∀ h,(s[0]'h).toNat=a) (ha:128<=a) (ha2:a<256) (e1:∀ h,(s[1]'h).toNat=0) :
  Calls Tryz.prog 71 #[.string s] w fun e w'=>e=.returned (.tuple #[.int .i64 0,.string ⟨#[]⟩,.bool false])/\∃ n,w'=w.drewN n:=by
 go_enter Tryz.func71,Tryz.ntmps71;go_wp2;refine wp_loop_rounds 4 ?_;rw[rounds_succ];go_wp2;rw[rounds_succ];go_wp2;all_goals go_ret3
 all_goals exact⟨rfl,0,rfl⟩
theorem ngi_y1 (s:ByteArray) (w:World) (_hl:s.size<=9223372036854775807) (h2:2<=s.size) (a:Nat) (e0:∀ h,(s[0]'h).toNat=a) (ha:128<=a) (ha2:a<256) (b:Nat) (e1:∀ h,(s[1]'h).toNat=b) (hb:b<128) (hb0:0<b) :
  Calls Tryz.prog 71 #[.string s] w fun e w'=>e=.returned (.tuple #[.int .i64 ((a:Int) % 128+(b:Int) % 128*128),.string (s.extract 2 s.size),.bool true])/\∃ n,w'=w.drewN n:=by
 have hq:((b:Int)==0)=false:=by rw[zaJ];omega
 go_enter Tryz.func71,Tryz.ntmps71;go_wp2;refine wp_loop_rounds 4 ?_;rw[rounds_succ];go_wp2;rw[rounds_succ];go_wp2;go_region
 go_wp2;all_goals go_ret3
 all_goals exact⟨rfl,1,rfl⟩
theorem ngi_e2 (s:ByteArray) (w:World) (_hl:s.size<=9223372036854775807) (h2:s.size=2) (a:Nat) (e0:∀ h,(s[0]'h).toNat=a) (ha:128<=a) (ha2:a<256) (b:Nat) (e1:∀ h,(s[1]'h).toNat=b) (hb:128<=b) (hb2:b<256) :
  Calls Tryz.prog 71 #[.string s] w fun e w'=>e=.returned (.tuple #[.int .i64 0,.string ⟨#[]⟩,.bool false])/\∃ n,w'=w.drewN n:=by
 go_enter Tryz.func71,Tryz.ntmps71;go_wp2;refine wp_loop_rounds 4 ?_;rw[rounds_succ];go_wp2;rw[rounds_succ];go_wp2;rw[rounds_succ];go_wp2;all_goals go_ret3
 all_goals exact⟨rfl,0,rfl⟩
theorem ngi_z2 (s:ByteArray) (w:World) (_hl:s.size<=9223372036854775807) (h2:3<=s.size) (a:Nat) (e0:∀ h,(s[0]'h).toNat=a) (ha:128<=a) (ha2:a<256) (b:Nat) (e1:∀ h,(s[1]'h).toNat=b) (hb:128<=b) (hb2:b<256) (e2:∀ h,(s[2]'h).toNat=0) :
  Calls Tryz.prog 71 #[.string s] w fun e w'=>e=.returned (.tuple #[.int .i64 0,.string ⟨#[]⟩,.bool false])/\∃ n,w'=w.drewN n:=by
 go_enter Tryz.func71,Tryz.ntmps71;go_wp2;refine wp_loop_rounds 4 ?_;rw[rounds_succ];go_wp2;rw[rounds_succ];go_wp2;rw[rounds_succ];go_wp2;all_goals go_ret3
 all_goals exact⟨rfl,0,rfl⟩
theorem ngi_b2 (s:ByteArray) (w:World) (_hl:s.size<=9223372036854775807) (h2:3<=s.size) (a:Nat) (e0:∀ h,(s[0]'h).toNat=a) (ha:128<=a) (ha2:a<256) (b:Nat) (e1:∀ h,(s[1]'h).toNat=b) (hb:128<=b) (hb2:b<256) (c:Nat) (e2:∀ h,(s[2]'h).toNat=c) (hc:c<128) (hc0:0<c) (hbig:999999<(a:Int) % 128+(b:Int) % 128*128+(c:Int) % 128*16384) :
  Calls Tryz.prog 71 #[.string s] w fun e w'=>e=.returned (.tuple #[.int .i64 0,.string ⟨#[]⟩,.bool false])/\∃ n,w'=w.drewN n:=by
 have hq:((c:Int)==0)=false:=by rw[zaJ];omega
 go_enter Tryz.func71,Tryz.ntmps71;go_wp2;refine wp_loop_rounds 4 ?_;rw[rounds_succ];go_wp2;rw[rounds_succ];go_wp2;rw[rounds_succ];go_wp2;all_goals go_ret3
 all_goals exact⟨rfl,0,rfl⟩
theorem ngi_y2 (s:ByteArray) (w:World) (_hl:s.size<=9223372036854775807) (h2:3<=s.size) (a:Nat) (e0:∀ h,(s[0]'h).toNat=a) (ha:128<=a) (ha2:a<256) (b:Nat) (e1:∀ h,(s[1]'h).toNat=b) (hb:128<=b) (hb2:b<256) (c:Nat) (e2:∀ h,(s[2]'h).toNat=c) (hc:c<128) (hc0:0<c) (hbig:(a:Int) % 128+(b:Int) % 128*128+(c:Int) % 128*16384<=999999) :
  Calls Tryz.prog 71 #[.string s] w fun e w'=>e=.returned (.tuple #[.int .i64 ((a:Int) % 128+(b:Int) % 128*128+(c:Int) % 128*16384),.string (s.extract 3 s.size),.bool true])/\∃ n,w'=w.drewN n:=by
 have hq:((c:Int)==0)=false:=by rw[zaJ];omega
 go_enter Tryz.func71,Tryz.ntmps71;go_wp2;refine wp_loop_rounds 4 ?_;rw[rounds_succ];go_wp2;rw[rounds_succ];go_wp2;rw[rounds_succ];go_wp2;go_region
 go_wp2;all_goals go_ret3
 all_goals exact⟨rfl,1,rfl⟩
theorem ngi_e3 (s:ByteArray) (w:World) (_hl:s.size<=9223372036854775807) (h2:3<=s.size) (a:Nat) (e0:∀ h,(s[0]'h).toNat=a) (ha:128<=a) (ha2:a<256) (b:Nat) (e1:∀ h,(s[1]'h).toNat=b) (hb:128<=b) (hb2:b<256) (c:Nat) (e2:∀ h,(s[2]'h).toNat=c) (hc:128<=c) (hc2:c<256) :
  Calls Tryz.prog 71 #[.string s] w fun e w'=>e=.returned (.tuple #[.int .i64 0,.string ⟨#[]⟩,.bool false])/\∃ n,w'=w.drewN n:=by
 go_enter Tryz.func71,Tryz.ntmps71;go_wp2;refine wp_loop_rounds 4 ?_;rw[rounds_succ];go_wp2;rw[rounds_succ];go_wp2;rw[rounds_succ];go_wp2;rw[rounds_succ];go_wp2;all_goals go_ret3
 all_goals exact⟨rfl,0,rfl⟩
theorem ngs_e0 (s:ByteArray) (w:World) (_hl:s.size<=9223372036854775807) (h0:s.size=0) :
  Calls Tryz.prog 140 #[.string s] w fun e w'=>e=.returned (.tuple #[.int .i64 0,.string ⟨#[]⟩,.bool false])/\∃ n,w'=w.drewN n:=by
 go_enter Tryz.func140,Tryz.ntmps140;go_wp2;refine wp_loop_rounds 4 ?_;rw[rounds_succ];go_wp2;all_goals go_ret3
 all_goals exact⟨rfl,0,rfl⟩
theorem ngs_y0 (s:ByteArray) (w:World) (_hl:s.size<=9223372036854775807) (h1:1<=s.size) (a:Nat) (e0:∀ h,(s[0]'h).toNat=a) (ha:a<128) :
  Calls Tryz.prog 140 #[.string s] w fun e w'=>e=.returned (.tuple #[.int .i64 ((a:Int) % 128),.string (s.extract 1 s.size),.bool true])/\∃ n,w'=w.drewN n:=by
 go_enter Tryz.func140,Tryz.ntmps140;go_wp2;refine wp_loop_rounds 4 ?_;rw[rounds_succ];go_wp2;go_region
 go_wp2;all_goals go_ret3
 all_goals exact⟨rfl,1,rfl⟩
theorem ngs_e1 (s:ByteArray) (w:World) (_hl:s.size<=9223372036854775807) (h1:s.size=1) (a:Nat) (e0:∀ h,(s[0]'h).toNat=a) (ha:128<=a) (ha2:a<256) :
  Calls Tryz.prog 140 #[.string s] w fun e w'=>e=.returned (.tuple #[.int .i64 0,.string ⟨#[]⟩,.bool false])/\∃ n,w'=w.drewN n:=by
 go_enter Tryz.func140,Tryz.ntmps140;go_wp2;refine wp_loop_rounds 4 ?_;rw[rounds_succ];go_wp2;rw[rounds_succ];go_wp2;all_goals go_ret3
 all_goals exact⟨rfl,0,rfl⟩
theorem ngs_z1 (s:ByteArray) (w:World) (_hl:s.size<=9223372036854775807) (h2:2<=s.size) (a:Nat) (e0:∀ h,(s[0]'h).toNat=a) (ha:128<=a) (ha2:a<256) (e1:∀ h,(s[1]'h).toNat=0) :
  Calls Tryz.prog 140 #[.string s] w fun e w'=>e=.returned (.tuple #[.int .i64 0,.string ⟨#[]⟩,.bool false])/\∃ n,w'=w.drewN n:=by
 go_enter Tryz.func140,Tryz.ntmps140;go_wp2;refine wp_loop_rounds 4 ?_;rw[rounds_succ];go_wp2;rw[rounds_succ];go_wp2;all_goals go_ret3
 all_goals exact⟨rfl,0,rfl⟩
theorem ngs_y1 (s:ByteArray) (w:World) (_hl:s.size<=9223372036854775807) (h2:2<=s.size) (a:Nat) (e0:∀ h,(s[0]'h).toNat=a) (ha:128<=a) (ha2:a<256) (b:Nat) (e1:∀ h,(s[1]'h).toNat=b) (hb:b<128) (hb0:0<b) :
  Calls Tryz.prog 140 #[.string s] w fun e w'=>e=.returned (.tuple #[.int .i64 ((a:Int) % 128+(b:Int) % 128*128),.string (s.extract 2 s.size),.bool true])/\∃ n,w'=w.drewN n:=by
 have hq:((b:Int)==0)=false:=by rw[zaJ];omega
 go_enter Tryz.func140,Tryz.ntmps140;go_wp2;refine wp_loop_rounds 4 ?_;rw[rounds_succ];go_wp2;rw[rounds_succ];go_wp2;go_region
 go_wp2;all_goals go_ret3
 all_goals exact⟨rfl,1,rfl⟩
theorem ngs_e2 (s:ByteArray) (w:World) (_hl:s.size<=9223372036854775807) (h2:s.size=2) (a:Nat) (e0:∀ h,(s[0]'h).toNat=a) (ha:128<=a) (ha2:a<256) (b:Nat) (e1:∀ h,(s[1]'h).toNat=b) (hb:128<=b) (hb2:b<256) :
  Calls Tryz.prog 140 #[.string s] w fun e w'=>e=.returned (.tuple #[.int .i64 0,.string ⟨#[]⟩,.bool false])/\∃ n,w'=w.drewN n:=by
 go_enter Tryz.func140,Tryz.ntmps140;go_wp2;refine wp_loop_rounds 4 ?_;rw[rounds_succ];go_wp2;rw[rounds_succ];go_wp2;rw[rounds_succ];go_wp2;all_goals go_ret3
 all_goals exact⟨rfl,0,rfl⟩
theorem ngs_z2 (s:ByteArray) (w:World) (_hl:s.size<=9223372036854775807) (h2:3<=s.size) (a:Nat) (e0:∀ h,(s[0]'h).toNat=a) (ha:128<=a) (ha2:a<256) (b:Nat) (e1:∀ h,(s[1]'h).toNat=b) (hb:128<=b) (hb2:b<256) (e2:∀ h,(s[2]'h).toNat=0) :
  Calls Tryz.prog 140 #[.string s] w fun e w'=>e=.returned (.tuple #[.int .i64 0,.string ⟨#[]⟩,.bool false])/\∃ n,w'=w.drewN n:=by
 go_enter Tryz.func140,Tryz.ntmps140;go_wp2;refine wp_loop_rounds 4 ?_;rw[rounds_succ];go_wp2;rw[rounds_succ];go_wp2;rw[rounds_succ];go_wp2;all_goals go_ret3
 all_goals exact⟨rfl,0,rfl⟩
theorem ngs_b2 (s:ByteArray) (w:World) (_hl:s.size<=9223372036854775807) (h2:3<=s.size) (a:Nat) (e0:∀ h,(s[0]'h).toNat=a) (ha:128<=a) (ha2:a<256) (b:Nat) (e1:∀ h,(s[1]'h).toNat=b) (hb:128<=b) (hb2:b<256) (c:Nat) (e2:∀ h,(s[2]'h).toNat=c) (hc:c<128) (hc0:0<c) (hbig:999999<(a:Int) % 128+(b:Int) % 128*128+(c:Int) % 128*16384) :
  Calls Tryz.prog 140 #[.string s] w fun e w'=>e=.returned (.tuple #[.int .i64 0,.string ⟨#[]⟩,.bool false])/\∃ n,w'=w.drewN n:=by
 have hq:((c:Int)==0)=false:=by rw[zaJ];omega
 go_enter Tryz.func140,Tryz.ntmps140;go_wp2;refine wp_loop_rounds 4 ?_;rw[rounds_succ];go_wp2;rw[rounds_succ];go_wp2;rw[rounds_succ];go_wp2;all_goals go_ret3
 all_goals exact⟨rfl,0,rfl⟩
theorem ngs_y2 (s:ByteArray) (w:World) (_hl:s.size<=9223372036854775807) (h2:3<=s.size) (a:Nat) (e0:∀ h,(s[0]'h).toNat=a) (ha:128<=a) (ha2:a<256) (b:Nat) (e1:∀ h,(s[1]'h).toNat=b) (hb:128<=b) (hb2:b<256) (c:Nat) (e2:∀ h,(s[2]'h).toNat=c) (hc:c<128) (hc0:0<c) (hbig:(a:Int) % 128+(b:Int) % 128*128+(c:Int) % 128*16384<=999999) :
  Calls Tryz.prog 140 #[.string s] w fun e w'=>e=.returned (.tuple #[.int .i64 ((a:Int) % 128+(b:Int) % 128*128+(c:Int) % 128*16384),.string (s.extract 3 s.size),.bool true])/\∃ n,w'=w.drewN n:=by
 have hq:((c:Int)==0)=false:=by rw[zaJ];omega
 go_enter Tryz.func140,Tryz.ntmps140;go_wp2;refine wp_loop_rounds 4 ?_;rw[rounds_succ];go_wp2;rw[rounds_succ];go_wp2;rw[rounds_succ];go_wp2;go_region
 go_wp2;all_goals go_ret3
 all_goals exact⟨rfl,1,rfl⟩
theorem ngs_e3 (s:ByteArray) (w:World) (_hl:s.size<=9223372036854775807) (h2:3<=s.size) (a:Nat) (e0:∀ h,(s[0]'h).toNat=a) (ha:128<=a) (ha2:a<256) (b:Nat) (e1:∀ h,(s[1]'h).toNat=b) (hb:128<=b) (hb2:b<256) (c:Nat) (e2:∀ h,(s[2]'h).toNat=c) (hc:128<=c) (hc2:c<256) :
  Calls Tryz.prog 140 #[.string s] w fun e w'=>e=.returned (.tuple #[.int .i64 0,.string ⟨#[]⟩,.bool false])/\∃ n,w'=w.drewN n:=by
 go_enter Tryz.func140,Tryz.ntmps140;go_wp2;refine wp_loop_rounds 4 ?_;rw[rounds_succ];go_wp2;rw[rounds_succ];go_wp2;rw[rounds_succ];go_wp2;rw[rounds_succ];go_wp2;all_goals go_ret3
 all_goals exact⟨rfl,0,rfl⟩
def getNV (o:Option (Nat × Wf.Bs)):Value :=
 match o with
 | none=>.tuple #[.int .i64 0,.string ⟨#[]⟩,.bool false]
 | some (n,r)=>.tuple #[.int .i64 (n:Int),.string ⟨r.toArray⟩,.bool true]
theorem ret3 {a b:Int} {s t:ByteArray} {x y:Bool} (h1:a=b) (h2:s=t) (h3:x=y):Ending.returned (.tuple #[.int .i64 a,.string s,.bool x])=.returned (.tuple #[.int .i64 b,.string t,.bool y]):=by rw[h1,h2,h3]
theorem byte_fact {s:ByteArray} {l:List UInt8} (hs:s.data.toList=l) {i:Nat} {c:UInt8} (hc:l[i]? = some c):∀ h:i<s.size,(s[i]'h).toNat=c.toNat:=by
 intro h;subst hs;have:s.data.toList[i]? = some (s[i]'h):=by
  rw[Array.getElem?_toList,Array.getElem?_eq_getElem (by exact h)];rfl
 rw[this] at hc;simp only[zaE] at hc;rw[hc]
theorem numGet_impl (s:ByteArray) (w:World) (hl:s.size<=9223372036854775807) :
  Calls Tryz.prog 71 #[.string s] w fun e w'=>e=.returned (getNV (Wf.getN s.data.toList))/\∃ n,w'=w.drewN n:=by
 obtain⟨l,hs⟩:∃ l,s.data.toList=l:=⟨_,rfl⟩;have hsz:s.size=l.length:=by rw[<-hs];exact Array.length_toList.symm
 rw[hs];match l with
 | []=>exact ngi_e0 s w hl (by simpa using hsz)
 | a::r =>
  simp only[zaF] at hsz;have e0:=byte_fact hs (i:=0) (c:=a) rfl;have ha:=a.toNat_lt;by_cases h1:a.toNat<128
  ·have hg:Wf.getN (a::r)=some (a.toNat,r):=by simp[Wf.getN,h1]
   rw[hg];refine(ngi_y0 s w hl (by omega) _ e0 h1).mono fun e w' ⟨he,hw⟩=>⟨?_,hw⟩;rw[he,Go.Lib.Pa.extract_from,hs];exact ret3 (by omega) rfl rfl
  ·match r with
   | [] =>
    have hg:Wf.getN [a]=none:=(by simp[Wf.getN,h1]);rw[hg];exact ngi_e1 s w hl (by simpa using hsz) _ e0 (by omega) ha
   | b::r2 =>
    simp only[zaF] at hsz;have e1:=byte_fact hs (i:=1) (c:=b) rfl;have hb:=b.toNat_lt;by_cases h2:b.toNat<128
    ·by_cases h3:b.toNat=0
     ·have hg:Wf.getN (a::b::r2)=none:=by simp[Wf.getN,h1,h3]
      rw[hg];rw[h3] at e1;exact ngi_z1 s w hl (by omega) _ e0 (by omega) ha e1
     ·have hg:Wf.getN (a::b::r2)=some (a.toNat % 128+b.toNat*128,r2):=by simp[Wf.getN,h1,h2,h3]
      rw[hg];refine(ngi_y1 s w hl (by omega) _ e0 (by omega) ha _ e1 h2 (by omega)).mono fun e w' ⟨he,hw⟩=>⟨?_,hw⟩;rw[he,Go.Lib.Pa.extract_from,hs];exact ret3 (by omega) rfl rfl
    ·match r2 with
     | [] =>
      have hg:Wf.getN [a,b]=none:=(by simp[Wf.getN,h1,h2]);rw[hg];exact ngi_e2 s w hl (by simpa using hsz) _ e0 (by omega) ha _ e1 (by omega) hb
     | c::r3 =>
      simp only[zaF] at hsz;have e2:=byte_fact hs (i:=2) (c:=c) rfl;have hc:=c.toNat_lt;by_cases h4:c.toNat<128
      ·by_cases h5:c.toNat=0
       ·have hg:Wf.getN (a::b::c::r3)=none:=by simp[Wf.getN,h1,h2,h4,h5]
        rw[hg];rw[h5] at e2;exact ngi_z2 s w hl (by omega) _ e0 (by omega) ha _ e1 (by omega) hb e2
       ·by_cases h6:999999<a.toNat % 128+b.toNat % 128*128+c.toNat*16384
        ·have hg:Wf.getN (a::b::c::r3)=none:=by simp only[Wf.getN,if_neg h1,if_neg h2,if_pos h4];rw[if_pos (.inr h6)]
         rw[hg];exact ngi_b2 s w hl (by omega) _ e0 (by omega) ha _ e1 (by omega) hb _ e2 h4 (by omega) (by omega)
        ·have hg:Wf.getN (a::b::c::r3)=some (a.toNat % 128+b.toNat % 128*128+c.toNat*16384,r3):=by simp only[Wf.getN,if_neg h1,if_neg h2,if_pos h4];rw[if_neg (by omega)]
         rw[hg];refine(ngi_y2 s w hl (by omega) _ e0 (by omega) ha _ e1 (by omega) hb _ e2 h4 (by omega) (by omega)).mono fun e w' ⟨he,hw⟩=>⟨?_,hw⟩;rw[he,Go.Lib.Pa.extract_from,hs];exact ret3 (by omega) rfl rfl
      ·have hg:Wf.getN (a::b::c::r3)=none:=by simp[Wf.getN,h1,h2,h4]
       rw[hg];exact ngi_e3 s w hl (by omega) _ e0 (by omega) ha _ e1 (by omega) hb _ e2 (by omega) hc
theorem numGet_spec (s:ByteArray) (w:World) (hl:s.size<=9223372036854775807) :
  Calls Tryz.prog 140 #[.string s] w fun e w'=>e=.returned (getNV (Wf.getN s.data.toList))/\∃ n,w'=w.drewN n:=by
 obtain⟨l,hs⟩:∃ l,s.data.toList=l:=⟨_,rfl⟩;have hsz:s.size=l.length:=by rw[<-hs];exact Array.length_toList.symm
 rw[hs];match l with
 | []=>exact ngs_e0 s w hl (by simpa using hsz)
 | a::r =>
  simp only[zaF] at hsz;have e0:=byte_fact hs (i:=0) (c:=a) rfl;have ha:=a.toNat_lt;by_cases h1:a.toNat<128
  ·have hg:Wf.getN (a::r)=some (a.toNat,r):=by simp[Wf.getN,h1]
   rw[hg];refine(ngs_y0 s w hl (by omega) _ e0 h1).mono fun e w' ⟨he,hw⟩=>⟨?_,hw⟩;rw[he,Go.Lib.Pa.extract_from,hs];exact ret3 (by omega) rfl rfl
  ·match r with
   | [] =>
    have hg:Wf.getN [a]=none:=(by simp[Wf.getN,h1]);rw[hg];exact ngs_e1 s w hl (by simpa using hsz) _ e0 (by omega) ha
   | b::r2 =>
    simp only[zaF] at hsz;have e1:=byte_fact hs (i:=1) (c:=b) rfl;have hb:=b.toNat_lt;by_cases h2:b.toNat<128
    ·by_cases h3:b.toNat=0
     ·have hg:Wf.getN (a::b::r2)=none:=by simp[Wf.getN,h1,h3]
      rw[hg];rw[h3] at e1;exact ngs_z1 s w hl (by omega) _ e0 (by omega) ha e1
     ·have hg:Wf.getN (a::b::r2)=some (a.toNat % 128+b.toNat*128,r2):=by simp[Wf.getN,h1,h2,h3]
      rw[hg];refine(ngs_y1 s w hl (by omega) _ e0 (by omega) ha _ e1 h2 (by omega)).mono fun e w' ⟨he,hw⟩=>⟨?_,hw⟩;rw[he,Go.Lib.Pa.extract_from,hs];exact ret3 (by omega) rfl rfl
    ·match r2 with
     | [] =>
      have hg:Wf.getN [a,b]=none:=(by simp[Wf.getN,h1,h2]);rw[hg];exact ngs_e2 s w hl (by simpa using hsz) _ e0 (by omega) ha _ e1 (by omega) hb
     | c::r3 =>
      simp only[zaF] at hsz;have e2:=byte_fact hs (i:=2) (c:=c) rfl;have hc:=c.toNat_lt;by_cases h4:c.toNat<128
      ·by_cases h5:c.toNat=0
       ·have hg:Wf.getN (a::b::c::r3)=none:=by simp[Wf.getN,h1,h2,h4,h5]
        rw[hg];rw[h5] at e2;exact ngs_z2 s w hl (by omega) _ e0 (by omega) ha _ e1 (by omega) hb e2
       ·by_cases h6:999999<a.toNat % 128+b.toNat % 128*128+c.toNat*16384
        ·have hg:Wf.getN (a::b::c::r3)=none:=by simp only[Wf.getN,if_neg h1,if_neg h2,if_pos h4];rw[if_pos (.inr h6)]
         rw[hg];exact ngs_b2 s w hl (by omega) _ e0 (by omega) ha _ e1 (by omega) hb _ e2 h4 (by omega) (by omega)
        ·have hg:Wf.getN (a::b::c::r3)=some (a.toNat % 128+b.toNat % 128*128+c.toNat*16384,r3):=by simp only[Wf.getN,if_neg h1,if_neg h2,if_pos h4];rw[if_neg (by omega)]
         rw[hg];refine(ngs_y2 s w hl (by omega) _ e0 (by omega) ha _ e1 (by omega) hb _ e2 h4 (by omega) (by omega)).mono fun e w' ⟨he,hw⟩=>⟨?_,hw⟩;rw[he,Go.Lib.Pa.extract_from,hs];exact ret3 (by omega) rfl rfl
      ·have hg:Wf.getN (a::b::c::r3)=none:=by simp[Wf.getN,h1,h2,h4]
       rw[hg];exact ngs_e3 s w hl (by omega) _ e0 (by omega) ha _ e1 (by omega) hb _ e2 (by omega) hc
end Go.Proofs.YtidjpalnmnehmaaGreatDoor

namespace Go.Proofs.YtidjpalnmnehmaaGreatDoor
open Go.ChangeShapes Go.WideShapes Go.ChangeAt Go.RowKit Go.Lib
structure Br (W:World) (rb sb:Nat) (s:List UInt8) (bad:Bool) (sk:Value) (d:Nat):Prop where
 lt:rb<W.heap.size
 c0:W.cell? ⟨rb,0,none⟩=some (ptr sb)
 c1:W.cell? ⟨rb,1,none⟩=some (tx s)
 c2:W.cell? ⟨rb,2,none⟩=some (.bool bad)
 c3:W.cell? ⟨rb,3,none⟩=some sk
 c4:W.cell? ⟨rb,4,none⟩=some (.int .i64 d)
 f1:W.frozen? ⟨rb,1,none⟩=false
 f2:W.frozen? ⟨rb,2,none⟩=false
 f3:W.frozen? ⟨rb,3,none⟩=false
 f4:W.frozen? ⟨rb,4,none⟩=false
section
variable {W W':World} {rb sb:Nat} {s r:List UInt8} {bad:Bool} {sk:Value} {d:Nat}
theorem Br.keep (h:Br W rb sb s bad sk d) (hs:W.heap.size<=W'.heap.size) (hb:W'.heap[rb]? = W.heap[rb]?):Br W' rb sb s bad sk d:=by
 have cd:=fun o=>zbJ (w:=W) (w':=W') (a:=⟨rb,o,none⟩) hb;have cf:=fun o=>World.frozen?_of_block (w:=W) (w':=W') (a:=⟨rb,o,none⟩) hb;exact⟨zaC h.lt hs,(cd 0).trans h.c0,(cd 1).trans h.c1,(cd 2).trans h.c2,(cd 3).trans h.c3,(cd 4).trans h.c4,(cf 1).trans h.f1,(cf 2).trans h.f2,(cf 3).trans h.f3,(cf 4).trans h.f4⟩
theorem Br.cQ (h:Br W rb sb s bad sk d) {B:Nat} (hb:Below B W W') (hB:rb<B):Br W' rb sb s bad sk d:=h.keep hb.size (hb.block rb hB)
theorem Br.below (h:Br W rb sb s bad sk d) (hb:Below W.heap.size W W'):Br W' rb sb s bad sk d:=h.cQ hb h.lt
theorem Br.beside (h:Br W rb sb s bad sk d) {b:Nat} (hb:aA b W W') (hn:rb≠b):Br W' rb sb s bad sk d:=h.keep hb.size (hb.block rb h.lt hn)
theorem Br.drewN (h:Br W rb sb s bad sk d) (n:Nat):Br (W.drewN n) rb sb s bad sk d:=h.below ⟨rfl,rfl,rfl,zaA,fun _ _=>rfl⟩
theorem Br.text (h:Br W rb sb s bad sk d) (r:List UInt8):Br (W.setCell ⟨rb,1,none⟩ (tx r)) rb sb r bad sk d :=
 ⟨by simpa using h.lt,(zbA W _ _ _ (by simp)).trans h.c0,zbC W _ _ h.c1,(zbA W _ _ _ (by simp)).trans h.c2,(zbA W _ _ _ (by simp)).trans h.c3,(zbA W _ _ _ (by simp)).trans h.c4,by simpa using h.f1,by simpa using h.f2,by simpa using h.f3,by simpa using h.f4⟩
theorem Br.fail (h:Br W rb sb s bad sk d):Br (W.setCell ⟨rb,2,none⟩ (.bool true)) rb sb s true sk d :=
 ⟨by simpa using h.lt,(zbA W _ _ _ (by simp)).trans h.c0,(zbA W _ _ _ (by simp)).trans h.c1,zbC W _ _ h.c2,(zbA W _ _ _ (by simp)).trans h.c3,(zbA W _ _ _ (by simp)).trans h.c4,by simpa using h.f1,by simpa using h.f2,by simpa using h.f3,by simpa using h.f4⟩
theorem Br.skp (h:Br W rb sb s bad sk d) (sk':Value):Br (W.setCell ⟨rb,3,none⟩ sk') rb sb s bad sk' d :=
 ⟨by simpa using h.lt,(zbA W _ _ _ (by simp)).trans h.c0,(zbA W _ _ _ (by simp)).trans h.c1,(zbA W _ _ _ (by simp)).trans h.c2,zbC W _ _ h.c3,(zbA W _ _ _ (by simp)).trans h.c4,by simpa using h.f1,by simpa using h.f2,by simpa using h.f3,by simpa using h.f4⟩
theorem Br.dep (h:Br W rb sb s bad sk d) (d':Nat):Br (W.setCell ⟨rb,4,none⟩ (.int .i64 d')) rb sb s bad sk d' :=
 ⟨by simpa using h.lt,(zbA W _ _ _ (by simp)).trans h.c0,(zbA W _ _ _ (by simp)).trans h.c1,(zbA W _ _ _ (by simp)).trans h.c2,(zbA W _ _ _ (by simp)).trans h.c3,zbC W _ _ h.c4,by simpa using h.f1,by simpa using h.f2,by simpa using h.f3,by simpa using h.f4⟩
end
section
variable (rb sb:Nat) (sk:Value) (d:Nat) (w:World)
theorem bnum_yes (s r:List UInt8) (bad:Bool) (n:Nat) (hs:s.length<=1000000) (H:Br w rb sb s bad sk d) (hn:Wf.getN s=some (n,r)):Calls Tryz.prog 45 #[ptr rb] w fun e w'=>e=.returned (.int .i64 n)/\Br w' rb sb r bad sk d/\aA rb w w':=by
 have HH:=hid H;have hc1:=H.c1;have hlt:=H.lt;obtain⟨S,hS⟩:∃ S:ByteArray,(⟨s.toArray⟩:ByteArray)=S:=⟨_,rfl⟩;have hSl:S.data.toList=s:=by rw[<-hS]
 rw[tx,hS] at hc1;obtain⟨R,hR⟩:∃ R:ByteArray,(⟨r.toArray⟩:ByteArray)=R:=⟨_,rfl⟩;have HR:=hid hR;have HN:=hid fun wz=>(numGet_impl S wz (by rw[<-aE,hSl];omega)).mono (R':=fun e w'=>e=.returned (.tuple #[.int .i64 n,.string R,.bool true])/\Below wz.heap.size wz w') fun e w' ⟨h1,q,h2⟩=>⟨by rw[h1,hSl,hn,getNV,hR],by rw[h2];exact⟨rfl,rfl,rfl,zaA,fun _ _=>rfl⟩⟩;clear H hS hSl hn hR;go_enter Tryz.func45,Tryz.ntmps45;go_wp2_with (go_at_call 71;refine(HN.out _).mono ?_;rintro e w1 ⟨rfl,hb⟩;have HS1:=hid (HH.out.below hb);have k1:=HS1.out.c1;have kf:=HS1.out.f1;have kl:=HS1.out.lt;have HB:=hid (aA.aF (rb:=rb) hb (zaA));clear hb)
 go_ret
 exact⟨rfl,by rw[<-HR.out];exact HS1.out.text r,HB.out.trans (aA.set _ _ _ _)⟩
theorem bnum_no (s:List UInt8) (bad:Bool) (hs:s.length<=1000000) (H:Br w rb sb s bad sk d) (hn:Wf.getN s=none):Calls Tryz.prog 45 #[ptr rb] w fun e w'=>e=.returned (.int .i64 0)/\Br w' rb sb [] true sk d/\aA rb w w':=by
 have HH:=hid H;have hc1:=H.c1;have hlt:=H.lt;obtain⟨S,hS⟩:∃ S:ByteArray,(⟨s.toArray⟩:ByteArray)=S:=⟨_,rfl⟩;have hSl:S.data.toList=s:=by rw[<-hS]
 rw[tx,hS] at hc1;have HN:=hid fun wz=>(numGet_impl S wz (by rw[<-aE,hSl];omega)).mono (R':=fun e w'=>e=.returned (.tuple #[.int .i64 0,.string ⟨#[]⟩,.bool false])/\Below wz.heap.size wz w') fun e w' ⟨h1,q,h2⟩=>⟨by rw[h1,hSl,hn,getNV],by rw[h2];exact⟨rfl,rfl,rfl,zaA,fun _ _=>rfl⟩⟩;clear H hS hSl hn;go_enter Tryz.func45,Tryz.ntmps45;go_wp2_with (go_at_call 71;refine(HN.out _).mono ?_;rintro e w1 ⟨rfl,hb⟩;have HS1:=hid (HH.out.below hb);have k1:=HS1.out.c1;have k2:=HS1.out.c2;have kf:=HS1.out.f1;have kg:=HS1.out.f2;have kl:=HS1.out.lt;have HB:=hid (aA.aF (rb:=rb) hb (zaA));clear hb)
 go_ret
 exact⟨rfl,HS1.out.fail.text [],(HB.out.trans (aA.set _ _ _ _)).trans (aA.set _ _ _ _)⟩
theorem btake_yes (s:List UInt8) (n:Nat) (hs:s.length<=1000000) (H:Br w rb sb s false sk d) (hn:n<=s.length):Calls Tryz.prog 46 #[ptr rb,.int .i64 n] w fun e w'=>e=.returned (tx (s.take n))/\Br w' rb sb (s.drop n) false sk d/\aA rb w w':=by
 have HH:=hid H;have hc1:=H.c1;have hc2:=H.c2;have hlt:=H.lt;have f1:=H.f1;obtain⟨S,hS⟩:∃ S:ByteArray,(⟨s.toArray⟩:ByteArray)=S:=⟨_,rfl⟩;have hSl:S.data.toList=s:=by rw[<-hS]
 have hSs:S.size=s.length:=by rw[<-hS];rfl
 rw[tx,hS] at hc1;have hn2:n<=S.size:=by omega
 have hs2:S.size<=1000000:=by omega
 have HA:=hid (show S.extract 0 n=⟨(s.take n).toArray⟩ from cW _ _ (by rw[bH,List.drop_zero,Nat.sub_zero,hSl]));have HD:=hid (show S.extract n S.size=⟨(s.drop n).toArray⟩ from cW _ _ (by rw[bH,hSl,hSs,zaS (by rw[List.length_drop];exact zaA)]));clear H hS hSl hs hn hSs;go_enter Tryz.func46,Tryz.ntmps46;go_wp2_with fail
 go_ret
 exact⟨aX HA.out,by have:=HH.out.text (s.drop n);rw[tx,<-HD.out] at this;exact this,aA.set _ _ _ _⟩
theorem btake_bad (s:List UInt8) (n:Nat) (H:Br w rb sb s true sk d):Calls Tryz.prog 46 #[ptr rb,.int .i64 n] w fun e w'=>e=.returned (tx [])/\Br w' rb sb s true sk d/\aA rb w w':=by
 have HH:=hid H;have hc2:=H.c2;have hlt:=H.lt;have f2:=H.f2;clear H;go_enter Tryz.func46,Tryz.ntmps46;go_wp2_with fail
 go_ret
 exact⟨rfl,HH.out.fail,aA.set _ _ _ _⟩
theorem btake_long (s:List UInt8) (n:Nat) (hs:s.length<=1000000) (H:Br w rb sb s false sk d) (hn:s.length<n):Calls Tryz.prog 46 #[ptr rb,.int .i64 n] w fun e w'=>e=.returned (tx [])/\Br w' rb sb s true sk d/\aA rb w w':=by
 have HH:=hid H;have hc1:=H.c1;have hc2:=H.c2;have hlt:=H.lt;have f2:=H.f2;obtain⟨S,hS⟩:∃ S:ByteArray,(⟨s.toArray⟩:ByteArray)=S:=⟨_,rfl⟩;have hSs:S.size=s.length:=by rw[<-hS];rfl
 rw[tx,hS] at hc1;have hn2:S.size<n:=by omega
 clear H hS hs hn hSs;go_enter Tryz.func46,Tryz.ntmps46;go_wp2_with fail
 go_ret
 exact⟨rfl,HH.out.fail,aA.set _ _ _ _⟩
theorem btake_no (s:List UInt8) (bad:Bool) (n:Nat) (hs:s.length<=1000000) (H:Br w rb sb s bad sk d) (hn:bad=true\/s.length<n):Calls Tryz.prog 46 #[ptr rb,.int .i64 n] w fun e w'=>e=.returned (tx [])/\Br w' rb sb s true sk d/\aA rb w w':=by
 cases bad with
 | true=>exact btake_bad rb sb sk d w s n H
 | false=>exact btake_long rb sb sk d w s n hs H (hn.resolve_left (by simp))
theorem bflag_w (s r:List UInt8) (b0:Bool) (X:ByteArray) (L E:Bool) (hL:Op.bytesLess X.toList [1]=L) (hE:(X.toList==[1])=E)
  (ht:Calls Tryz.prog 46 #[ptr rb,.int .i64 1] w fun e w'=>e=.returned (.string X)/\Br w' rb sb r b0 sk d/\aA rb w w'):Calls Tryz.prog 97 #[ptr rb] w fun e w'=>e=.returned (.bool E)/\Br w' rb sb r (b0 || (!L && !E)) sk d/\aA rb w w':=by
 have HT:=hid ht;clear ht;cases L <;> cases E
 ·go_enter Tryz.func97,Tryz.ntmps97
  go_wp2_with (go_at_call 46;refine HT.out.mono ?_;rintro e w1 ⟨rfl,hs1,hb1⟩;have S1:=hid hs1;have c2:=hs1.c2;have f2:=hs1.f2;have hl:=hs1.lt;have B1:=hid hb1;clear hs1 hb1)
  go_ret
  exact⟨rfl,by rw[Bool.not_false,Bool.and_true,Bool.or_true];exact S1.out.fail,B1.out.trans (aA.set _ _ _ _)⟩
 all_goals
  go_enter Tryz.func97,Tryz.ntmps97;go_wp2_with (go_at_call 46;refine HT.out.mono ?_;rintro e w1 ⟨rfl,hs1,hb1⟩;have S1:=hid hs1;have c2:=hs1.c2;have f2:=hs1.f2;have hl:=hs1.lt;have B1:=hid hb1;clear hs1 hb1)
  go_ret
  exact⟨rfl,by simpa using S1.out,B1.out⟩
theorem bflag_some (c:UInt8) (r:List UInt8) (hs:(c::r).length<=1000000) (H:Br w rb sb (c::r) false sk d):Calls Tryz.prog 97 #[ptr rb] w fun e w'=>e=.returned (.bool (c==1))/\Br w' rb sb r (decide (1<c)) sk d/\aA rb w w':=by
 have hx:∀ b:UInt8,(false || (!Op.bytesLess [b] [1] && !([b]==[1])))=decide (1<b)/\([b]==[1])=(b==1):=by
  intro b;have h:∀ n:Fin 256,(false || (!Op.bytesLess [UInt8.ofNat n.val] [1] && !([UInt8.ofNat n.val]==[1])))=decide (1<UInt8.ofNat n.val)/\([UInt8.ofNat n.val]==[1])=(UInt8.ofNat n.val==1):=by decide +kernel
  have:=h ⟨b.toNat,b.toNat_lt⟩;simpa using this
 obtain⟨h1,h2⟩:=hx c;have e0:(⟨#[c]⟩:ByteArray).toList=[c]:=by rw[zaZ]
 have:=bflag_w rb sb sk d w (c::r) r false ⟨#[c]⟩ _ _ (by rw[e0]) (by rw[e0]) (btake_yes rb sb sk d w (c::r) 1 hs H (by simp));rw[h1,h2] at this;exact this
theorem bflag_nil (H:Br w rb sb [] false sk d):Calls Tryz.prog 97 #[ptr rb] w fun e w'=>e=.returned (.bool false)/\Br w' rb sb [] true sk d/\aA rb w w':=by
 have e0:(⟨#[]⟩:ByteArray).toList=[]:=by rw[zaZ]
 exact bflag_w rb sb sk d w [] [] true ⟨#[]⟩ true false (by rw[e0];rfl) (by rw[e0];rfl) (btake_no rb sb sk d w [] false 1 (by simp) H (.inr (by simp)))
end

theorem bdec (q rb d:Nat) (hd:d<=100) (u:FrameMode) (w:World) (hqw:q<w.heap.size) (hrw:rb<w.heap.size) (hq:w.cell? ⟨q,0,none⟩=some (ptr rb)) (h4:w.cell? ⟨rb,4,none⟩=some (.int .i64 ((d:Int)+1))) (f4:w.frozen? ⟨rb,4,none⟩=false) :
  CallsD Tryz.prog 94 #[ptr q] u w fun e u' w'=>u'=u/\(e=.returned (.tuple #[])/\w'=w.setCell ⟨rb,4,none⟩ (.int .i64 d)):=by
 have kw:IntKind.i64.wrap ((d:Int)+1-1)=d:=by rw[Int.add_sub_cancel];exact zbI _ (by omega)
 have kw2:(d:Int)+1-1=d:=by omega
 go_enter_d Tryz.func94,Tryz.ntmps94
 go_wp2;go_end0
 exact⟨rfl,by simp[*]⟩
theorem bdoor {Q:Ending->World->Prop} {tmps:Array Value} {w:World} (q rb vb d:Nat) (x0 x1 x2 x3:Value) (hd:d<=100) (ht:tmps.getD 4 undef=ptr vb) (hqw:q<w.heap.size) (hrw:rb<w.heap.size) (hq:w.cell? ⟨q,0,none⟩=some (ptr rb)) (h4:w.cell? ⟨rb,4,none⟩=some (.int .i64 ((d:Int)+1))) (f4:w.frozen? ⟨rb,4,none⟩=false)
  (hvr:vb≠rb) (hvw:vb<w.heap.size) (v0:w.cell? ⟨vb,0,none⟩=some x0) (v1:w.cell? ⟨vb,1,none⟩=some x1) (v2:w.cell? ⟨vb,2,none⟩=some x2) (v3:w.cell? ⟨vb,3,none⟩=some x3) (hQ:Q (.returned (.agg #[x0,x1,x2,x3])) (w.setCell ⟨rb,4,none⟩ (.int .i64 d))) :
  bodyPostD Tryz.prog Tryz.f57 Q .ret { tmps:=tmps,defers:=[{ target:=.fn (.func 94) #[ptr q],args:=#[] }] } w:=by
 refine leaves_cons (f:=94) (args:=#[ptr q]) (by simp) (by simp[go_sem]) ?_;refine(bdec q rb d hd .returning w hqw hrw hq h4 f4).mono ?_;rintro e u' w' ⟨rfl,rfl,rfl⟩;have e0:=(zbA w ⟨rb,4,none⟩ ⟨vb,0,none⟩ (.int .i64 d) (by simp[hvr])).trans v0;have e1:=(zbA w ⟨rb,4,none⟩ ⟨vb,1,none⟩ (.int .i64 d) (by simp[hvr])).trans v1;have e2:=(zbA w ⟨rb,4,none⟩ ⟨vb,2,none⟩ (.int .i64 d) (by simp[hvr])).trans v2;have e3:=(zbA w ⟨rb,4,none⟩ ⟨vb,3,none⟩ (.int .i64 d) (by simp[hvr])).trans v3;have ht2:tmps[4]?.getD undef=ptr vb:=by simpa using ht
 clear ht;refine⟨_,?_,hQ⟩;simp[results,Tryz.results57,go_sem, *]
theorem bval_deep (rb sb:Nat) (s:List UInt8) (sk:Value) (k:Wf.K) (w:World) (H:Br w rb sb s false sk 13):Calls Tryz.prog 57 #[ptr rb,kV k] w fun e w'=>e=.returned (.agg #[.int .u8 0,.string ⟨#[]⟩,.int .i64 0,.slice none 0 0])/\aA rb w w'/\Br w' rb sb s true sk 13:=by
 have hrb:=H.lt;have hc2:=H.c2;have hc4:w.cell? ⟨rb,4,none⟩=some (.int .i64 13):=H.c4;have f2:=H.f2;have f4:=H.f4;have HH:=hid H;have hrb1:rb<w.heap.size+1:=by omega
 have hrb2:rb<w.heap.size+1+1:=by omega
 obtain⟨SG,hSG⟩:∃ SG:ByteArray,(⟨k.signs.toArray⟩:ByteArray)=SG:=⟨_,rfl⟩;obtain⟨BS,hBS⟩:∃ BS:ByteArray,(⟨k.base.toArray⟩:ByteArray)=BS:=⟨_,rfl⟩;obtain⟨NM,hNM⟩:∃ NM:ByteArray,(⟨k.name.toArray⟩:ByteArray)=NM:=⟨_,rfl⟩;have hkv:kV k=.agg #[.string SG,.string BS,.string NM]:=by simp only[kV,tx,hSG,hBS,hNM]
 rw[hkv];have hmf:∀ (fn:Fn) (first cap:Array Value) (w:World),(Instr.makeFunc fn first cap).run Tryz.prog w=.ok (.func fn first cap) w:=fun _ _ _ _=>rfl;clear H hSG hBS hNM hkv;go_enter_defers Tryz.func57,Tryz.ntmps57
 go_wp2_with fail
 all_goals exact bdoor w.heap.size rb (w.heap.size+1+1) 13 (.int .u8 0) (.string ⟨#[]⟩) (.int .i64 0) (.slice none 0 0) (by omega) rfl (by simp;omega) (by simp;omega) (by simp[go_sem]) (by simp[go_sem, *]) (by simp[go_sem, *]) (by omega) (by simp) (by simp[go_sem]) (by simp[go_sem]) (by simp[go_sem]) (by simp[go_sem]) (by
  have b1:=((aA.set rb w 4 (.int .i64 14)).trans (aA.set rb _ 2 (.bool true)));have h1:=(HH.out.dep 14).fail;refine⟨rfl,(((b1.alloc _).alloc _).alloc _).trans (aA.set rb _ 4 _),((h1.below ((((zaB).alloc (zaA) _).alloc (by simp) _).alloc (by simp;omega) _))).dep 13⟩)
