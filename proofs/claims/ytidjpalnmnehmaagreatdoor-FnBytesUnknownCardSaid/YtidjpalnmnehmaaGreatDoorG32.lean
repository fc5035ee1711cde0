/- Packed. -/
import Derived.Test.YtidjpalnmnehmaaGreatDoorG31
set_option maxRecDepth 99999
set_option maxHeartbeats 40000000
set_option linter.all false
namespace Go.Proofs.YtidjpalnmnehmaaGreatDoor
open Go.ChangeShapes Go.WideShapes Go.ChangeAt Go.RowKit Go.Lib
theorem read (x:Wf.Sc) (hx:Wf.ScOk x) (k:Wf.K) (hk:KOk x k) (lo sb:Nat) (s:List UInt8) (hs:s.length<=9000000000) (W w:World) (hsc:ScL W lo sb x) (hW:Below W.heap.size W w):Calls Tryz.prog 48 #[ptr sb,kV k,tx s] w fun e w'=>bQ x k s w e w'/\Below w.heap.size w w':=by
 by_cases h:s.length<=400
 ·exact yY x k sb s W w hx lo hsc hk h hW
 ·exact a3H x k sb s w h hs
def valOf (l kt s:List UInt8):Option ((Wf.Sc × Wf.K) × Wf.V):=match aU l kt with
 | some y=>(match Wf.valIn y.1 y.2 s with
  | some v=>some (y,v)
  | none=>none)
 | none=>none
def bY (l kt s:List UInt8) (lo:Nat) (e:Ending) (w':World):Prop:=match valOf l kt s with
 | some y=>∃ sb cs,e=.returned (.tuple #[ptr sb,kV y.1.2,.agg cs.toArray,.bool true])/\ScL w' lo sb y.1.1/\VC w' (fun b=>lo<=b) y.2 cs
 | none=>∃ p a b c,e=.returned (.tuple #[.pointer p,.agg #[.string a,.string b,.string c],.agg #[.int .u8 0,.string ⟨#[]⟩,.int .i64 0,.slice none 0 0],.bool false])
theorem bY.no {l kt s:List UInt8} {lo:Nat} {e:Ending} {w':World} (h:valOf l kt s=none) (he:∃ p a b c,e=.returned (.tuple #[.pointer p,.agg #[.string a,.string b,.string c],.agg #[.int .u8 0,.string ⟨#[]⟩,.int .i64 0,.slice none 0 0],.bool false])):bY l kt s lo e w':=by
 unfold bY;rw[h];exact he
theorem bY.yes {l kt s:List UInt8} {lo:Nat} {e:Ending} {w':World} {y:(Wf.Sc × Wf.K) × Wf.V} (h:valOf l kt s=some y) (he:∃ sb cs,e=.returned (.tuple #[ptr sb,kV y.1.2,.agg cs.toArray,.bool true])/\ScL w' lo sb y.1.1/\VC w' (fun b=>lo<=b) y.2 cs):bY l kt s lo e w':=by
 unfold bY;rw[h];exact he
theorem fT {l kt:List UInt8} {y:Wf.Sc × Wf.K} (h:aU l kt=some y):Wf.ScOk y.1/\KOk y.1 y.2:=by
 obtain⟨h1,h2,h3,h4,h5⟩:=kA h;exact⟨Wf.iM h1,⟨by rw[h4];exact h5,h3⟩⟩
structure jK (wr:World) (b:Nat):Prop where
 lt:b<wr.heap.size
 r0:wr.cell? ⟨b,0,none⟩=some (.string ⟨#[]⟩)
 r1:wr.cell? ⟨b,1,none⟩=some (.string ⟨#[]⟩)
 r2:wr.cell? ⟨b,2,none⟩=some (.string ⟨#[]⟩)
 f0:wr.frozen? ⟨b,0,none⟩=false
 f1:wr.frozen? ⟨b,1,none⟩=false
 f2:wr.frozen? ⟨b,2,none⟩=false
theorem jK.below {wr w2:World} {b B:Nat} (h:jK wr b) (hb:Below B wr w2) (hr:b<B):jK w2 b:=by
 have h1:=hb.block b hr;have cd:=fun o=>zbJ (w:=wr) (w':=w2) (a:=⟨b,o,none⟩) h1;have cf:=fun o=>World.frozen?_of_block (w:=wr) (w':=w2) (a:=⟨b,o,none⟩) h1;exact⟨zaC h.lt hb.size,(cd 0).trans h.r0,(cd 1).trans h.r1,(cd 2).trans h.r2,(cf 0).trans h.f0,(cf 1).trans h.f1,(cf 2).trans h.f2⟩
theorem qI (w:World) (W1:World) (hW1:(w.alloc (.cells #[.string ⟨#[]⟩,.string ⟨#[]⟩,.string ⟨#[]⟩] 48)).alloc (.cells #[.int .u8 0,.string ⟨#[]⟩,.int .i64 0,.slice none 0 0] 51)=W1) :
  jK W1 w.heap.size/\Zero W1 (w.heap.size+1)/\Below w.heap.size w W1:=by
 have hB:Below w.heap.size w W1:=by
  rw[<-hW1];exact(((zaB).alloc (zaA) _).alloc (by simp) _)
 subst hW1;refine⟨⟨?_,?_,?_,?_,?_,?_,?_⟩,⟨?_,?_,?_,?_,?_,?_,?_,?_,?_⟩,hB⟩;all_goals first|(simp[go_sem];done)|(simp[go_sem];omega)
structure Over (B:Nat) (w w':World):Prop where
 size:w.heap.size<=w'.heap.size
 block:∀ k,B<=k->k<w.heap.size->w'.heap[k]? = w.heap[k]?
theorem Over.refl (B:Nat) (w:World):Over B w w:=⟨zaA,fun _ _ _=>rfl⟩
theorem Over.drew {B:Nat} {w w':World} (h:Over B w w'):Over B w w'.drew:=⟨h.size,h.block⟩
theorem Over.setCell {B:Nat} {w w':World} (h:Over B w w') {p:Addr} (hp:p.block<B) (v:Value):Over B w (w'.setCell p v):=by
 have hs:(w'.setCell p v).heap.size=w'.heap.size:=by simp
 refine⟨by rw[hs];exact h.size,fun k hk hl=>(Below.heap_setCell w' p v k (by omega)).trans (h.block k hk hl)⟩
theorem Over.alloc {B:Nat} {w w':World} (h:Over B w w') (o:Obj):Over B w (w'.alloc o):=by
 have hb:=(Below.refl w'.heap.size w').alloc (zaA) o;exact⟨zaI h.size hb.size,fun k hk hl=>(hb.block k (zaC hl h.size)).trans (h.block k hk hl)⟩
theorem Over.below {B:Nat} {w w1 w2:World} (h:Over B w1 w2) (hb:Below w.heap.size w w1):∀ k,B<=k->k<w.heap.size->w2.heap[k]? = w.heap[k]?:=fun k hk hl=>(h.block k hk (zaC hl hb.size)).trans (hb.block k hl)
theorem a6C (s kt:ByteArray) (v:ByteArray) (m:Int) (w:World) (hm:ML m w) (hs:s.size<=1048576) (hkt:kt.size<=1048576) (h:aU s.data.toList kt.data.toList=none):Calls Tryz.prog 27 #[.string s,.string kt,.string v] w fun e w'=>bY s.data.toList kt.data.toList v.data.toList w.heap.size e w'/\Below w.heap.size w w':=by
 have HN:=hid (show valOf s.data.toList kt.data.toList v.data.toList=none by unfold valOf;rw[h]);have HB:=hid fun w2 (h2:Below w.heap.size w w2)=>(both s kt m w2 (hm.below h2) hs hkt).mono (R':=fun e w'=>(∃ p a b c,e=.returned (.tuple #[.pointer p,.agg #[.string a,.string b,.string c],.bool false]))/\Below w2.heap.size w2 w') fun e w' ⟨h3,h4⟩=>⟨by unfold dB at h3;rw[h] at h3;exact h3,h4⟩;have ST:=hid fun W1 h=>qI w W1 h;clear h hm;go_enter Tryz.func27,Tryz.ntmps27;go_wp2_with (go_at_call 31;obtain⟨zk,zv,b0⟩:=ST.out _ rfl;refine(HB.out _ b0).mono ?_;rintro e w1 ⟨⟨p,a,b,c,rfl⟩,hb1⟩;have B1:=hid (aE b0 hb1);obtain⟨kl,kr0,kr1,kr2,kf0,kf1,kf2⟩:=zk.below hb1 zk.lt;obtain⟨zl,zr0,zr1,zr2,zr3,zf0,zf1,zf2,zf3⟩:=zv.below hb1 zv.lt;clear hb1 zk zv b0)
 exact zbD (v:=.tuple #[.pointer none,.agg #[.string ⟨#[]⟩,.string ⟨#[]⟩,.string ⟨#[]⟩],.agg #[.int .u8 0,.string ⟨#[]⟩,.int .i64 0,.slice none 0 0],.bool false]) (by simp[results,Tryz.results27,go_sem, *]) rfl ⟨bY.no HN.out ⟨_,_,_,_,rfl⟩,by have B:=B1.out;repeat (first|with_reducible exact B|with_reducible refine zbE ?_|with_reducible refine zbF ?_ (by simp) _|with_reducible refine zbG ?_ (by first|exact B.size|(simp;omega)) _)⟩
theorem a0D (s kt:ByteArray) (v:ByteArray) (m:Int) (w:World) (hm:ML m w) (hs:s.size<=1048576) (hkt:kt.size<=1048576) (hv:v.size<=1048576) (x:Wf.Sc) (k:Wf.K) (h:aU s.data.toList kt.data.toList=some (x,k)):Calls Tryz.prog 27 #[.string s,.string kt,.string v] w fun e w'=>bY s.data.toList kt.data.toList v.data.toList w.heap.size e w'/\Below w.heap.size w w':=by
 have HB:=hid fun w2 (h2:Below w.heap.size w w2)=>(both s kt m w2 (hm.below h2) hs hkt).mono (R':=fun e w'=>(∃ sb,e=.returned (.tuple #[ptr sb,kV k,.bool true])/\ScL w' w2.heap.size sb x)/\Below w2.heap.size w2 w') fun e w' ⟨h3,h4⟩=>⟨by unfold dB at h3;rw[h] at h3;obtain⟨sb,h5,h6⟩:=h3;exact⟨sb,h5,h6⟩,h4⟩;obtain⟨hx,hk⟩:=fT h;have HRD:=hid fun(w2 w3:World) (sb:Nat) (hsl:ScL w2 (w.heap.size+1+1) sb x) (hb:Below w2.heap.size w2 w3)=>read x hx k hk (w.heap.size+1+1) sb v.data.toList (by rw[aC];omega) w2 w3 hsl hb;obtain⟨SG,hSG⟩:∃ SG:ByteArray,(⟨k.signs.toArray⟩:ByteArray)=SG:=⟨_,rfl⟩;obtain⟨BS,hBS⟩:∃ BS:ByteArray,(⟨k.base.toArray⟩:ByteArray)=BS:=⟨_,rfl⟩;obtain⟨NM,hNM⟩:∃ NM:ByteArray,(⟨k.name.toArray⟩:ByteArray)=NM:=⟨_,rfl⟩;have hkv:kV k=.agg #[.string SG,.string BS,.string NM]:=by simp only[kV,tx,hSG,hBS,hNM]
 have hvv:tx v.data.toList=.string v:=rfl;rw[hkv,hvv] at HRD;rw[hkv] at HB;have HKV:=hid hkv;have ST:=hid fun W1 h=>qI w W1 h;cases hvi:Wf.valIn x k v.data.toList with
 | none =>
  have HN:=hid (show valOf s.data.toList kt.data.toList v.data.toList=none by unfold valOf;rw[h];dsimp only;rw[hvi]);have HO:=hid fun(wz:World) e w' (ho:bQ x k v.data.toList wz e w')=>(by unfold bQ at ho;rw[hvi] at ho;exact ho:e=.returned (.tuple #[.agg #[.int .u8 0,.string ⟨#[]⟩,.int .i64 0,.slice none 0 0],.bool false]));clear h hm hx hk hSG hBS hNM hkv hvi hvv;go_enter Tryz.func27,Tryz.ntmps27;go_wp2_with (first|(go_at_call 48;have hal:=(Below.refl w1.heap.size w1).alloc (zaA) (.cells #[.string SG,.string BS,.string NM] 48);refine(HRD.out _ _ _ SL1.out hal).mono ?_;rintro e w3 ⟨ho,hb3⟩;obtain rfl:=HO.out _ _ _ ho;clear ho;have B3:=hid (aE hal hb3);obtain⟨kl,kr0,kr1,kr2,kf0,kf1,kf2⟩:=K1.out.below B3.out K1.out.lt;obtain⟨zl,zr0,zr1,zr2,zr3,zf0,zf1,zf2,zf3⟩:=Z1.out.below B3.out Z1.out.lt;have hw1:w1.heap.size<w3.heap.size:=zaC (by simp) hb3.size;have q0:w3.cell? ⟨w1.heap.size,0,none⟩=some (.string SG):=(hb3.cell (p:=⟨w1.heap.size,0,none⟩) (by simp)).trans (by simp[go_sem]);have q1:w3.cell? ⟨w1.heap.size,1,none⟩=some (.string BS):=(hb3.cell (p:=⟨w1.heap.size,1,none⟩) (by simp)).trans (by simp[go_sem]);have q2:w3.cell? ⟨w1.heap.size,2,none⟩=some (.string NM):=(hb3.cell (p:=⟨w1.heap.size,2,none⟩) (by simp)).trans (by simp[go_sem]);clear hb3 hal)|(go_at_call 31;obtain⟨zk,zv,b0⟩:=ST.out _ rfl;refine(HB.out _ b0).mono ?_;rintro e w1 ⟨⟨sb,rfl,hsl⟩,hb1⟩;have B1:=hid (aE b0 hb1);have K1:=hid (zk.below hb1 zk.lt);have Z1:=hid (zv.below hb1 zv.lt);have SL1:=hid (hsl.mono (Nat.succ_le_of_lt zv.lt));have kl:=K1.out.lt;have zl:=Z1.out.lt;clear hb1 zk zv b0 hsl))
  go_region
  all_goals (go_wp2_with fail)
  all_goals exact zbD (v:=.tuple #[ptr sb,.agg #[.string SG,.string BS,.string NM],.agg #[.int .u8 0,.string ⟨#[]⟩,.int .i64 0,.slice none 0 0],.bool false]) (by simp[results,Tryz.results27,go_sem, *]) rfl ⟨bY.no HN.out ⟨_,_,_,_,rfl⟩,by have B:=B1.out.trans (B3.out.mono B1.out.size);repeat (first|with_reducible exact B|with_reducible refine zbE ?_|with_reducible refine zbF ?_ (by simp) _|with_reducible refine zbG ?_ (by first|exact B.size|(simp;omega)) _)⟩
 | some u =>
  have HN:=hid (show valOf s.data.toList kt.data.toList v.data.toList=some ((x,k),u) by unfold valOf;rw[h];dsimp only;rw[hvi]);have HO:=hid fun(wz:World) e w' (ho:bQ x k v.data.toList wz e w')=>(by unfold bQ at ho;rw[hvi] at ho;exact ho:∃ cs,e=.returned (.tuple #[.agg cs.toArray,.bool true])/\VC w' (fun b=>wz.heap.size<=b) u cs);clear h hm hx hk hSG hBS hNM hkv hvi hvv;go_enter Tryz.func27,Tryz.ntmps27;go_wp2_with (first|(go_at_call 48;have hal:=(Below.refl w1.heap.size w1).alloc (zaA) (.cells #[.string SG,.string BS,.string NM] 48);refine(HRD.out _ _ _ SL1.out hal).mono ?_;rintro e w3 ⟨ho,hb3⟩;obtain⟨cs,rfl,hvc⟩:=HO.out _ _ _ ho;obtain⟨g0,g1,g2,g3,T2,a2,rfl⟩:=hvc.bA;have HVC:=hid hvc;have HAL:=hid hal;have HB3':=hid hb3;clear ho hvc;have B3:=hid (aE hal hb3);obtain⟨kl,kr0,kr1,kr2,kf0,kf1,kf2⟩:=K1.out.below B3.out K1.out.lt;obtain⟨zl,zr0,zr1,zr2,zr3,zf0,zf1,zf2,zf3⟩:=Z1.out.below B3.out Z1.out.lt;have hw1:w1.heap.size<w3.heap.size:=zaC (by simp) hb3.size;have q0:w3.cell? ⟨w1.heap.size,0,none⟩=some (.string SG):=(hb3.cell (p:=⟨w1.heap.size,0,none⟩) (by simp)).trans (by simp[go_sem]);have q1:w3.cell? ⟨w1.heap.size,1,none⟩=some (.string BS):=(hb3.cell (p:=⟨w1.heap.size,1,none⟩) (by simp)).trans (by simp[go_sem]);have q2:w3.cell? ⟨w1.heap.size,2,none⟩=some (.string NM):=(hb3.cell (p:=⟨w1.heap.size,2,none⟩) (by simp)).trans (by simp[go_sem]);clear hb3 hal)|(go_at_call 31;obtain⟨zk,zv,b0⟩:=ST.out _ rfl;refine(HB.out _ b0).mono ?_;rintro e w1 ⟨⟨sb,rfl,hsl⟩,hb1⟩;have B1:=hid (aE b0 hb1);have K1:=hid (zk.below hb1 zk.lt);have Z1:=hid (zv.below hb1 zv.lt);have SL1:=hid (hsl.mono (Nat.succ_le_of_lt zv.lt));have kl:=K1.out.lt;have zl:=Z1.out.lt;clear hb1 zk zv b0 hsl))
  go_region
  all_goals (go_wp2_with fail)
  all_goals exact zbD (v:=.tuple #[ptr sb,.agg #[.string SG,.string BS,.string NM],.agg #[.int .u8 g0,.string T2,.int .i64 g1,.slice a2 g2 g3],.bool true]) (by simp[results,Tryz.results27,go_sem, *]) rfl (by
   have hR:∀ W4,Over (w.heap.size+1+1) w3 W4->Below w.heap.size w W4->(bY s.data.toList kt.data.toList v.data.toList w.heap.size (.returned (.tuple #[ptr sb,.agg #[.string SG,.string BS,.string NM],.agg #[.int .u8 g0,.string T2,.int .i64 g1,.slice a2 g2 g3],.bool true])) W4/\Below w.heap.size w W4):=fun W4 ho hb=>by
    refine⟨bY.yes HN.out ⟨sb,[.int .u8 g0,.string T2,.int .i64 g1,.slice a2 g2 g3],by rw[HKV.out],(SL1.out.keep (zaI B3.out.size ho.size) (ho.below B3.out)).mono (by omega),VC.keep (fun b hp hlt=>⟨?_,?_⟩) ho.size _ _ HVC.out⟩,hb⟩
    ·have h1:=HAL.out.size
     have h2:=Z1.out.lt;have h3:(w1.alloc (.cells #[.string SG,.string BS,.string NM] 48)).heap.size<=b:=hp;omega
    ·have h1:=HAL.out.size
     have h2:=Z1.out.lt;have h3:(w1.alloc (.cells #[.string SG,.string BS,.string NM] 48)).heap.size<=b:=hp;exact ho.block b (by omega) hlt
   refine hR _ ?_ ?_
   ·repeat (first|with_reducible exact Over.refl _ _|with_reducible refine Over.drew ?_|with_reducible refine Over.setCell ?_ (by first|(simp;done)|(simp;omega)) _|with_reducible refine Over.alloc ?_ _)
   ·have B:=B1.out.trans (B3.out.mono B1.out.size)
    repeat (first|with_reducible exact B|with_reducible refine zbE ?_|with_reducible refine zbF ?_ (by simp) _|with_reducible refine zbG ?_ (by first|exact B.size|(simp;omega)) _))
theorem given (s kt:ByteArray) (v:ByteArray) (m:Int) (w:World) (hm:ML m w) (hs:s.size<=1048576) (hkt:kt.size<=1048576) (hv:v.size<=1048576):Calls Tryz.prog 27 #[.string s,.string kt,.string v] w fun e w'=>bY s.data.toList kt.data.toList v.data.toList w.heap.size e w'/\Below w.heap.size w w':=by
 cases h:aU s.data.toList kt.data.toList with
 | none=>exact a6C s kt v m w hm hs hkt h
 | some y=>exact a0D s kt v m w hm hs hkt hv y.1 y.2 h

theorem fU {l kt s:List UInt8} {y:(Wf.Sc × Wf.K) × Wf.V} (h:valOf l kt s=some y):aU l kt=some y.1/\Wf.valIn y.1.1 y.1.2 s=some y.2:=by
 unfold valOf at h;cases hk:aU l kt with
 | none=>rw[hk] at h;cases h
 | some z =>
  rw[hk] at h;dsimp only at h;cases hv:Wf.valIn z.1 z.2 s with
  | none=>rw[hv] at h;cases h
  | some v =>
   rw[hv] at h;simp only[zaE] at h;subst h;exact⟨rfl,hv⟩

theorem nV (c:List Value) {w1 w2:World} {rb et:Nat} (hb:aA rb (w1.alloc (.cells c.toArray et)) w2) (hr:rb<w1.heap.size) (v:Int) (h0:0<=v) (h1:v<c.length):∃ x∈c,w2.cell? ⟨w1.heap.size,v.toNat,none⟩=some x:=by
 refine⟨c[v.toNat]'(by omega),zaQ _,?_⟩;refine hb.pZ ?_ (by omega);simp[zaV (show v.toNat<c.length by omega)]
theorem cM (m:Nat) (l:List (List UInt8)) {w1 w2:World} {rb et:Nat} (hb:aA rb (w1.alloc (.cells (l.map tx).toArray et)) w2) (hr:rb<w1.heap.size) (v:Int) (h0:0<=v) (h1:v<l.length) (hl:(l.all fun n=>decide (n.length<=m))=true):∃ x:ByteArray,x.size<=m/\x.data.toList∈l/\w2.cell? ⟨w1.heap.size,v.toNat,none⟩=some (.string x):=by
 obtain⟨x,hx,hc⟩:=nV _ hb hr v h0 (by simpa using h1);obtain⟨n,hn,rfl⟩:=List.mem_map.1 hx;have:=List.all_eq_true.1 hl n hn;exact⟨⟨n.toArray⟩,by simpa[aW] using this,hn,hc⟩
theorem sN (rb k:Nat) (w:World) (H:Rd w rb k) (hk:k<=900000) :
  Calls Tryz.prog 64 #[.pointer (some ⟨rb,0,none⟩)] w fun e w'=>∃ s:ByteArray,e=.returned (.string s)/\s.size<=100/\Rd w' rb (k+7)/\aA rb w w':=by
 have R0:=H.lt;go_enter Tryz.func64,Tryz.ntmps64;go_wp2_with (first|(go_at_call 62;refine(pick rb (k+1) 4 _ hR2 (by omega) (by omega)).mono ?_;rintro e w3 ⟨n,rfl,hn,_,hR3,hBs3⟩;obtain⟨hn0,hn1⟩:=hn (by omega);have B3:=Lib.hid (B2.out.trans hBs3);clear hBs3)|(go_at_call 62;refine(pick rb k 8 _ (H.alloc _) (by omega) (by omega)).mono ?_;rintro e w2 ⟨v,rfl,hv,_,hR2,hBs⟩;obtain⟨hv0,hv1⟩:=hv (by omega);obtain⟨x,hx0,hx1,hxc⟩:=cM 3 [[110],[116],[102],[110],[116],[64,97,59],[64,98,59],[64,99,59]] hBs H.lt v hv0 hv1 (by decide);have B2:=Lib.hid (((aA.refl rb w).alloc _).trans hBs);clear hBs))
 go_loopw [3,4] (fun v3 v4 wr=>∃ (t:ByteArray) (i:Int) (m:Nat),v3=.string t/\v4=.int .i64 i/\0<=i/\i<=3/\m+i.toNat<=5/\t.size<=10*m/\m<=5/\Rd wr rb (k+m)/\Hid (aA rb w wr)) (fun _ v _=>(RowKit.intOf v).toNat)
 case atStart=>exact⟨x,n,2,rfl,rfl,hn0,by omega,by omega,by omega,by omega,hR3,B3⟩
 case round =>
  obtain⟨t,i,m,rfl,rfl,hi0,hi1,hm,ht,hm5,hR,hBB⟩:=hrel;by_cases hi:1<i
  ·go_wp2_with (go_at_call 62;refine(pick rb (k+m) 3 _ (hR.alloc _) (by omega) (by omega)).mono ?_;rintro e w4 ⟨u,rfl,hu,_,hR4,hBs4⟩;obtain⟨hu0,hu1⟩:=hu (by omega);obtain⟨y,hy0,hy1,hyc⟩:=cM 1 [[91],[63],[91]] hBs4 hR.lt u hu0 hu1 (by decide);have B4:=Lib.hid ((hBB.out.alloc _).trans hBs4);clear hBs4)
   go_roundw
   case rel=>exact⟨_,_,m+1,rfl,rfl,by omega,by omega,by omega,by simp[zaO];omega,by omega,hR4,B4⟩
   case measure=>simp[RowKit.intOf];omega
  ·go_wp2_with (first|(go_at_call 62;refine(pick rb (k+m+1) 8 _ (hR5.alloc _) (by omega) (by omega)).mono ?_;rintro e w6 ⟨v6,rfl,hv6,_,hR6,hBs6⟩;obtain⟨hv60,hv61⟩:=hv6 (by omega);obtain⟨z,hz0,hz1,hzc⟩:=cM 20 [[],[120],[64,59],[64,65,59],[91],[63,63,63,63,63,63,63,63,63,63,63,63,63,63,110],[64,97],[110,110]] hBs6 hR5.lt v6 hv60 hv61 (by decide);have B6:=Lib.hid ((B5.out.alloc _).trans hBs6);clear hBs6)|(go_at_call 62;refine(pick rb (k+m) 30 _ hR (by omega) (by omega)).mono ?_;rintro e w5 ⟨v5,rfl,hv5,_,hR5,hBs5⟩;have B5:=Lib.hid (hBB.out.trans hBs5);clear hBs5 hv5))
   all_goals go_ret
   ·exact⟨z,rfl,by omega,hR6.mono (by omega),B6.out⟩
   ·exact⟨t,rfl,by omega,hR5.mono (by omega),B5.out⟩

def Drew (n:Nat) (rb k:Nat) (w:World) (e:Ending) (w':World):Prop:=∃ s:ByteArray,e=.returned (.string s)/\s.size<=n/\Rd w' rb k/\aA rb w w'
theorem uW (rb k:Nat) (T NM:ByteArray) (g:Nat) (hg:g<=999999) (hn:NM.size<=10) (w:World) (H:Rd w rb k) (hk:k<=900000) :
  Calls Tryz.prog 102 #[.pointer (some ⟨rb,0,none⟩),.string T,.int .i64 g,.string NM] w fun e w'=>Drew 130 rb (k+9) w e w':=by
 have R0:=H.lt;have HD:=hid fun wz=>eN g g wz (zaA) (by omega);have ld:=Wf.bW hg;obtain⟨D,hD⟩:∃ D:ByteArray,(⟨(Wf.dec g).toArray⟩:ByteArray)=D:=⟨_,rfl⟩;simp only[tx,hD] at HD;have hds:D.size<=6:=by rw[<-hD,aW];exact ld
 have HH:=hid H;clear hD ld H;go_enter Tryz.func102,Tryz.ntmps102;go_wp2_with (first|(go_at_call 62;have _u:=hR4;have _t:(K.toList==[110])=true:=(by assumption);refine(pick rb (k+8) 8 _ (hR4.alloc _) (by omega) (by omega)).mono ?_;rintro e w5 ⟨u,rfl,hu,_,hR5,hBs5⟩;obtain⟨hu0,hu1⟩:=hu (by omega);obtain⟨x,hx0,hx1,hxc⟩:=cM 6 [[53],[55,55],[57,57,57,57,57,57],[48]] hBs5 hR4.lt (u / 2 % 4) (by omega) (by simp;omega) (by decide);have B5:=Lib.hid ((B4.out.alloc _).trans hBs5);clear hBs5)|(go_at_call 62;have _u:=hR4;have _t:(K.toList==[116])=true:=(by assumption);refine(pick rb (k+8) 7 _ (hR4.alloc _) (by omega) (by omega)).mono ?_;rintro e w5 ⟨u,rfl,hu,_,hR5,hBs5⟩;obtain⟨hu0,hu1⟩:=hu (by omega);obtain⟨x,hx0,hx1,hxc⟩:=cM 3 [[104,105],[97,32,98],[]] hBs5 hR4.lt (u / 3) (by omega) (by simp;omega) (by decide);have B5:=Lib.hid ((B4.out.alloc _).trans hBs5);clear hBs5)|(go_at_call 62;have _u:=hR4;have _t:(K.toList==[102])=true:=(by assumption);refine(pick rb (k+8) 7 _ (hR4.alloc _) (by omega) (by omega)).mono ?_;rintro e w5 ⟨u,rfl,hu,_,hR5,hBs5⟩;obtain⟨hu0,hu1⟩:=hu (by omega);obtain⟨x,hx0,hx1,hxc⟩:=cM 3 [[121,101,115],[121,101,115],[110,111]] hBs5 hR4.lt (u / 3) (by omega) (by simp;omega) (by decide);have B5:=Lib.hid ((B4.out.alloc _).trans hBs5);clear hBs5)|(go_at_call 62;refine(pick rb (k+7) 3 _ R3.out (by omega) (by omega)).mono ?_;rintro e w4 ⟨v,rfl,hv,_,hR4,hBs⟩;obtain⟨hv0,hv1⟩:=hv (by omega);have B4:=Lib.hid (B3.out.trans hBs);clear hBs)|(go_at_call 64;refine(sN rb k _ R1.out (by omega)).mono ?_;rintro e w3 ⟨K,rfl,hK,hR3,hBs3⟩;have B3:=Lib.hid (B1.out.trans hBs3);have R3:=Lib.hid hR3;clear hBs3 hR3)|(go_at_call 89;refine(HD.out _).mono ?_;rintro e w1 ⟨rfl,hb1⟩;have R1:=Lib.hid (HH.out.below hb1 R0);have B1:=Lib.hid (aA.aF (rb:=rb) hb1 (zaA));clear hb1))
 all_goals go_ret
 all_goals have c58:(⟨#[58]⟩:ByteArray).size=1:=rfl
 all_goals have c61:(⟨#[61]⟩:ByteArray).size=1:=rfl
 all_goals have c62:(⟨#[61,39]⟩:ByteArray).size=2:=rfl
 all_goals have c39:(⟨#[39]⟩:ByteArray).size=1:=rfl
 all_goals first|exact⟨_,rfl,by simp[zaO];omega,hR5.mono (by omega),B5.out⟩|exact⟨_,rfl,by simp[zaO];omega,hR4.mono (by omega),B4.out⟩|exact⟨_,rfl,by simp[zaO];omega,R3.out.mono (by omega),B3.out⟩|exact⟨_,rfl,by simp[zaO];omega,R1.out.mono (by omega),B1.out⟩
theorem wS (rb k:Nat) (T NM:ByteArray) (g:Int) (hg0:0<=g) (hg:g<=999999) (hn:NM.size<=10) (w:World) (H:Rd w rb k) (hk:k<=900000) :
  Calls Tryz.prog 102 #[.pointer (some ⟨rb,0,none⟩),.string T,.int .i64 g,.string NM] w fun e w'=>Drew 130 rb (k+9) w e w':=by
 obtain⟨n,rfl⟩:=Int.eq_ofNat_of_zero_le hg0;exact uW rb k T NM n (by omega) hn w H hk
theorem mQ (rb k:Nat) (T NM:ByteArray) (hT:T.size<=1) (hT1:1<=T.size) (hn:NM.size<=1) (w:World) (H:Rd w rb k) (hk:k<=800000) :
  Calls Tryz.prog 61 #[.pointer (some ⟨rb,0,none⟩),.string T,.string NM] w fun e w'=>∃ s:ByteArray,e=.returned (.string s)/\1<=s.size/\s.size<=600/\Rd w' rb (k+50)/\aA rb w w':=by
 have R0:=H.lt;have HH:=hid H;have kc1:=fun W a c (q:Int) h=>run_convert_one (P:=Tryz.prog) 22 9 5 Tryz.underlying22 Tryz.underlying5 Tryz.underlying9 W a c q h;have c61:(⟨#[61]⟩:ByteArray).size=1:=rfl;have c44:(⟨#[44]⟩:ByteArray).size=1:=rfl;have c10:(⟨#[10]⟩:ByteArray).size=1:=rfl;clear H;go_enter Tryz.func61,Tryz.ntmps61;go_wp2_with (first|(go_at_call 62;have _u:=hR1;refine(pick rb (k+1) 8 _ hR1 (by omega) (by omega)).mono ?_;rintro e w2 ⟨v2,rfl,hv2,_,hR2,hBs2⟩;have B2:=Lib.hid (B1.out.trans hBs2);clear hBs2 hv2;rcases(Bool.eq_false_or_eq_true (v2==(0:Int))) with hq|hq)|(go_at_call 62;refine(pick rb k 4 _ HH.out (by omega) (by omega)).mono ?_;rintro e w1 ⟨v1,rfl,hv1,_,hR1,hBs⟩;obtain⟨hv10,hv11⟩:=hv1 (by omega);have B1:=Lib.hid hBs;clear hBs))
 all_goals
  go_loopw [7,8,10] (fun s tg iv wr=>∃ (S:ByteArray) (t:Int) (i:Nat),s=.string S/\tg=.int .i64 t/\iv=.int .i64 i/\i<=4/\0<=t/\t<=3*i/\S.size<=3+140*i/\1<=S.size/\Rd wr rb (k+2+11*i)/\Hid (aA rb w wr)) (fun _ _ v _=>4-(RowKit.intOf v).toNat)
  case atStart=>exact⟨_,_,0,rfl,rfl,rfl,by omega,by omega,by omega,by simp[zaO];omega,by simp[zaO];omega,by first|exact hR2|exact hR1.mono (by omega),by first|exact B2|exact B1⟩
  case round =>
   obtain⟨S,t,i,rfl,rfl,rfl,hi4,ht0,ht1,hS,hS1,hR,hB⟩:=hrel;go_wp2_with (first|(go_at_call 102;have _u:=hR7;refine(wS rb (k+2+11*i+2) T ⟨#[112+UInt8.ofNat i]⟩ _ (by omega) (by omega) (show(1:Nat)<=10 by omega) _ (hR7.alloc _) (by omega)).mono ?_;rintro e w8 ⟨F,rfl,hF,hR8,hBs8⟩;have B8:=Lib.hid ((B7.out.alloc _).trans hBs8);clear hBs8)|(go_at_call 62;have _u:=hR6;refine(pick rb (k+2+11*i+1) 2 _ hR6 (by omega) (by omega)).mono ?_;rintro e w7 ⟨v7,rfl,hv7,_,hR7,hBs7⟩;obtain⟨hv70,hv71⟩:=hv7 (by omega);have B7:=Lib.hid (B6.out.trans hBs7);clear hBs7;rcases(show v7=0\/v7=1 by omega) with rfl|rfl)|(go_at_call 62;refine(pick rb (k+2+11*i) 3 _ hR (by omega) (by omega)).mono ?_;rintro e w6 ⟨v6,rfl,hv6,_,hR6,hBs6⟩;obtain⟨hv60,hv61⟩:=hv6 (by omega);have B6:=Lib.hid (hB.out.trans hBs6);clear hBs6))
   all_goals first|(go_roundw;(case rel=>exact⟨_,_,i+1,rfl,rfl,by go_num,by omega,by omega,by omega,by simp[zaO];omega,by simp[zaO];omega,hR8.mono (by omega),B8⟩);(case measure=>simp[RowKit.intOf];omega))|(go_ret;exact⟨_,rfl,by simp[zaO];omega,by simp[zaO];omega,hR.mono (by omega),hB.out⟩)

theorem tR {x:ByteArray} {l:List (List UInt8)} (h:x.data.toList∈l) (hl:(l.all fun n=>decide (1<=n.length))=true):1<=x.size:=by
 have:=List.all_eq_true.1 hl _ h;have h2:1<=x.data.toList.length:=by simpa using this
 rw[aC] at h2;exact h2
theorem uR (m:Nat) (l:List (List UInt8)) (v:Int) (h0:0<=v) (h1:v<l.length) (hl:(l.all fun n=>decide (n.length<=m))=true):∃ x:ByteArray,x.size<=m/\x.data.toList∈l/\∀ h:v.toNat<(l.map tx).length,(l.map tx)[v.toNat]'h=.string x:=by
 have hv:v.toNat<l.length:=by omega
 have:=List.all_eq_true.1 hl l[v.toNat] (zaQ _);exact⟨⟨(l[v.toNat]).toArray⟩,by simpa[aW] using this,zaQ _,fun h=>by rw[zaR]⟩
theorem uM (rb k:Nat) (w:World) (H:Rd w rb k) (hk:k<=700000) :
  Calls Tryz.prog 37 #[.pointer (some ⟨rb,0,none⟩)] w fun e w'=>∃ s:ByteArray,e=.returned (.string s)/\s.size<=1900/\Rd w' rb (k+170)/\aA rb w w':=by
 have R0:=H.lt;have HH:=hid H;clear H;go_enter Tryz.func37,Tryz.ntmps37;go_upto_region 2 with(first|(go_at_call 61;have _u:=hR5;refine(mQ rb (k+102) x2 ⟨#[99]⟩ hx21 hx22 (show(1:Nat)<=1 by omega) _ hR5 (by omega)).mono ?_;rintro e w6 ⟨S3,rfl,hS31,hS32,hR6,hBs6⟩;have B6:=Lib.hid (B5.out.trans hBs6);clear hBs6)|(go_at_call 62;have _u:=hR4;refine(pick rb (k+101) 3 _ (hR4.alloc _) (by omega) (by omega)).mono ?_;rintro e w5 ⟨v5,rfl,hv5,_,hR5,hBs5⟩;obtain⟨hv50,hv51⟩:=hv5 (by omega);obtain⟨x2,hx21,hx2m,hx2c⟩:=cM 1 [[82],[69],[85]] hBs5 hR4.lt v5 hv50 hv51 (by decide);have hx22:=tR hx2m (by decide);have B5:=Lib.hid ((B4.out.alloc _).trans hBs5);clear hBs5)|(go_at_call 61;have _u:=hR3;refine(mQ rb (k+51) x1 ⟨#[98]⟩ hx11 hx12 (show(1:Nat)<=1 by omega) _ hR3 (by omega)).mono ?_;rintro e w4 ⟨S2,rfl,hS21,hS22,hR4,hBs4⟩;have B4:=Lib.hid (B3.out.trans hBs4);clear hBs4)|(go_at_call 62;have _u:=hR2;refine(pick rb (k+50) 4 _ (hR2.alloc _) (by omega) (by omega)).mono ?_;rintro e w3 ⟨v3,rfl,hv3,_,hR3,hBs3⟩;obtain⟨hv30,hv31⟩:=hv3 (by omega);obtain⟨x1,hx11,hx1m,hx1c⟩:=cM 1 [[82],[85],[85],[69]] hBs3 hR2.lt v3 hv30 hv31 (by decide);have hx12:=tR hx1m (by decide);have B3:=Lib.hid ((B2.out.alloc _).trans hBs3);clear hBs3)|(go_at_call 61;refine(mQ rb k ⟨#[82]⟩ ⟨#[97]⟩ (show(1:Nat)<=1 by omega) (show(1:Nat)<=1 by omega) (show(1:Nat)<=1 by omega) _ HH.out (by omega)).mono ?_;rintro e w2 ⟨S1,rfl,hS11,hS12,hR2,hBs2⟩;have B2:=Lib.hid hBs2;clear hBs2))
 go_cut [3,30] from 23 (fun s3 s30 wx=>∃ (S:ByteArray) (b:Bool),s3=.string S/\s30=.bool b/\1<=S.size/\S.size<=1800/\Rd wx rb (k+160)/\Hid (aA rb w wx))
 case first =>
  have hsz:(S1++S2++S3).size<=1800:=by simp[zaO];omega
  have hsz1:1<=(S1++S2++S3).size:=by simp[zaO];omega
  have HSO:=hid fun wz=>vH (S1++S2++S3) wz (by omega);obtain⟨B,hB⟩:∃ B,okL (S1++S2++S3).data.toList=B:=⟨_,rfl⟩;rw[hB] at HSO;clear hB;go_wp2_with (first|(go_at_call 62;have _u:=hR7;refine(pick rb (k+152) 8 _ hR7 (by omega) (by omega)).mono ?_;rintro e w8 ⟨v8,rfl,hv8,_,hR8,hBs8⟩;have B8:=Lib.hid (B7.out.trans hBs8);clear hBs8)|(go_at_call 63;refine(HSO.out _).mono ?_;rintro e w7 ⟨rfl,hb7⟩;have hR7:=hR6.below hb7 hR6.lt;have B7:=Lib.hid (B6.out.trans (aA.aF hb7 (zaA)));clear hb7))
  all_goals go_meet
  all_goals exact⟨_,_,rfl,rfl,hsz1,hsz,by first|exact hR8.mono (by omega)|exact hR7.mono (by omega),by first|exact B8|exact B7⟩
 case rest =>
  obtain⟨S,b,rfl,rfl,hS1,hS2,hR,hB⟩:=hcut;go_upto_if 30 with fail
  go_cut [3] from 23 (fun s3 wx=>∃ (S':ByteArray),s3=.string S'/\1<=S'.size/\S'.size<=1800/\wx=wc)
  case first =>
   cases b
   ·go_wp2_with fail
    go_meet
    exact⟨S,rfl,hS1,hS2,rfl⟩
   ·go_wp2_with fail
    go_meet
    exact⟨_,rfl,by decide,by decide,rfl⟩
  case rest =>
   obtain⟨S',rfl,hS3,hS4,rfl⟩:=hcut;go_wp2_with (first|(go_at_call 62;have _u:=hR9;refine(pick rb (k+161) S'.size _ hR9 (by omega) (by omega)).mono ?_;rintro e w10 ⟨v10,rfl,hv10,_,hR10,hBs10⟩;obtain⟨hv100,hv101⟩:=hv10 (by omega);obtain⟨n10,rfl⟩:=Int.eq_ofNat_of_zero_le hv100;have B10:=Lib.hid (B9.out.trans hBs10);clear hBs10 hv10)|(go_at_call 62;refine(pick rb (k+160) 24 _ hR (by omega) (by omega)).mono ?_;rintro e w9 ⟨v9,rfl,hv9,_,hR9,hBs9⟩;have B9:=Lib.hid (hB.out.trans hBs9);clear hBs9 hv9))
   ·have kk1:n10<S'.size:=by omega
    have kk2:n10<=S'.size:=(by omega);have kk3:n10+1<=S'.size:=(by omega);have kk4:(0:Int)<=(n10:Int)+1:=(by omega);have kk5:(n10:Int)+1<=(S'.size:Int):=(by omega);have kw:IntKind.i64.wrap ((n10:Int)+1)=(n10:Int)+1:=by
     have:=kU (n10+1) (by omega);rw[show((n10+1:Nat):Int)=(n10:Int)+1 by omega] at this;exact this
    have ks:∀ wz,(Instr.slice 9 (.string S') (some (.int .i64 ((n10:Int)+1))) none none).run Tryz.prog wz=.ok (.string (S'.extract (n10+1) S'.size)) wz:=fun wz=>run_slice_string_l wz 9 S' Tryz.underlying9 .i64 ((n10:Int)+1) kk4 kk5;go_region_with (first|(go_at_call 62;refine(pick rb (k+162) 5 _ ((hR10.alloc _).drewN 1) (by omega) (by omega)).mono ?_;rintro e w11 ⟨v11,rfl,hv11,_,hR11,hBs11⟩;obtain⟨hv110,hv111⟩:=hv11 (by omega);obtain⟨x,hx0,hxm,hxc⟩:=cM 1 [[],[44],[58],[49],[10]] (w1:=w10) (aA.trans (aA.drew (aA.refl _ _)) hBs11) hR10.lt v11 hv110 hv111 (by decide);have a1:=fun wz=>zbH (P:=Tryz.prog) (w:=wz) (S'.extract 0 n10) x (by rw[zaY];omega);have a2:=fun wz=>zbH (P:=Tryz.prog) (w:=wz) (S'.extract 0 n10++x) (S'.extract (n10+1) S'.size) (by rw[zaO,zaY,zaY];omega);have B11:=Lib.hid (((B10.out.alloc _).drew).trans hBs11);clear hBs11 hv11)|(go_at_call 62;refine(pick rb (k+162) 5 _ (hR10.drewN 1) (by omega) (by omega)).mono ?_;rintro e w11 ⟨v11,rfl,hv11,_,hR11,hBs11⟩;obtain⟨hv110,hv111⟩:=hv11 (by omega);obtain⟨x,hx0,hxm,hxc⟩:=uR 1 [[],[44],[58],[49],[10]] v11 hv110 hv111 (by decide);have hel:∀ h,[Value.string ⟨#[]⟩,Value.string ⟨#[44]⟩,Value.string ⟨#[58]⟩,Value.string ⟨#[49]⟩,Value.string ⟨#[10]⟩][v11.toNat]'h=.string x:=(fun h=>hxc h);clear hxc;have a1:=fun wz=>zbH (P:=Tryz.prog) (w:=wz) (S'.extract 0 n10) x (by rw[zaY];omega);have a2:=fun wz=>zbH (P:=Tryz.prog) (w:=wz) (S'.extract 0 n10++x) (S'.extract (n10+1) S'.size) (by rw[zaO,zaY,zaY];omega);have B11:=Lib.hid ((B10.out.drew).trans hBs11);clear hBs11 hv11))
    all_goals go_wp2_with fail
    all_goals go_ret
    all_goals exact⟨_,rfl,by rw[zaO,zaO,zaY,zaY];omega,by first|exact hR11.mono (by omega)|exact(hR11.alloc _).mono (by omega),by first|exact B11.out|exact B11.out.alloc _⟩
   ·go_ret
    exact⟨S',rfl,by omega,hR9.mono (by omega),B9.out⟩

theorem lY (w:World) (h:w.ShapedOpen Tryz.prog):∃ m,ML m w:=Tryz.laysM145.s1_3 w h





def bG (what:UInt8) (tag:Nat) (kids:List Wf.V):List Nat:=if what=82 then kids.map Wf.V.tag else if what=85\/what=69 then [tag] else []
def aZ (what:UInt8) (text:List UInt8) (kd t:List UInt8):Prop :=
 if what=110 then kd.head? = some 110/\t=text
 else if what=116 then kd.head? = some 116/\t=39::(text++[39])
 else if what=102 then kd.head? = some 102/\t=text
 else if what=91 then kd.head? = some 91/\t=[]
 else if what=63 then kd.head? = some 63/\t=[]
 else if what=82 then kd.head? = some 64/\t=[82]
 else if what=85 then kd.head? = some 64/\t=[85]
 else if what=69 then kd.head? = some 64/\t=[69]
 else False
theorem aI.lts {w:World} {b:Nat} {v:Value} {xs:List Value} (h:aI w b v xs):xs=[]\/b<w.heap.size:=by
 obtain⟨a,cap,h1,h2,h3,h4|⟨o,h5,h6,h7⟩⟩:=h
 ·exact .inl h4
 ·exact .inr h6
mutual
def LV (W:World) (P:Nat->Prop):Wf.V->Nat->Prop
 | .mk what text tag kids,b=>(what=61/\LVs W P kids [b])\/(what≠61/\P b/\b<W.heap.size/\∃ (kd t:List UInt8) (tv kv:Value) (tb kb:Nat) (bs:List Nat),
   W.cell? ⟨b,0,none⟩=some (tx kd)/\W.cell? ⟨b,1,none⟩=some (tx t)/\W.cell? ⟨b,2,none⟩=some tv/\W.cell? ⟨b,3,none⟩=some kv /\
   aI W tb tv ((bG what tag kids).map ix)/\(bG what tag kids=[]\/P tb)/\aI W kb kv (bs.map ptr)/\(bs=[]\/P kb)/\aZ what text kd t/\LVs W P kids bs)
def LVs (W:World) (P:Nat->Prop):List Wf.V->List Nat->Prop
 | [],bs=>bs=[]
 | v::l,bs=>∃ b bs',bs=b::bs'/\LV W P v b/\LVs W P l bs'
end
section
variable {W W':World} {P Q:Nat->Prop}
mutual
theorem LV.keep (hk:∀ b,P b->b<W.heap.size->Q b/\W'.heap[b]? = W.heap[b]?) (hs:W.heap.size<=W'.heap.size):∀ (v:Wf.V) (b:Nat),LV W P v b->LV W' Q v b
 | .mk what text tag kids,b,h=>by
  simp only[LV] at h ⊢;rcases h with⟨h1,h2⟩|⟨h1,h2,h3,kd,t,tv,kv,tb,kb,bs,c0,c1,c2,c3,r1,r2,r3,r4,h4,h5⟩
  ·exact .inl ⟨h1,LVs.keep hk hs kids [b] h2⟩
  ·right
   have cc:=fun o=>zbJ (w:=W) (w':=W') (a:=⟨b,o,none⟩) (hk b h2 h3).2;refine⟨h1,(hk b h2 h3).1,zaC h3 hs,kd,t,tv,kv,tb,kb,bs,(cc 0).trans c0,(cc 1).trans c1,(cc 2).trans c2,(cc 3).trans c3,?_,?_,?_,?_,h4,LVs.keep hk hs kids bs h5⟩
   ·rcases r2 with r2|r2
    ·rw[r2] at r1 ⊢
     obtain⟨a,c,e1,e2,e3,_⟩:=r1;exact⟨a,c,e1,e2,e3,.inl rfl⟩
    ·exact r1.keep hs fun hx=>(hk tb r2 hx).2
   ·rcases r2 with r2|r2
    ·exact .inl r2
    ·rcases r1.lts with h0|h0
     ·exact .inl (List.map_eq_nil_iff.1 h0)
     ·exact .inr (hk tb r2 h0).1
   ·rcases r4 with r4|r4
    ·rw[r4] at r3 ⊢
     obtain⟨a,c,e1,e2,e3,_⟩:=r3;exact⟨a,c,e1,e2,e3,.inl rfl⟩
    ·exact r3.keep hs fun hx=>(hk kb r4 hx).2
   ·rcases r4 with r4|r4
    ·exact .inl r4
    ·rcases r3.lts with h0|h0
     ·exact .inl (List.map_eq_nil_iff.1 h0)
     ·exact .inr (hk kb r4 h0).1
theorem LVs.keep (hk:∀ b,P b->b<W.heap.size->Q b/\W'.heap[b]? = W.heap[b]?) (hs:W.heap.size<=W'.heap.size):∀ (l:List Wf.V) (bs:List Nat),LVs W P l bs->LVs W' Q l bs
 | [],_,h=>by simp only[LVs] at h ⊢;exact h
 | v::l,bs,h=>by
  simp only[LVs] at h ⊢;obtain⟨b,bs',h1,h2,h3⟩:=h;exact⟨b,bs',h1,LV.keep hk hs v b h2,LVs.keep hk hs l bs' h3⟩
end
theorem LV.mono {v:Wf.V} {b:Nat} (h:LV W P v b) (hk:∀ b,P b->b<W.heap.size->Q b):LV W Q v b:=LV.keep (fun b h1 h2=>⟨hk b h1 h2,rfl⟩) (zaA) v b h
theorem LV.below {v:Wf.V} {b:Nat} (h:LV W P v b) (hb:Below W.heap.size W W'):LV W' P v b:=LV.keep (fun b h1 h2=>⟨h1,hb.block b h2⟩) hb.size v b h
theorem LVs.len:∀ {l:List Wf.V} {bs:List Nat},LVs W P l bs->bs.length=l.length:=by
 intro l;induction l with
 | nil=>intro bs h;simp only[LVs] at h;rw[h];rfl
 | cons v l ih =>
  intro bs h;simp only[LVs] at h;obtain⟨b,bs',rfl,_,h⟩:=h;simp[ih h]
theorem LVs.get:∀ {l:List Wf.V} {bs:List Nat},LVs W P l bs->∀ i (h1:i<l.length) (h2:i<bs.length),LV W P l[i] bs[i]:=by
 intro l;induction l with
 | nil=>intro bs _ i h1;simp at h1
 | cons v l ih =>
  intro bs h i h1 h2;simp only[LVs] at h;obtain⟨b,bs',rfl,h3,h4⟩:=h;cases i with
  | zero=>exact h3
  | succ i=>exact ih h4 i (by simpa using h1) (by simpa using h2)
theorem LV.form {v:Wf.V} {b:Nat} (h:LV W P v b) (hw:v.what≠61):P b/\b<W.heap.size/\∃ (kd t:List UInt8) (tv kv:Value) (tb kb:Nat) (bs:List Nat),
   W.cell? ⟨b,0,none⟩=some (tx kd)/\W.cell? ⟨b,1,none⟩=some (tx t)/\W.cell? ⟨b,2,none⟩=some tv/\W.cell? ⟨b,3,none⟩=some kv /\
   aI W tb tv ((bG v.what v.tag v.kids).map ix)/\aI W kb kv (bs.map ptr)/\aZ v.what v.text kd t/\LVs W P v.kids bs:=by
 cases v with
 | mk what text tag kids =>
  simp only[LV] at h;rcases h with⟨h1,_⟩|⟨h1,h2,h3,kd,t,tv,kv,tb,kb,bs,c0,c1,c2,c3,r1,r2,r3,r4,h4,h5⟩
  ·exact absurd h1 hw
  ·exact⟨h2,h3,kd,t,tv,kv,tb,kb,bs,c0,c1,c2,c3,r1,r3,h4,h5⟩
theorem LV.field {text:List UInt8} {tag:Nat} {u:Wf.V} {b:Nat}:LV W P (.mk 61 text tag [u]) b↔LV W P u b:=by
 simp only[LV,LVs];constructor
 ·rintro(⟨_,b',bs',h1,h2,h3⟩|⟨h,_⟩)
  ·simp only[List.cons.injEq] at h1
   rw[h1.1];exact h2
  ·exact absurd rfl h
 ·intro h
  exact .inl ⟨trivial,b,[],rfl,h,rfl⟩
theorem LV.mk {what:UInt8} {text kd t:List UInt8} {tag b tb kb:Nat} {tv kv:Value} {kids:List Wf.V} {bs:List Nat} (hw:what≠61) (hp:P b) (hb:b<W.heap.size)
  (c0:W.cell? ⟨b,0,none⟩=some (tx kd)) (c1:W.cell? ⟨b,1,none⟩=some (tx t)) (c2:W.cell? ⟨b,2,none⟩=some tv) (c3:W.cell? ⟨b,3,none⟩=some kv)
  (r1:aI W tb tv ((bG what tag kids).map ix)) (r2:bG what tag kids=[]\/P tb) (r3:aI W kb kv (bs.map ptr)) (r4:bs=[]\/P kb) (hs:aZ what text kd t) (hk:LVs W P kids bs):LV W P (.mk what text tag kids) b:=by
 simp only[LV];exact .inr ⟨hw,hp,hb,kd,t,tv,kv,tb,kb,bs,c0,c1,c2,c3,r1,r2,r3,r4,hs,hk⟩
end

theorem oQ (ps:List (List UInt8)):ps.length<=(Wf.commas ps).length+1:=by
 cases ps with
 | nil=>simp
 | cons a l=>have:=Wf.gK (a::l) (by simp);omega
theorem bC {kd:List UInt8} {c:UInt8} (h:kd.head? = some c):0<(⟨kd.toArray⟩:ByteArray).size/\∀ h,((⟨kd.toArray⟩:ByteArray)[0]'h).toNat=c.toNat:=by
 cases kd with
 | nil=>simp at h
 | cons a r =>
  simp at h;subst h;exact⟨by simp[ByteArray.size],fun _=>rfl⟩
theorem aI.get {w:World} {b:Nat} {a:Option Addr} {n c:Nat} {xs:List Value} (h:aI w b (.slice a n c) xs) {i:Nat} (hi:i<xs.length):∃ o,a=Option.some ⟨b,o,none⟩/\b<w.heap.size/\n<=c/\c<=maxLen/\w.cell? ⟨b,o+i,none⟩=Option.some xs[i]:=by
 obtain⟨a',c',h1,h2,h3,h4⟩:=h;simp only[Value.slice.injEq] at h1;obtain⟨rfl,rfl,rfl⟩:=h1;rcases h4 with h4|⟨o,g1,g2,g3⟩
 ·rw[h4] at hi;simp at hi
 ·exact⟨o,g1,g2,h2,h3,(g3 i hi).1⟩
theorem aI.form {w:World} {b:Nat} {v:Value} {xs:List Value} (h:aI w b v xs):∃ a c,v=.slice a xs.length c/\xs.length<=c/\c<=maxLen:=by
 obtain⟨a,c,h1,h2,h3,_⟩:=h;exact⟨a,c,h1,h2,h3⟩
theorem vV (b q:Nat) (KD T:ByteArray) (w:World) (hlt:b<w.heap.size) (hs:0<KD.size) (e0:∀ h,(KD[0]'h).toNat=q) (hq:q=110\/q=116\/q=102) (c0:w.cell? ⟨b,0,none⟩=some (.string KD)) (c1:w.cell? ⟨b,1,none⟩=some (.string T)) :
  Calls Tryz.prog 66 #[ptr b] w fun e w'=>e=.returned (.string T)/\w=w':=by
 rcases hq with rfl|rfl|rfl;all_goals
  go_enter Tryz.func66,Tryz.ntmps66;go_wp2_with fail
  go_ret
  exact⟨rfl,rfl⟩
theorem zX (b c:Nat) (KD:ByteArray) (a:Option Addr) (w:World) (hlt:b<w.heap.size) (hs:0<KD.size) (e0:∀ h,(KD[0]'h).toNat=63) (c0:w.cell? ⟨b,0,none⟩=some (.string KD)) (c3:w.cell? ⟨b,3,none⟩=some (.slice a 0 c)) :
  Calls Tryz.prog 66 #[ptr b] w fun e w'=>e=.returned (tx [45])/\w=w':=by
 go_enter Tryz.func66,Tryz.ntmps66;go_wp2_with fail
 go_ret
 exact⟨rfl,rfl⟩
theorem a4U (b kb o u c:Nat) (KD T:ByteArray) (w:World) (hlt:b<w.heap.size) (hs:0<KD.size) (e0:∀ h,(KD[0]'h).toNat=63) (c0:w.cell? ⟨b,0,none⟩=some (.string KD)) (c3:w.cell? ⟨b,3,none⟩=some (.slice (some ⟨kb,o,none⟩) 1 c)) (hkb:kb<w.heap.size) (ck:w.cell? ⟨kb,o,none⟩=some (ptr u)) (h1:1<=c) (hc:c<=maxLen) (hT:T.size<=2000000)
  (hk:∀ wz,Below w.heap.size w wz->Calls Tryz.prog 66 #[ptr u] wz fun e w'=>e=.returned (.string T)/\Below wz.heap.size wz w') :
  Calls Tryz.prog 66 #[ptr b] w fun e w'=>e=.returned (tx (43::T.data.toList))/\Below w.heap.size w w':=by
 have HK:=hid hk;have HO:=hid (show(⟨#[43]⟩:ByteArray)++T=⟨(43::T.data.toList).toArray⟩ by rw[aS];simp);unfold maxLen at hc;clear hk;go_enter Tryz.func66,Tryz.ntmps66;go_wp2_with (go_at_call 66;refine(HK.out _ (zaB)).mono ?_;rintro e w2 ⟨rfl,hb2⟩;have HB2:=hid hb2;clear hb2)
 go_ret
 exact⟨aX HO.out,HB2.out⟩
theorem vG (b kb:Nat) (KD:ByteArray) (kv:Value) (bs:List Nat) (ps:List (List UInt8)) (w:World) (hlt:b<w.heap.size) (hs:0<KD.size) (e0:∀ h,(KD[0]'h).toNat=91) (c0:w.cell? ⟨b,0,none⟩=some (.string KD)) (c3:w.cell? ⟨b,3,none⟩=some kv) (hrow:aI w kb kv (bs.map ptr)) (hl:bs.length=ps.length) (hsz:(Wf.commas ps).length<=2000000)
  (hk:∀ i (h1:i<bs.length) (h2:i<ps.length) wz,Below w.heap.size w wz->Calls Tryz.prog 66 #[ptr bs[i]] wz fun e w'=>e=.returned (tx ps[i])/\Below wz.heap.size wz w') :
  Calls Tryz.prog 66 #[ptr b] w fun e w'=>e=.returned (tx (91::(Wf.commas ps++[93])))/\Below w.heap.size w w':=by
 obtain⟨a,c,rfl,hnc,hcm⟩:=hrow.form;obtain⟨m,hm⟩:∃ m,(bs.map ptr).length=m:=⟨_,rfl⟩;have hbm:bs.length=m:=by rw[<-hm,zaG]
 have hpm:ps.length=m:=by omega
 have hm6:m<=2000001:=by have:=oQ ps;omega
 have HBM:=hid hbm;have HPM:=hid hpm;have HMM:=hid hm;rw[hm] at c3 hrow hnc;have HROW:=hid hrow;have HK:=hid hk;have HSZ:=hid hsz;unfold maxLen at hcm;clear hrow hk hl hsz hm hbm hpm;go_enter Tryz.func66,Tryz.ntmps66;go_wp2_with fail
 go_loopw [3,4] (fun s3 s4 wr=>∃ (i:Nat) (S:ByteArray),s3=.string S/\s4=.int .i64 i/\i<=m/\S.size<=2000001/\Hid (S.data.toList=91::Wf.commas (ps.take i)/\Below w.heap.size w wr)) (fun _ s4 _=>m-(RowKit.intOf s4).toNat)
 case atStart=>exact⟨0,⟨#[91]⟩,rfl,rfl,Nat.zero_le _,by decide,hid ⟨rfl,zaB⟩⟩
 case round =>
  obtain⟨i,S,rfl,rfl,hi,hS,hh⟩:=hrel;have hbw:b<wr.heap.size:=zaC hlt hh.out.2.size;have y3:=(hh.out.2.cell (p:=⟨b,3,none⟩) hlt).trans c3;by_cases hlt2:i<m
  ·have hib:i<bs.length:=by rw[HBM.out];exact hlt2
   have hip:i<ps.length:=(by rw[HPM.out];exact hlt2);obtain⟨o,rfl,hkb,_,_,ck⟩:=HROW.out.get (i:=i) (by rw[HMM.out];exact hlt2);rw[zaR] at ck;obtain⟨u,hu⟩:∃ u,bs[i]=u:=⟨_,rfl⟩;obtain⟨T,hT⟩:∃ T:ByteArray,(⟨(ps[i]).toArray⟩:ByteArray)=T:=⟨_,rfl⟩;rw[hu] at ck;have hkw:kb<wr.heap.size:=zaC hkb hh.out.2.size;have yk:=(hh.out.2.cell (p:=⟨kb,o+i,none⟩) hkb).trans ck;have HC:=hid (show Calls Tryz.prog 66 #[ptr u] wr fun e w'=>e=.returned (.string T)/\Below wr.heap.size wr w' by
    have:=HK.out i hib hip wr hh.out.2;rw[hu] at this;simp only[tx,hT] at this;exact this)
   have HSTEP:=hid (Wf.oX hip);have hTs:T.size<=2000000:=by
    have h1:=Wf.cV (zaQ hip);rw[<-hT,<-aC];show(ps[i]).length<=_;exact zaI h1 HSZ.out
   have HTL:=hid (show T.data.toList=ps[i] by rw[<-hT]);have HTK:=hid (show(Wf.commas (ps.take (i+1))).length<=2000000 from zaI (Wf.pN _) HSZ.out);have fin:∀ S':ByteArray,S'.data.toList=91::Wf.commas (ps.take (i+1))->S'.size<=2000001:=fun S' h=>by
    have:=HTK.out;rw[<-aC,h];simp only[zaF];omega
   have FIN:=hid fin;clear hu hT ck fin;by_cases hi0:i=0
   ·subst hi0
    rw[Nat.add_zero] at yk;have HE:=hid (show(S++T).data.toList=91::Wf.commas (ps.take (0+1)) by
     rw[HSTEP.out,if_pos rfl,zaU,zaW,hh.out.1,HTL.out];rfl)
    go_wp2_with (go_at_call 66;refine HC.out.mono ?_;rintro e w2 ⟨rfl,hb2⟩;have HB2:=hid hb2;clear hb2)
    go_roundw
    case rel=>exact⟨0+1,S++T,by rfl,by go_num,by omega,FIN.out _ HE.out,hid ⟨HE.out,hh.out.2.trans (HB2.out.mono hh.out.2.size)⟩⟩
    case measure=>simp[RowKit.intOf];omega
   ·have hip0:0<i:=by omega
    have HE:=hid (show(S++⟨#[44]⟩++T).data.toList=91::Wf.commas (ps.take (i+1)) by
     rw[HSTEP.out,if_neg hi0,zaU,zaU,zaW,zaW,hh.out.1,HTL.out];simp)
    clear hi0;go_wp2_with (go_at_call 66;refine HC.out.mono ?_;rintro e w2 ⟨rfl,hb2⟩;have HB2:=hid hb2;clear hb2)
    go_roundw
    case rel=>exact⟨i+1,S++⟨#[44]⟩++T,by rfl,by go_num,by omega,FIN.out _ HE.out,hid ⟨HE.out,hh.out.2.trans (HB2.out.mono hh.out.2.size)⟩⟩
    case measure=>simp[RowKit.intOf];omega
  ·have him:i=m:=by omega
   subst him;have HE:=hid (show S++(⟨#[93]⟩:ByteArray)=⟨(91::(Wf.commas ps++[93])).toArray⟩ by
    rw[aS,zaU,zaW,hh.out.1,zaS (by rw[HPM.out];exact zaA)];simp)
   go_wp2_with fail
   go_ret
   exact⟨aX HE.out,hh.out.2⟩
