/- Packed. -/
import Derived.Test.YtidjpalnmnehmaaGreatDoorK29
set_option maxRecDepth 99999
set_option maxHeartbeats 40000000
set_option linter.all false
namespace Go.Proofs.YtidjpalnmnehmaaGreatDoor
open Go.ChangeShapes Go.WideShapes Go.ChangeAt Go.RowKit Go.Lib
theorem read (x:Wf.Sc) (hx:Wf.ScOk x) (k:Wf.K) (hk:KOk x k) (lo sb:Nat) (s:List UInt8) (hs:s.length<=9000000000) (W w:World) (hsc:ScL W lo sb x) (hW:Below W.heap.size W w):Calls Tryz.prog 48 #[ptr sb,kV k,tx s] w fun e w'=>bT x k s w e w'/\Below w.heap.size w w':=by
 by_cases h:s.length<=400
 ·exact xA x k sb s W w hx lo hsc hk h hW
 ·exact yN x k sb s w h hs
def valOf (l kt s:List UInt8):Option ((Wf.Sc × Wf.K) × Wf.V):=match aV l kt with
 | some y=>(match Wf.valIn y.1 y.2 s with
  | some v=>some (y,v)
  | none=>none)
 | none=>none
def bC (l kt s:List UInt8) (lo:Nat) (e:Ending) (w':World):Prop:=match valOf l kt s with
 | some y=>∃ sb cs,e=.returned (.tuple #[ptr sb,kV y.1.2,.agg cs.toArray,.bool true])/\ScL w' lo sb y.1.1/\VC w' (fun b=>lo<=b) y.2 cs
 | none=>∃ p a b c,e=.returned (.tuple #[.pointer p,.agg #[.string a,.string b,.string c],.agg #[.int .u8 0,.string ⟨#[]⟩,.int .i64 0,.slice none 0 0],.bool false])
theorem bC.no {l kt s:List UInt8} {lo:Nat} {e:Ending} {w':World} (h:valOf l kt s=none) (he:∃ p a b c,e=.returned (.tuple #[.pointer p,.agg #[.string a,.string b,.string c],.agg #[.int .u8 0,.string ⟨#[]⟩,.int .i64 0,.slice none 0 0],.bool false])):bC l kt s lo e w':=by
 unfold bC;rw[h];exact he
theorem bC.yes {l kt s:List UInt8} {lo:Nat} {e:Ending} {w':World} {y:(Wf.Sc × Wf.K) × Wf.V} (h:valOf l kt s=some y) (he:∃ sb cs,e=.returned (.tuple #[ptr sb,kV y.1.2,.agg cs.toArray,.bool true])/\ScL w' lo sb y.1.1/\VC w' (fun b=>lo<=b) y.2 cs):bC l kt s lo e w':=by
 unfold bC;rw[h];exact he
theorem gW {l kt:List UInt8} {y:Wf.Sc × Wf.K} (h:aV l kt=some y):Wf.ScOk y.1/\KOk y.1 y.2:=by
 obtain⟨h1,h2,h3,h4,h5⟩:=jJ h;exact⟨Wf.gE h1,⟨by rw[h4];exact h5,h3⟩⟩
structure iV (wr:World) (b:Nat):Prop where
 lt:b<wr.heap.size
 r0:wr.cell? ⟨b,0,none⟩=some (.string ⟨#[]⟩)
 r1:wr.cell? ⟨b,1,none⟩=some (.string ⟨#[]⟩)
 r2:wr.cell? ⟨b,2,none⟩=some (.string ⟨#[]⟩)
 f0:wr.frozen? ⟨b,0,none⟩=false
 f1:wr.frozen? ⟨b,1,none⟩=false
 f2:wr.frozen? ⟨b,2,none⟩=false
theorem iV.below {wr w2:World} {b B:Nat} (h:iV wr b) (hb:Below B wr w2) (hr:b<B):iV w2 b:=by
 have h1:=hb.block b hr;have cd:=fun o=>zbJ (w:=wr) (w':=w2) (a:=⟨b,o,none⟩) h1;have cf:=fun o=>World.frozen?_of_block (w:=wr) (w':=w2) (a:=⟨b,o,none⟩) h1;exact⟨zaC h.lt hb.size,(cd 0).trans h.r0,(cd 1).trans h.r1,(cd 2).trans h.r2,(cf 0).trans h.f0,(cf 1).trans h.f1,(cf 2).trans h.f2⟩
theorem qS (w:World) (W1:World) (hW1:(w.alloc (.cells #[.string ⟨#[]⟩,.string ⟨#[]⟩,.string ⟨#[]⟩] 48)).alloc (.cells #[.int .u8 0,.string ⟨#[]⟩,.int .i64 0,.slice none 0 0] 51)=W1) :
  iV W1 w.heap.size/\Zero W1 (w.heap.size+1)/\Below w.heap.size w W1:=by
 have hB:Below w.heap.size w W1:=by
  rw[<-hW1];exact(((zaB).alloc (zaA) _).alloc (by simp) _)
 subst hW1;refine⟨⟨?_,?_,?_,?_,?_,?_,?_⟩,⟨?_,?_,?_,?_,?_,?_,?_,?_,?_⟩,hB⟩;all_goals first|(simp[go_sem];done)|(simp[go_sem];omega)
structure Over (B:Nat) (w w':World):Prop where
 size:w.heap.size<=w'.heap.size
 block:∀ k,B<=k->k<w.heap.size->w'.heap[k]? = w.heap[k]?
theorem Over.refl (B:Nat) (w:World):Over B w w:=⟨zaA,fun _ _ _=>rfl⟩
theorem Over.drew {B:Nat} {w w':World} (h:Over B w w'):Over B w w'.drew:=⟨h.size,h.block⟩
theorem Over.setCell {B:Nat} {w w':World} (h:Over B w w') {p:Addr} (hp:p.block<B) (v:Value):Over B w (w'.setCell p v):=by
 have hs:(w'.setCell p v).heap.size=w'.heap.size:=by simp
 refine⟨by rw[hs];exact h.size,fun k hk hl=>(Below.heap_setCell w' p v k (by omega)).trans (h.block k hk hl)⟩
theorem Over.alloc {B:Nat} {w w':World} (h:Over B w w') (o:Obj):Over B w (w'.alloc o):=by
 have hb:=(Below.refl w'.heap.size w').alloc (zaA) o;exact⟨zaI h.size hb.size,fun k hk hl=>(hb.block k (zaC hl h.size)).trans (h.block k hk hl)⟩
theorem Over.below {B:Nat} {w w1 w2:World} (h:Over B w1 w2) (hb:Below w.heap.size w w1):∀ k,B<=k->k<w.heap.size->w2.heap[k]? = w.heap[k]?:=fun k hk hl=>(h.block k hk (zaC hl hb.size)).trans (hb.block k hl)
theorem zE (s kt:ByteArray) (v:ByteArray) (m:Int) (w:World) (hm:ML m w) (hs:s.size<=1048576) (hkt:kt.size<=1048576) (h:aV s.data.toList kt.data.toList=none):Calls Tryz.prog 27 #[.string s,.string kt,.string v] w fun e w'=>bC s.data.toList kt.data.toList v.data.toList w.heap.size e w'/\Below w.heap.size w w':=by
 have HN:=hid (show valOf s.data.toList kt.data.toList v.data.toList=none by unfold valOf;rw[h]);have HB:=hid fun w2 (h2:Below w.heap.size w w2)=>(both s kt m w2 (hm.below h2) hs hkt).mono (R':=fun e w'=>(∃ p a b c,e=.returned (.tuple #[.pointer p,.agg #[.string a,.string b,.string c],.bool false]))/\Below w2.heap.size w2 w') fun e w' ⟨h3,h4⟩=>⟨by unfold cT at h3;rw[h] at h3;exact h3,h4⟩;have ST:=hid fun W1 h=>qS w W1 h;clear h hm;go_enter Tryz.func27,Tryz.ntmps27;go_wp2_with (go_at_call 31;obtain⟨zk,zv,b0⟩:=ST.out _ rfl;refine(HB.out _ b0).mono ?_;rintro e w1 ⟨⟨p,a,b,c,rfl⟩,hb1⟩;have B1:=hid (aC b0 hb1);obtain⟨kl,kr0,kr1,kr2,kf0,kf1,kf2⟩:=zk.below hb1 zk.lt;obtain⟨zl,zr0,zr1,zr2,zr3,zf0,zf1,zf2,zf3⟩:=zv.below hb1 zv.lt;clear hb1 zk zv b0)
 exact zbD (v:=.tuple #[.pointer none,.agg #[.string ⟨#[]⟩,.string ⟨#[]⟩,.string ⟨#[]⟩],.agg #[.int .u8 0,.string ⟨#[]⟩,.int .i64 0,.slice none 0 0],.bool false]) (by simp[results,Tryz.results27,go_sem, *]) rfl ⟨bC.no HN.out ⟨_,_,_,_,rfl⟩,by have B:=B1.out;repeat (first|with_reducible exact B|with_reducible refine zbE ?_|with_reducible refine zbF ?_ (by simp) _|with_reducible refine zbG ?_ (by first|exact B.size|(simp;omega)) _)⟩
theorem zA (s kt:ByteArray) (v:ByteArray) (m:Int) (w:World) (hm:ML m w) (hs:s.size<=1048576) (hkt:kt.size<=1048576) (hv:v.size<=1048576) (x:Wf.Sc) (k:Wf.K) (h:aV s.data.toList kt.data.toList=some (x,k)):Calls Tryz.prog 27 #[.string s,.string kt,.string v] w fun e w'=>bC s.data.toList kt.data.toList v.data.toList w.heap.size e w'/\Below w.heap.size w w':=by
 have HB:=hid fun w2 (h2:Below w.heap.size w w2)=>(both s kt m w2 (hm.below h2) hs hkt).mono (R':=fun e w'=>(∃ sb,e=.returned (.tuple #[ptr sb,kV k,.bool true])/\ScL w' w2.heap.size sb x)/\Below w2.heap.size w2 w') fun e w' ⟨h3,h4⟩=>⟨by unfold cT at h3;rw[h] at h3;obtain⟨sb,h5,h6⟩:=h3;exact⟨sb,h5,h6⟩,h4⟩;obtain⟨hx,hk⟩:=gW h;have HRD:=hid fun(w2 w3:World) (sb:Nat) (hsl:ScL w2 (w.heap.size+1+1) sb x) (hb:Below w2.heap.size w2 w3)=>read x hx k hk (w.heap.size+1+1) sb v.data.toList (by rw[aE];omega) w2 w3 hsl hb;obtain⟨SG,hSG⟩:∃ SG:ByteArray,(⟨k.signs.toArray⟩:ByteArray)=SG:=⟨_,rfl⟩;obtain⟨BS,hBS⟩:∃ BS:ByteArray,(⟨k.base.toArray⟩:ByteArray)=BS:=⟨_,rfl⟩;obtain⟨NM,hNM⟩:∃ NM:ByteArray,(⟨k.name.toArray⟩:ByteArray)=NM:=⟨_,rfl⟩;have hkv:kV k=.agg #[.string SG,.string BS,.string NM]:=by simp only[kV,tx,hSG,hBS,hNM]
 have hvv:tx v.data.toList=.string v:=rfl;rw[hkv,hvv] at HRD;rw[hkv] at HB;have HKV:=hid hkv;have ST:=hid fun W1 h=>qS w W1 h;cases hvi:Wf.valIn x k v.data.toList with
 | none =>
  have HN:=hid (show valOf s.data.toList kt.data.toList v.data.toList=none by unfold valOf;rw[h];dsimp only;rw[hvi]);have HO:=hid fun(wz:World) e w' (ho:bT x k v.data.toList wz e w')=>(by unfold bT at ho;rw[hvi] at ho;exact ho:e=.returned (.tuple #[.agg #[.int .u8 0,.string ⟨#[]⟩,.int .i64 0,.slice none 0 0],.bool false]));clear h hm hx hk hSG hBS hNM hkv hvi hvv;go_enter Tryz.func27,Tryz.ntmps27;go_wp2_with (first|(go_at_call 48;have hal:=(Below.refl w1.heap.size w1).alloc (zaA) (.cells #[.string SG,.string BS,.string NM] 48);refine(HRD.out _ _ _ SL1.out hal).mono ?_;rintro e w3 ⟨ho,hb3⟩;obtain rfl:=HO.out _ _ _ ho;clear ho;have B3:=hid (aC hal hb3);obtain⟨kl,kr0,kr1,kr2,kf0,kf1,kf2⟩:=K1.out.below B3.out K1.out.lt;obtain⟨zl,zr0,zr1,zr2,zr3,zf0,zf1,zf2,zf3⟩:=Z1.out.below B3.out Z1.out.lt;have hw1:w1.heap.size<w3.heap.size:=zaC (by simp) hb3.size;have q0:w3.cell? ⟨w1.heap.size,0,none⟩=some (.string SG):=(hb3.cell (p:=⟨w1.heap.size,0,none⟩) (by simp)).trans (by simp[go_sem]);have q1:w3.cell? ⟨w1.heap.size,1,none⟩=some (.string BS):=(hb3.cell (p:=⟨w1.heap.size,1,none⟩) (by simp)).trans (by simp[go_sem]);have q2:w3.cell? ⟨w1.heap.size,2,none⟩=some (.string NM):=(hb3.cell (p:=⟨w1.heap.size,2,none⟩) (by simp)).trans (by simp[go_sem]);clear hb3 hal)|(go_at_call 31;obtain⟨zk,zv,b0⟩:=ST.out _ rfl;refine(HB.out _ b0).mono ?_;rintro e w1 ⟨⟨sb,rfl,hsl⟩,hb1⟩;have B1:=hid (aC b0 hb1);have K1:=hid (zk.below hb1 zk.lt);have Z1:=hid (zv.below hb1 zv.lt);have SL1:=hid (hsl.mono (Nat.succ_le_of_lt zv.lt));have kl:=K1.out.lt;have zl:=Z1.out.lt;clear hb1 zk zv b0 hsl))
  go_region
  all_goals (go_wp2_with fail)
  all_goals exact zbD (v:=.tuple #[ptr sb,.agg #[.string SG,.string BS,.string NM],.agg #[.int .u8 0,.string ⟨#[]⟩,.int .i64 0,.slice none 0 0],.bool false]) (by simp[results,Tryz.results27,go_sem, *]) rfl ⟨bC.no HN.out ⟨_,_,_,_,rfl⟩,by have B:=B1.out.trans (B3.out.mono B1.out.size);repeat (first|with_reducible exact B|with_reducible refine zbE ?_|with_reducible refine zbF ?_ (by simp) _|with_reducible refine zbG ?_ (by first|exact B.size|(simp;omega)) _)⟩
 | some u =>
  have HN:=hid (show valOf s.data.toList kt.data.toList v.data.toList=some ((x,k),u) by unfold valOf;rw[h];dsimp only;rw[hvi]);have HO:=hid fun(wz:World) e w' (ho:bT x k v.data.toList wz e w')=>(by unfold bT at ho;rw[hvi] at ho;exact ho:∃ cs,e=.returned (.tuple #[.agg cs.toArray,.bool true])/\VC w' (fun b=>wz.heap.size<=b) u cs);clear h hm hx hk hSG hBS hNM hkv hvi hvv;go_enter Tryz.func27,Tryz.ntmps27;go_wp2_with (first|(go_at_call 48;have hal:=(Below.refl w1.heap.size w1).alloc (zaA) (.cells #[.string SG,.string BS,.string NM] 48);refine(HRD.out _ _ _ SL1.out hal).mono ?_;rintro e w3 ⟨ho,hb3⟩;obtain⟨cs,rfl,hvc⟩:=HO.out _ _ _ ho;obtain⟨g0,g1,g2,g3,T2,a2,rfl⟩:=hvc.aY;have HVC:=hid hvc;have HAL:=hid hal;have HB3':=hid hb3;clear ho hvc;have B3:=hid (aC hal hb3);obtain⟨kl,kr0,kr1,kr2,kf0,kf1,kf2⟩:=K1.out.below B3.out K1.out.lt;obtain⟨zl,zr0,zr1,zr2,zr3,zf0,zf1,zf2,zf3⟩:=Z1.out.below B3.out Z1.out.lt;have hw1:w1.heap.size<w3.heap.size:=zaC (by simp) hb3.size;have q0:w3.cell? ⟨w1.heap.size,0,none⟩=some (.string SG):=(hb3.cell (p:=⟨w1.heap.size,0,none⟩) (by simp)).trans (by simp[go_sem]);have q1:w3.cell? ⟨w1.heap.size,1,none⟩=some (.string BS):=(hb3.cell (p:=⟨w1.heap.size,1,none⟩) (by simp)).trans (by simp[go_sem]);have q2:w3.cell? ⟨w1.heap.size,2,none⟩=some (.string NM):=(hb3.cell (p:=⟨w1.heap.size,2,none⟩) (by simp)).trans (by simp[go_sem]);clear hb3 hal)|(go_at_call 31;obtain⟨zk,zv,b0⟩:=ST.out _ rfl;refine(HB.out _ b0).mono ?_;rintro e w1 ⟨⟨sb,rfl,hsl⟩,hb1⟩;have B1:=hid (aC b0 hb1);have K1:=hid (zk.below hb1 zk.lt);have Z1:=hid (zv.below hb1 zv.lt);have SL1:=hid (hsl.mono (Nat.succ_le_of_lt zv.lt));have kl:=K1.out.lt;have zl:=Z1.out.lt;clear hb1 zk zv b0 hsl))
  go_region
  all_goals (go_wp2_with fail)
  all_goals exact zbD (v:=.tuple #[ptr sb,.agg #[.string SG,.string BS,.string NM],.agg #[.int .u8 g0,.string T2,.int .i64 g1,.slice a2 g2 g3],.bool true]) (by simp[results,Tryz.results27,go_sem, *]) rfl (by
   have hR:∀ W4,Over (w.heap.size+1+1) w3 W4->Below w.heap.size w W4->(bC s.data.toList kt.data.toList v.data.toList w.heap.size (.returned (.tuple #[ptr sb,.agg #[.string SG,.string BS,.string NM],.agg #[.int .u8 g0,.string T2,.int .i64 g1,.slice a2 g2 g3],.bool true])) W4/\Below w.heap.size w W4):=fun W4 ho hb=>by
    refine⟨bC.yes HN.out ⟨sb,[.int .u8 g0,.string T2,.int .i64 g1,.slice a2 g2 g3],by rw[HKV.out],(SL1.out.keep (zaI B3.out.size ho.size) (ho.below B3.out)).mono (by omega),VC.keep (fun b hp hlt=>⟨?_,?_⟩) ho.size _ _ HVC.out⟩,hb⟩
    ·have h1:=HAL.out.size
     have h2:=Z1.out.lt;have h3:(w1.alloc (.cells #[.string SG,.string BS,.string NM] 48)).heap.size<=b:=hp;omega
    ·have h1:=HAL.out.size
     have h2:=Z1.out.lt;have h3:(w1.alloc (.cells #[.string SG,.string BS,.string NM] 48)).heap.size<=b:=hp;exact ho.block b (by omega) hlt
   refine hR _ ?_ ?_
   ·repeat (first|with_reducible exact Over.refl _ _|with_reducible refine Over.drew ?_|with_reducible refine Over.setCell ?_ (by first|(simp;done)|(simp;omega)) _|with_reducible refine Over.alloc ?_ _)
   ·have B:=B1.out.trans (B3.out.mono B1.out.size)
    repeat (first|with_reducible exact B|with_reducible refine zbE ?_|with_reducible refine zbF ?_ (by simp) _|with_reducible refine zbG ?_ (by first|exact B.size|(simp;omega)) _))
theorem given (s kt:ByteArray) (v:ByteArray) (m:Int) (w:World) (hm:ML m w) (hs:s.size<=1048576) (hkt:kt.size<=1048576) (hv:v.size<=1048576):Calls Tryz.prog 27 #[.string s,.string kt,.string v] w fun e w'=>bC s.data.toList kt.data.toList v.data.toList w.heap.size e w'/\Below w.heap.size w w':=by
 cases h:aV s.data.toList kt.data.toList with
 | none=>exact zE s kt v m w hm hs hkt h
 | some y=>exact zA s kt v m w hm hs hkt hv y.1 y.2 h

def vOkB (l kt s:List UInt8):Bool:=(valOf l kt s).isSome
theorem bC.form {l kt s:List UInt8} {lo:Nat} {e:Ending} {w':World} (h:bC l kt s lo e w'):∃ (p:Option Addr) (a b c:ByteArray) (q g n d:Nat) (T:ByteArray) (sa:Option Addr),e=.returned (.tuple #[.pointer p,.agg #[.string a,.string b,.string c],.agg #[.int .u8 q,.string T,.int .i64 g,.slice sa n d],.bool (vOkB l kt s)]):=by
 unfold bC at h;unfold vOkB;cases hv:valOf l kt s with
 | none =>
  rw[hv] at h;obtain⟨p,a,b,c,rfl⟩:=h;exact⟨p,a,b,c,0,0,0,0,⟨#[]⟩,none,rfl⟩
 | some y =>
  rw[hv] at h;obtain⟨sb,cs,rfl,_,hvc⟩:=h;obtain⟨q,g,n,d,T,sa,rfl⟩:=hvc.aY;exact⟨_,_,_,_,q,g,n,d,T,sa,rfl⟩
theorem lI {l kt s:List UInt8} {y:(Wf.Sc × Wf.K) × Wf.V} (h:valOf l kt s=some y):aV l kt=some y.1/\Wf.valIn y.1.1 y.1.2 s=some y.2:=by
 unfold valOf at h;cases hk:aV l kt with
 | none=>rw[hk] at h;cases h
 | some z =>
  rw[hk] at h;dsimp only at h;cases hv:Wf.valIn z.1 z.2 s with
  | none=>rw[hv] at h;cases h
  | some v =>
   rw[hv] at h;simp only[zaE] at h;subst h;exact⟨rfl,hv⟩







theorem tH (w:World) (h:w.ShapedOpen Tryz.prog):∃ m,ML m w:=Tryz.laysM145.s1_3 w h
theorem aH.lt {w:World} {b:Nat} {v:Value} {xs:List Value} (h:aH w b v xs):xs=[]\/b<w.heap.size:=by
 obtain⟨a,cap,h1,h2,h3,h4|⟨o,h5,h6,h7⟩⟩:=h
 ·exact .inl h4
 ·exact .inr h6
theorem ML.drewN {m:Int} {w:World} (h:ML m w) (n:Nat):ML m (w.drewN n):=h.below (bN (zaB) n)
theorem ML.beside {m:Int} {w w':World} {rb:Nat} (h:ML m w) (hb:aA rb w w') (hn:0≠rb):ML m w':=(hb.cell (p:=⟨0,0,none⟩) h.lt hn).trans h
theorem ML.ne {m:Int} {w:World} {k:Nat} (h:ML m w) (hk:w.heap.size<=k):0≠k:=by have:=h.lt;omega





def bU (what:UInt8) (tag:Nat) (kids:List Wf.V):List Nat:=if what=82 then kids.map Wf.V.tag else if what=85\/what=69 then [tag] else []
def bG (what:UInt8) (text:List UInt8) (kd t:List UInt8):Prop :=
 if what=110 then kd.head? = some 110/\t=text
 else if what=116 then kd.head? = some 116/\t=39::(text++[39])
 else if what=102 then kd.head? = some 102/\t=text
 else if what=91 then kd.head? = some 91/\t=[]
 else if what=63 then kd.head? = some 63/\t=[]
 else if what=82 then kd.head? = some 64/\t=[82]
 else if what=85 then kd.head? = some 64/\t=[85]
 else if what=69 then kd.head? = some 64/\t=[69]
 else False
theorem aH.lts {w:World} {b:Nat} {v:Value} {xs:List Value} (h:aH w b v xs):xs=[]\/b<w.heap.size:=by
 obtain⟨a,cap,h1,h2,h3,h4|⟨o,h5,h6,h7⟩⟩:=h
 ·exact .inl h4
 ·exact .inr h6
mutual
def LV (W:World) (P:Nat->Prop):Wf.V->Nat->Prop
 | .mk what text tag kids,b=>(what=61/\LVs W P kids [b])\/(what≠61/\P b/\b<W.heap.size/\∃ (kd t:List UInt8) (tv kv:Value) (tb kb:Nat) (bs:List Nat),
   W.cell? ⟨b,0,none⟩=some (tx kd)/\W.cell? ⟨b,1,none⟩=some (tx t)/\W.cell? ⟨b,2,none⟩=some tv/\W.cell? ⟨b,3,none⟩=some kv /\
   aH W tb tv ((bU what tag kids).map ix)/\(bU what tag kids=[]\/P tb)/\aH W kb kv (bs.map ptr)/\(bs=[]\/P kb)/\bG what text kd t/\LVs W P kids bs)
def LVs (W:World) (P:Nat->Prop):List Wf.V->List Nat->Prop
 | [],bs=>bs=[]
 | v::l,bs=>∃ b bs',bs=b::bs'/\LV W P v b/\LVs W P l bs'
end
section
variable {W W':World} {P Q:Nat->Prop}
mutual
theorem LV.keep (hk:∀ b,P b->b<W.heap.size->Q b/\W'.heap[b]? = W.heap[b]?) (hs:W.heap.size<=W'.heap.size):∀ (v:Wf.V) (b:Nat),LV W P v b->LV W' Q v b
 | .mk what text tag kids,b,h=>by
  simp only[LV] at h ⊢;rcases h with⟨h1,h2⟩|⟨h1,h2,h3,kd,t,tv,kv,tb,kb,bs,c0,c1,c2,c3,r1,r2,r3,r4,h4,h5⟩
  ·exact .inl ⟨h1,LVs.keep hk hs kids [b] h2⟩
  ·right
   have cc:=fun o=>zbJ (w:=W) (w':=W') (a:=⟨b,o,none⟩) (hk b h2 h3).2;refine⟨h1,(hk b h2 h3).1,zaC h3 hs,kd,t,tv,kv,tb,kb,bs,(cc 0).trans c0,(cc 1).trans c1,(cc 2).trans c2,(cc 3).trans c3,?_,?_,?_,?_,h4,LVs.keep hk hs kids bs h5⟩
   ·rcases r2 with r2|r2
    ·rw[r2] at r1 ⊢
     obtain⟨a,c,e1,e2,e3,_⟩:=r1;exact⟨a,c,e1,e2,e3,.inl rfl⟩
    ·exact r1.keep hs fun hx=>(hk tb r2 hx).2
   ·rcases r2 with r2|r2
    ·exact .inl r2
    ·rcases r1.lts with h0|h0
     ·exact .inl (List.map_eq_nil_iff.1 h0)
     ·exact .inr (hk tb r2 h0).1
   ·rcases r4 with r4|r4
    ·rw[r4] at r3 ⊢
     obtain⟨a,c,e1,e2,e3,_⟩:=r3;exact⟨a,c,e1,e2,e3,.inl rfl⟩
    ·exact r3.keep hs fun hx=>(hk kb r4 hx).2
   ·rcases r4 with r4|r4
    ·exact .inl r4
    ·rcases r3.lts with h0|h0
     ·exact .inl (List.map_eq_nil_iff.1 h0)
     ·exact .inr (hk kb r4 h0).1
theorem LVs.keep (hk:∀ b,P b->b<W.heap.size->Q b/\W'.heap[b]? = W.heap[b]?) (hs:W.heap.size<=W'.heap.size):∀ (l:List Wf.V) (bs:List Nat),LVs W P l bs->LVs W' Q l bs
 | [],_,h=>by simp only[LVs] at h ⊢;exact h
 | v::l,bs,h=>by
  simp only[LVs] at h ⊢;obtain⟨b,bs',h1,h2,h3⟩:=h;exact⟨b,bs',h1,LV.keep hk hs v b h2,LVs.keep hk hs l bs' h3⟩
end
theorem LV.mono {v:Wf.V} {b:Nat} (h:LV W P v b) (hk:∀ b,P b->b<W.heap.size->Q b):LV W Q v b:=LV.keep (fun b h1 h2=>⟨hk b h1 h2,rfl⟩) (zaA) v b h
theorem LV.below {v:Wf.V} {b:Nat} (h:LV W P v b) (hb:Below W.heap.size W W'):LV W' P v b:=LV.keep (fun b h1 h2=>⟨h1,hb.block b h2⟩) hb.size v b h
theorem LVs.len:∀ {l:List Wf.V} {bs:List Nat},LVs W P l bs->bs.length=l.length:=by
 intro l;induction l with
 | nil=>intro bs h;simp only[LVs] at h;rw[h];rfl
 | cons v l ih =>
  intro bs h;simp only[LVs] at h;obtain⟨b,bs',rfl,_,h⟩:=h;simp[ih h]
theorem LVs.get:∀ {l:List Wf.V} {bs:List Nat},LVs W P l bs->∀ i (h1:i<l.length) (h2:i<bs.length),LV W P l[i] bs[i]:=by
 intro l;induction l with
 | nil=>intro bs _ i h1;simp at h1
 | cons v l ih =>
  intro bs h i h1 h2;simp only[LVs] at h;obtain⟨b,bs',rfl,h3,h4⟩:=h;cases i with
  | zero=>exact h3
  | succ i=>exact ih h4 i (by simpa using h1) (by simpa using h2)
theorem LVs.of:∀ {l:List Wf.V} {bs:List Nat},bs.length=l.length->(∀ i (h1:i<l.length) (h2:i<bs.length),LV W P l[i] bs[i])->LVs W P l bs:=by
 intro l;induction l with
 | nil=>intro bs hl _;simp only[LVs];exact List.eq_nil_of_length_eq_zero (by simpa using hl)
 | cons v l ih =>
  intro bs hl h;cases bs with
  | nil=>simp at hl
  | cons b bs =>
   simp only[LVs];exact⟨b,bs,rfl,h 0 (by simp) (by simp),ih (by simpa using hl) fun i h1 h2=>h (i+1) (by simpa using h1) (by simpa using h2)⟩
theorem LV.form {v:Wf.V} {b:Nat} (h:LV W P v b) (hw:v.what≠61):P b/\b<W.heap.size/\∃ (kd t:List UInt8) (tv kv:Value) (tb kb:Nat) (bs:List Nat),
   W.cell? ⟨b,0,none⟩=some (tx kd)/\W.cell? ⟨b,1,none⟩=some (tx t)/\W.cell? ⟨b,2,none⟩=some tv/\W.cell? ⟨b,3,none⟩=some kv /\
   aH W tb tv ((bU v.what v.tag v.kids).map ix)/\aH W kb kv (bs.map ptr)/\bG v.what v.text kd t/\LVs W P v.kids bs:=by
 cases v with
 | mk what text tag kids =>
  simp only[LV] at h;rcases h with⟨h1,_⟩|⟨h1,h2,h3,kd,t,tv,kv,tb,kb,bs,c0,c1,c2,c3,r1,r2,r3,r4,h4,h5⟩
  ·exact absurd h1 hw
  ·exact⟨h2,h3,kd,t,tv,kv,tb,kb,bs,c0,c1,c2,c3,r1,r3,h4,h5⟩
theorem LV.field {text:List UInt8} {tag:Nat} {u:Wf.V} {b:Nat}:LV W P (.mk 61 text tag [u]) b↔LV W P u b:=by
 simp only[LV,LVs];constructor
 ·rintro(⟨_,b',bs',h1,h2,h3⟩|⟨h,_⟩)
  ·simp only[List.cons.injEq] at h1
   rw[h1.1];exact h2
  ·exact absurd rfl h
 ·intro h
  exact .inl ⟨trivial,b,[],rfl,h,rfl⟩
theorem LV.mk {what:UInt8} {text kd t:List UInt8} {tag b tb kb:Nat} {tv kv:Value} {kids:List Wf.V} {bs:List Nat} (hw:what≠61) (hp:P b) (hb:b<W.heap.size)
  (c0:W.cell? ⟨b,0,none⟩=some (tx kd)) (c1:W.cell? ⟨b,1,none⟩=some (tx t)) (c2:W.cell? ⟨b,2,none⟩=some tv) (c3:W.cell? ⟨b,3,none⟩=some kv)
  (r1:aH W tb tv ((bU what tag kids).map ix)) (r2:bU what tag kids=[]\/P tb) (r3:aH W kb kv (bs.map ptr)) (r4:bs=[]\/P kb) (hs:bG what text kd t) (hk:LVs W P kids bs):LV W P (.mk what text tag kids) b:=by
 simp only[LV];exact .inr ⟨hw,hp,hb,kd,t,tv,kv,tb,kb,bs,c0,c1,c2,c3,r1,r2,r3,r4,hs,hk⟩
end

theorem oG (ps:List (List UInt8)):ps.length<=(Wf.commas ps).length+1:=by
 cases ps with
 | nil=>simp
 | cons a l=>have:=Wf.fY (a::l) (by simp);omega
theorem bK {kd:List UInt8} {c:UInt8} (h:kd.head? = some c):0<(⟨kd.toArray⟩:ByteArray).size/\∀ h,((⟨kd.toArray⟩:ByteArray)[0]'h).toNat=c.toNat:=by
 cases kd with
 | nil=>simp at h
 | cons a r =>
  simp at h;subst h;exact⟨by simp[ByteArray.size],fun _=>rfl⟩
theorem aH.get {w:World} {b:Nat} {a:Option Addr} {n c:Nat} {xs:List Value} (h:aH w b (.slice a n c) xs) {i:Nat} (hi:i<xs.length):∃ o,a=Option.some ⟨b,o,none⟩/\b<w.heap.size/\n<=c/\c<=maxLen/\w.cell? ⟨b,o+i,none⟩=Option.some xs[i]:=by
 obtain⟨a',c',h1,h2,h3,h4⟩:=h;simp only[Value.slice.injEq] at h1;obtain⟨rfl,rfl,rfl⟩:=h1;rcases h4 with h4|⟨o,g1,g2,g3⟩
 ·rw[h4] at hi;simp at hi
 ·exact⟨o,g1,g2,h2,h3,(g3 i hi).1⟩
theorem aH.form {w:World} {b:Nat} {v:Value} {xs:List Value} (h:aH w b v xs):∃ a c,v=.slice a xs.length c/\xs.length<=c/\c<=maxLen:=by
 obtain⟨a,c,h1,h2,h3,_⟩:=h;exact⟨a,c,h1,h2,h3⟩
theorem a0N (b q:Nat) (KD T:ByteArray) (w:World) (hlt:b<w.heap.size) (hs:0<KD.size) (e0:∀ h,(KD[0]'h).toNat=q) (hq:q=110\/q=116\/q=102) (c0:w.cell? ⟨b,0,none⟩=some (.string KD)) (c1:w.cell? ⟨b,1,none⟩=some (.string T)) :
  Calls Tryz.prog 66 #[ptr b] w fun e w'=>e=.returned (.string T)/\w=w':=by
 rcases hq with rfl|rfl|rfl;all_goals
  go_enter Tryz.func66,Tryz.ntmps66;go_wp2_with fail
  go_ret
  exact⟨rfl,rfl⟩
theorem a2W (b c:Nat) (KD:ByteArray) (a:Option Addr) (w:World) (hlt:b<w.heap.size) (hs:0<KD.size) (e0:∀ h,(KD[0]'h).toNat=63) (c0:w.cell? ⟨b,0,none⟩=some (.string KD)) (c3:w.cell? ⟨b,3,none⟩=some (.slice a 0 c)) :
  Calls Tryz.prog 66 #[ptr b] w fun e w'=>e=.returned (tx [45])/\w=w':=by
 go_enter Tryz.func66,Tryz.ntmps66;go_wp2_with fail
 go_ret
 exact⟨rfl,rfl⟩
theorem a2Q (b kb o u c:Nat) (KD T:ByteArray) (w:World) (hlt:b<w.heap.size) (hs:0<KD.size) (e0:∀ h,(KD[0]'h).toNat=63) (c0:w.cell? ⟨b,0,none⟩=some (.string KD)) (c3:w.cell? ⟨b,3,none⟩=some (.slice (some ⟨kb,o,none⟩) 1 c)) (hkb:kb<w.heap.size) (ck:w.cell? ⟨kb,o,none⟩=some (ptr u)) (h1:1<=c) (hc:c<=maxLen) (hT:T.size<=2000000)
  (hk:∀ wz,Below w.heap.size w wz->Calls Tryz.prog 66 #[ptr u] wz fun e w'=>e=.returned (.string T)/\Below wz.heap.size wz w') :
  Calls Tryz.prog 66 #[ptr b] w fun e w'=>e=.returned (tx (43::T.data.toList))/\Below w.heap.size w w':=by
 have HK:=hid hk;have HO:=hid (show(⟨#[43]⟩:ByteArray)++T=⟨(43::T.data.toList).toArray⟩ by rw[aQ];simp);unfold maxLen at hc;clear hk;go_enter Tryz.func66,Tryz.ntmps66;go_wp2_with (go_at_call 66;refine(HK.out _ (zaB)).mono ?_;rintro e w2 ⟨rfl,hb2⟩;have HB2:=hid hb2;clear hb2)
 go_ret
 exact⟨aX HO.out,HB2.out⟩
theorem yS (b kb:Nat) (KD:ByteArray) (kv:Value) (bs:List Nat) (ps:List (List UInt8)) (w:World) (hlt:b<w.heap.size) (hs:0<KD.size) (e0:∀ h,(KD[0]'h).toNat=91) (c0:w.cell? ⟨b,0,none⟩=some (.string KD)) (c3:w.cell? ⟨b,3,none⟩=some kv) (hrow:aH w kb kv (bs.map ptr)) (hl:bs.length=ps.length) (hsz:(Wf.commas ps).length<=2000000)
  (hk:∀ i (h1:i<bs.length) (h2:i<ps.length) wz,Below w.heap.size w wz->Calls Tryz.prog 66 #[ptr bs[i]] wz fun e w'=>e=.returned (tx ps[i])/\Below wz.heap.size wz w') :
  Calls Tryz.prog 66 #[ptr b] w fun e w'=>e=.returned (tx (91::(Wf.commas ps++[93])))/\Below w.heap.size w w':=by
 obtain⟨a,c,rfl,hnc,hcm⟩:=hrow.form;obtain⟨m,hm⟩:∃ m,(bs.map ptr).length=m:=⟨_,rfl⟩;have hbm:bs.length=m:=by rw[<-hm,zaG]
 have hpm:ps.length=m:=by omega
 have hm6:m<=2000001:=by have:=oG ps;omega
 have HBM:=hid hbm;have HPM:=hid hpm;have HMM:=hid hm;rw[hm] at c3 hrow hnc;have HROW:=hid hrow;have HK:=hid hk;have HSZ:=hid hsz;unfold maxLen at hcm;clear hrow hk hl hsz hm hbm hpm;go_enter Tryz.func66,Tryz.ntmps66;go_wp2_with fail
 go_loopw [3,4] (fun s3 s4 wr=>∃ (i:Nat) (S:ByteArray),s3=.string S/\s4=.int .i64 i/\i<=m/\S.size<=2000001/\Hid (S.data.toList=91::Wf.commas (ps.take i)/\Below w.heap.size w wr)) (fun _ s4 _=>m-(RowKit.intOf s4).toNat)
 case atStart=>exact⟨0,⟨#[91]⟩,rfl,rfl,Nat.zero_le _,by decide,hid ⟨rfl,zaB⟩⟩
 case round =>
  obtain⟨i,S,rfl,rfl,hi,hS,hh⟩:=hrel;have hbw:b<wr.heap.size:=zaC hlt hh.out.2.size;have y3:=(hh.out.2.cell (p:=⟨b,3,none⟩) hlt).trans c3;by_cases hlt2:i<m
  ·have hib:i<bs.length:=by rw[HBM.out];exact hlt2
   have hip:i<ps.length:=(by rw[HPM.out];exact hlt2);obtain⟨o,rfl,hkb,_,_,ck⟩:=HROW.out.get (i:=i) (by rw[HMM.out];exact hlt2);rw[zaR] at ck;obtain⟨u,hu⟩:∃ u,bs[i]=u:=⟨_,rfl⟩;obtain⟨T,hT⟩:∃ T:ByteArray,(⟨(ps[i]).toArray⟩:ByteArray)=T:=⟨_,rfl⟩;rw[hu] at ck;have hkw:kb<wr.heap.size:=zaC hkb hh.out.2.size;have yk:=(hh.out.2.cell (p:=⟨kb,o+i,none⟩) hkb).trans ck;have HC:=hid (show Calls Tryz.prog 66 #[ptr u] wr fun e w'=>e=.returned (.string T)/\Below wr.heap.size wr w' by
    have:=HK.out i hib hip wr hh.out.2;rw[hu] at this;simp only[tx,hT] at this;exact this)
   have HSTEP:=hid (Wf.oM hip);have hTs:T.size<=2000000:=by
    have h1:=Wf.dC (zaQ hip);rw[<-hT,<-aE];show(ps[i]).length<=_;exact zaI h1 HSZ.out
   have HTL:=hid (show T.data.toList=ps[i] by rw[<-hT]);have HTK:=hid (show(Wf.commas (ps.take (i+1))).length<=2000000 from zaI (Wf.pM _) HSZ.out);have fin:∀ S':ByteArray,S'.data.toList=91::Wf.commas (ps.take (i+1))->S'.size<=2000001:=fun S' h=>by
    have:=HTK.out;rw[<-aE,h];simp only[zaF];omega
   have FIN:=hid fin;clear hu hT ck fin;by_cases hi0:i=0
   ·subst hi0
    rw[Nat.add_zero] at yk;have HE:=hid (show(S++T).data.toList=91::Wf.commas (ps.take (0+1)) by
     rw[HSTEP.out,if_pos rfl,zaU,zaW,hh.out.1,HTL.out];rfl)
    go_wp2_with (go_at_call 66;refine HC.out.mono ?_;rintro e w2 ⟨rfl,hb2⟩;have HB2:=hid hb2;clear hb2)
    go_roundw
    case rel=>exact⟨0+1,S++T,by rfl,by go_num,by omega,FIN.out _ HE.out,hid ⟨HE.out,hh.out.2.trans (HB2.out.mono hh.out.2.size)⟩⟩
    case measure=>simp[RowKit.intOf];omega
   ·have hip0:0<i:=by omega
    have HE:=hid (show(S++⟨#[44]⟩++T).data.toList=91::Wf.commas (ps.take (i+1)) by
     rw[HSTEP.out,if_neg hi0,zaU,zaU,zaW,zaW,hh.out.1,HTL.out];simp)
    clear hi0;go_wp2_with (go_at_call 66;refine HC.out.mono ?_;rintro e w2 ⟨rfl,hb2⟩;have HB2:=hid hb2;clear hb2)
    go_roundw
    case rel=>exact⟨i+1,S++⟨#[44]⟩++T,by rfl,by go_num,by omega,FIN.out _ HE.out,hid ⟨HE.out,hh.out.2.trans (HB2.out.mono hh.out.2.size)⟩⟩
    case measure=>simp[RowKit.intOf];omega
  ·have him:i=m:=by omega
   subst him;have HE:=hid (show S++(⟨#[93]⟩:ByteArray)=⟨(91::(Wf.commas ps++[93])).toArray⟩ by
    rw[aQ,zaU,zaW,hh.out.1,zaS (by rw[HPM.out];exact zaA)];simp)
   go_wp2_with fail
   go_ret
   exact⟨aX HE.out,hh.out.2⟩

theorem a1A (b tb o g c n:Nat) (w:World) (hlt:b<w.heap.size) (c1:w.cell? ⟨b,1,none⟩=some (.string ⟨#[69]⟩)) (c2:w.cell? ⟨b,2,none⟩=some (.slice (some ⟨tb,o,none⟩) n c)) (h0:0<n) (hn:n<=c) (hc:c<=maxLen) (htb:tb<w.heap.size) (ct:w.cell? ⟨tb,o,none⟩=some (.int .i64 g)) (hg:g<=999999) :
  Calls Tryz.prog 105 #[ptr b] w fun e w'=>e=.returned (tx (35::Wf.dec g))/\Below w.heap.size w w':=by
 have HD:=hid fun wz=>eF g g wz (zaA) (by omega);obtain⟨D,hD⟩:∃ D:ByteArray,(⟨(Wf.dec g).toArray⟩:ByteArray)=D:=⟨_,rfl⟩;simp only[tx,hD] at HD;have hds:D.size<=6:=by rw[<-hD,<-aE];exact Wf.cA hg
 have HO:=hid (show(⟨#[35]⟩:ByteArray)++D=⟨(35::Wf.dec g).toArray⟩ by rw[aQ,<-hD];simp);unfold maxLen at hc;clear hD;go_enter Tryz.func105,Tryz.ntmps105;go_wp2_with (go_at_call 89;refine(HD.out _).mono ?_;rintro e w2 ⟨rfl,hb2⟩;have HB2:=hid hb2;clear hb2)
 go_ret
 exact⟨aX HO.out,HB2.out⟩
theorem uS (b tb kb o p u g c n k d:Nat) (T:ByteArray) (w:World) (hlt:b<w.heap.size) (c1:w.cell? ⟨b,1,none⟩=some (.string ⟨#[85]⟩)) (c2:w.cell? ⟨b,2,none⟩=some (.slice (some ⟨tb,o,none⟩) n c)) (h0:0<n) (hn:n<=c) (hc:c<=maxLen) (htb:tb<w.heap.size) (ct:w.cell? ⟨tb,o,none⟩=some (.int .i64 g)) (hg:g<=999999)
  (c3:w.cell? ⟨b,3,none⟩=some (.slice (some ⟨kb,p,none⟩) k d)) (h1:0<k) (hk:k<=d) (hd:d<=maxLen) (hkb:kb<w.heap.size) (ck:w.cell? ⟨kb,p,none⟩=some (ptr u)) (hT:T.size<=2000000)
  (hrec:∀ wz,Below w.heap.size w wz->Calls Tryz.prog 66 #[ptr u] wz fun e w'=>e=.returned (.string T)/\Below wz.heap.size wz w') :
  Calls Tryz.prog 105 #[ptr b] w fun e w'=>e=.returned (tx (60::(Wf.dec g++61::(T.data.toList++[62]))))/\Below w.heap.size w w':=by
 have HD:=hid fun wz=>eF g g wz (zaA) (by omega);obtain⟨D,hD⟩:∃ D:ByteArray,(⟨(Wf.dec g).toArray⟩:ByteArray)=D:=⟨_,rfl⟩;simp only[tx,hD] at HD;have hds:D.size<=6:=by rw[<-hD,<-aE];exact Wf.cA hg
 have HO:=hid (show(⟨#[60]⟩:ByteArray)++D++⟨#[61]⟩++T++⟨#[62]⟩=⟨(60::(Wf.dec g++61::(T.data.toList++[62]))).toArray⟩ by rw[aQ,<-hD];simp);have HREC:=hid hrec;have a1:=fun wz=>zbH (P:=Tryz.prog) (w:=wz) ⟨#[60]⟩ D (by show 1+D.size<=_;omega);have a2:=fun wz=>zbH (P:=Tryz.prog) (w:=wz) (⟨#[60]⟩++D) ⟨#[61]⟩ (by rw[zaO];show 1+D.size+1<=_;omega);have a3:=fun wz=>zbH (P:=Tryz.prog) (w:=wz) (⟨#[60]⟩++D++⟨#[61]⟩) T (by rw[zaO,zaO];show 1+D.size+1+T.size<=_;omega);have a4:=fun wz=>zbH (P:=Tryz.prog) (w:=wz) (⟨#[60]⟩++D++⟨#[61]⟩++T) ⟨#[62]⟩ (by rw[zaO,zaO,zaO];show 1+D.size+1+T.size+1<=_;omega);have F:=hid fun(wz:World) (hz:Below w.heap.size w wz)=>(show wz.cell? ⟨b,2,none⟩=some (.slice (some ⟨tb,o,none⟩) n c)/\wz.cell? ⟨tb,o,none⟩=some (.int .i64 g)/\wz.cell? ⟨b,3,none⟩=some (.slice (some ⟨kb,p,none⟩) k d)/\wz.cell? ⟨kb,p,none⟩=some (ptr u) from⟨(hz.cell (p:=⟨b,2,none⟩) hlt).trans c2,(hz.cell (p:=⟨tb,o,none⟩) htb).trans ct,(hz.cell (p:=⟨b,3,none⟩) hlt).trans c3,(hz.cell (p:=⟨kb,p,none⟩) hkb).trans ck⟩);unfold maxLen at hc hd;clear hD hrec;go_enter Tryz.func105,Tryz.ntmps105;go_wp2_with fail
 go_region_held3 (fun w'=>w'.cell? ⟨b,2,none⟩=some (.slice (some ⟨tb,o,none⟩) n c)/\w'.cell? ⟨tb,o,none⟩=some (.int .i64 g)/\w'.cell? ⟨b,3,none⟩=some (.slice (some ⟨kb,p,none⟩) k d)/\w'.cell? ⟨kb,p,none⟩=some (ptr u)) (first|exact⟨k1,k2,k3,k4⟩|exact⟨d1,d2,d3,d4⟩|go_keep) (first|(go_at_call 89;refine(HD.out _).mono ?_;rintro e w3 ⟨rfl,hb3⟩;have TD:=Lib.hid (show Below w.heap.size w w3 by first|exact TS.out.trans (hb3.mono TS.out.size)|(refine Below.trans (b:=_) ?_ hb3;repeat (first|with_reducible exact zaB|with_reducible refine zbE ?_)));obtain⟨d1,d2,d3,d4⟩:=F.out _ TD.out;clear hb3)|(go_at_call 66;refine(HREC.out _ (by first|exact TD.out|(repeat (first|with_reducible exact zaB|with_reducible refine zbE ?_)))).mono ?_;rintro e w4 ⟨rfl,hb4⟩;have TS:=Lib.hid (show Below w.heap.size w w4 by first|exact TD.out.trans (hb4.mono TD.out.size)|(refine Below.trans (b:=_) ?_ hb4;repeat (first|with_reducible exact zaB|with_reducible refine zbE ?_)));obtain⟨k1,k2,k3,k4⟩:=F.out _ TS.out;clear hb4))
 all_goals go_wp2_with fail
 all_goals go_ret
 all_goals exact⟨aX HO.out,by first|exact TS.out.trans (TD.out.mono TS.out.size)|exact TS.out|exact TD.out⟩
theorem vI (b tb kb:Nat) (tv kv:Value) (gs bs:List Nat) (ps:List (List UInt8)) (w:World) (hlt:b<w.heap.size) (c1:w.cell? ⟨b,1,none⟩=some (.string ⟨#[82]⟩)) (c2:w.cell? ⟨b,2,none⟩=some tv) (c3:w.cell? ⟨b,3,none⟩=some kv) (hrt:aH w tb tv (gs.map ix)) (hrow:aH w kb kv (bs.map ptr)) (hlg:gs.length=bs.length) (hl:bs.length=ps.length)
  (hg:∀ g∈gs,g<=999999) (hsz:(Wf.commas ((gs.zip ps).map fun y=>Wf.dec y.1++61::y.2)).length<=2000000)
  (hk:∀ i (h1:i<bs.length) (h2:i<ps.length) wz,Below w.heap.size w wz->Calls Tryz.prog 66 #[ptr bs[i]] wz fun e w'=>e=.returned (tx ps[i])/\Below wz.heap.size wz w') :
  Calls Tryz.prog 105 #[ptr b] w fun e w'=>e=.returned (tx (123::(Wf.commas ((gs.zip ps).map fun y=>Wf.dec y.1++61::y.2)++[125])))/\Below w.heap.size w w':=by
 obtain⟨a,c,rfl,hnc,hcm⟩:=hrow.form;obtain⟨ta,tc,rfl,htc,htm⟩:=hrt.form;obtain⟨m,hm⟩:∃ m,(bs.map ptr).length=m:=⟨_,rfl⟩;have hbm:bs.length=m:=by rw[<-hm,zaG]
 have hpm:ps.length=m:=by omega
 have hgm:gs.length=m:=by omega
 have hgm2:(gs.map ix).length=m:=by rw[zaG];exact hgm
 obtain⟨Q,hQ⟩:∃ Q,((gs.zip ps).map fun y=>Wf.dec y.1++61::y.2)=Q:=⟨_,rfl⟩;have hqm:Q.length=m:=by rw[<-hQ,zaG,List.length_zip];omega
 rw[hQ] at hsz ⊢;have hm6:m<=2000001:=by have:=oG Q;omega
 have HQI:=hid fun(i:Nat) (h1:i<Q.length) (h2:i<gs.length) (h3:i<ps.length)=>(show Q[i]=Wf.dec gs[i]++61::ps[i] by subst hQ;rw[zaR,List.getElem_zip]);have HBM:=hid hbm;have HPM:=hid hpm;have HGM:=hid hgm;have HGM2:=hid hgm2;have HQM:=hid hqm;have HMM:=hid hm;rw[hm] at c3 hrow hnc;rw[hgm2] at c2 hrt htc;have HROW:=hid hrow;have HRT:=hid hrt;have HK:=hid hk;have HSZ:=hid hsz;have HG:=hid hg;unfold maxLen at hcm htm;clear hrow hk hl hsz hm hbm hpm hrt hg hgm hgm2 hqm hQ hlg;go_enter Tryz.func105,Tryz.ntmps105;go_wp2_with fail
 go_loopw [3,4] (fun s3 s4 wr=>∃ (i:Nat) (S:ByteArray),s3=.string S/\s4=.int .i64 i/\i<=m/\S.size<=2000001/\Hid (S.data.toList=123::Wf.commas (Q.take i)/\Below w.heap.size w wr)) (fun _ s4 _=>m-(RowKit.intOf s4).toNat)
 case atStart=>exact⟨0,⟨#[123]⟩,rfl,rfl,Nat.zero_le _,by decide,hid ⟨rfl,zaB⟩⟩
 case round =>
  obtain⟨i,S,rfl,rfl,hi,hS,hh⟩:=hrel;have hbw:b<wr.heap.size:=zaC hlt hh.out.2.size;have y2:=(hh.out.2.cell (p:=⟨b,2,none⟩) hlt).trans c2;have y3:=(hh.out.2.cell (p:=⟨b,3,none⟩) hlt).trans c3;by_cases hlt2:i<m
  ·have hib:i<bs.length:=by rw[HBM.out];exact hlt2
   have hip:i<ps.length:=(by rw[HPM.out];exact hlt2);have hig:i<gs.length:=(by rw[HGM.out];exact hlt2);have hiq:i<Q.length:=(by rw[HQM.out];exact hlt2);obtain⟨o,rfl,hkb,_,_,ck⟩:=HROW.out.get (i:=i) (by rw[HMM.out];exact hlt2);obtain⟨p,rfl,htb,_,_,ct⟩:=HRT.out.get (i:=i) (by rw[HGM2.out];exact hlt2);rw[zaR] at ck ct;obtain⟨u,hu⟩:∃ u,bs[i]=u:=⟨_,rfl⟩;obtain⟨g,hgi⟩:∃ g,gs[i]=g:=⟨_,rfl⟩;have hg6:g<=999999:=(by rw[<-hgi];exact HG.out _ (zaQ hig));obtain⟨T,hT⟩:∃ T:ByteArray,(⟨(ps[i]).toArray⟩:ByteArray)=T:=⟨_,rfl⟩;rw[hu] at ck;rw[hgi] at ct;have hct:ix g=.int .i64 g:=rfl;rw[hct] at ct;have hkw:kb<wr.heap.size:=zaC hkb hh.out.2.size;have htw:tb<wr.heap.size:=zaC htb hh.out.2.size;have yk:=(hh.out.2.cell (p:=⟨kb,o+i,none⟩) hkb).trans ck;have yt:=(hh.out.2.cell (p:=⟨tb,p+i,none⟩) htb).trans ct;have HC:=hid fun(wz:World) (hz:Below wr.heap.size wr wz)=>(show Calls Tryz.prog 66 #[ptr u] wz fun e w'=>e=.returned (.string T)/\Below wz.heap.size wz w' by
    have:=HK.out i hib hip wz (hh.out.2.trans (hz.mono hh.out.2.size));rw[hu] at this;simp only[tx,hT] at this;exact this)
   have HSTEP:=hid (Wf.oM hiq);have hqi:=HQI.out i hiq hig hip;rw[hgi] at hqi;have hql:(Q[i]).length<=2000000:=zaI (Wf.dC (zaQ hiq)) HSZ.out;have hTs:T.size<=2000000:=by
    rw[hqi] at hql;simp at hql;rw[<-hT,<-aE];show(ps[i]).length<=_;omega
   have HTL:=hid (show Q[i]=Wf.dec g++61::T.data.toList by rw[hqi,<-hT]);have HTK:=hid (show(Wf.commas (Q.take (i+1))).length<=2000000 from zaI (Wf.pM _) HSZ.out);have fin:∀ S':ByteArray,S'.data.toList=123::Wf.commas (Q.take (i+1))->S'.size<=2000001:=fun S' h=>by
    have:=HTK.out;rw[<-aE,h];simp only[zaF];omega
   have FIN:=hid fin;have HD:=hid fun wz=>eF g g wz (zaA) (by omega);obtain⟨D,hD⟩:∃ D:ByteArray,(⟨(Wf.dec g).toArray⟩:ByteArray)=D:=⟨_,rfl⟩;simp only[tx,hD] at HD;have hds:D.size<=6:=(by rw[<-hD,<-aE];exact Wf.cA hg6);have HDL:=hid (show D.data.toList=Wf.dec g by rw[<-hD]);obtain⟨S1,hS1,hS1s,HE⟩:∃ S1:ByteArray,(S1=if i=0 then S else S++⟨#[44]⟩)/\S1.size<=2000002/\Hid ((S1++D++⟨#[61]⟩++T).data.toList=123::Wf.commas (Q.take (i+1))):=by
    refine⟨_,rfl,?_,hid ?_⟩
    ·split
     ·omega
     ·rw[zaO];show S.size+1<=_;omega
    ·rw[HSTEP.out,HTL.out]
     by_cases hi0:i=0
     ·subst hi0
      rw[if_pos rfl,if_pos rfl];simp only[zaU,zaW,hh.out.1,HDL.out];simp[Wf.commas]
     ·rw[if_neg hi0,if_neg hi0]
      simp only[zaU,zaW,hh.out.1,HDL.out];simp
   have a1:=fun wz=>zbH (P:=Tryz.prog) (w:=wz) S1 D (by omega);have a2:=fun wz=>zbH (P:=Tryz.prog) (w:=wz) (S1++D) ⟨#[61]⟩ (by rw[zaO];show S1.size+D.size+1<=_;omega);have a3:=fun wz=>zbH (P:=Tryz.prog) (w:=wz) (S1++D++⟨#[61]⟩) T (by rw[zaO,zaO];show S1.size+D.size+1+T.size<=_;omega);have n1:(0:Int)<=(i:Int):=(by omega);have n2:(i:Int)<(m:Int):=(by omega);clear hu hT ck ct fin hgi hqi hql hD hct;by_cases hi0:i=0
   ·subst hi0
    rw[if_pos rfl] at hS1;rw[Nat.add_zero] at yt yk;have F:=hid fun(wz:World) (hz:Below wr.heap.size wr wz)=>(show wz.cell? ⟨b,2,none⟩=some (.slice (some ⟨tb,p,none⟩) m tc)/\wz.cell? ⟨tb,p,none⟩=some (.int .i64 g)/\wz.cell? ⟨b,3,none⟩=some (.slice (some ⟨kb,o,none⟩) m c)/\wz.cell? ⟨kb,o,none⟩=some (ptr u) from⟨(hz.cell (p:=⟨b,2,none⟩) hbw).trans y2,(hz.cell (p:=⟨tb,p,none⟩) htw).trans yt,(hz.cell (p:=⟨b,3,none⟩) hbw).trans y3,(hz.cell (p:=⟨kb,o,none⟩) hkw).trans yk⟩);subst hS1;go_wp2_with fail
    go_region_held3 (fun w'=>w'.cell? ⟨b,2,none⟩=some (.slice (some ⟨tb,p,none⟩) m tc)/\w'.cell? ⟨tb,p,none⟩=some (.int .i64 g)/\w'.cell? ⟨b,3,none⟩=some (.slice (some ⟨kb,o,none⟩) m c)/\w'.cell? ⟨kb,o,none⟩=some (ptr u)) (first|exact⟨k1,k2,k3,k4⟩|exact⟨d1,d2,d3,d4⟩|go_keep) (first|(go_at_call 89;refine(HD.out _).mono ?_;rintro e w3 ⟨rfl,hb3⟩;have TD:=Lib.hid (show Below wr.heap.size wr w3 by first|exact TS.out.trans (hb3.mono TS.out.size)|(refine Below.trans (b:=_) ?_ hb3;repeat (first|with_reducible exact zaB|with_reducible refine zbE ?_)));obtain⟨d1,d2,d3,d4⟩:=F.out _ TD.out;clear hb3)|(go_at_call 66;refine(HC.out _ (by first|exact TD.out|(repeat (first|with_reducible exact zaB|with_reducible refine zbE ?_)))).mono ?_;rintro e w4 ⟨rfl,hb4⟩;have TS:=Lib.hid (show Below wr.heap.size wr w4 by first|exact TD.out.trans (hb4.mono TD.out.size)|(refine Below.trans (b:=_) ?_ hb4;repeat (first|with_reducible exact zaB|with_reducible refine zbE ?_)));obtain⟨k1,k2,k3,k4⟩:=F.out _ TS.out;clear hb4))
    all_goals go_wp2_with fail
    all_goals go_roundw
    all_goals first
    | exact⟨0+1,S1++D++⟨#[61]⟩++T,by rfl,by go_num,by omega,FIN.out _ HE.out,hid ⟨HE.out,hh.out.2.trans (TS.out.mono hh.out.2.size)⟩⟩
    | exact⟨0+1,S1++D++⟨#[61]⟩++T,by rfl,by go_num,by omega,FIN.out _ HE.out,hid ⟨HE.out,hh.out.2.trans (TD.out.mono hh.out.2.size)⟩⟩
    | (simp[RowKit.intOf];omega)
   ·have hip0:0<i:=by omega
    rw[if_neg hi0] at hS1;have F:=hid fun(wz:World) (hz:Below wr.heap.size wr wz)=>(show wz.cell? ⟨b,2,none⟩=some (.slice (some ⟨tb,p,none⟩) m tc)/\wz.cell? ⟨tb,p+i,none⟩=some (.int .i64 g)/\wz.cell? ⟨b,3,none⟩=some (.slice (some ⟨kb,o,none⟩) m c)/\wz.cell? ⟨kb,o+i,none⟩=some (ptr u) from⟨(hz.cell (p:=⟨b,2,none⟩) hbw).trans y2,(hz.cell (p:=⟨tb,p+i,none⟩) htw).trans yt,(hz.cell (p:=⟨b,3,none⟩) hbw).trans y3,(hz.cell (p:=⟨kb,o+i,none⟩) hkw).trans yk⟩);subst hS1;clear hi0;go_wp2_with fail
    go_region_held3 (fun w'=>w'.cell? ⟨b,2,none⟩=some (.slice (some ⟨tb,p,none⟩) m tc)/\w'.cell? ⟨tb,p+i,none⟩=some (.int .i64 g)/\w'.cell? ⟨b,3,none⟩=some (.slice (some ⟨kb,o,none⟩) m c)/\w'.cell? ⟨kb,o+i,none⟩=some (ptr u)) (first|exact⟨k1,k2,k3,k4⟩|exact⟨d1,d2,d3,d4⟩|go_keep) (first|(go_at_call 89;refine(HD.out _).mono ?_;rintro e w3 ⟨rfl,hb3⟩;have TD:=Lib.hid (show Below wr.heap.size wr w3 by first|exact TS.out.trans (hb3.mono TS.out.size)|(refine Below.trans (b:=_) ?_ hb3;repeat (first|with_reducible exact zaB|with_reducible refine zbE ?_)));obtain⟨d1,d2,d3,d4⟩:=F.out _ TD.out;clear hb3)|(go_at_call 66;refine(HC.out _ (by first|exact TD.out|(repeat (first|with_reducible exact zaB|with_reducible refine zbE ?_)))).mono ?_;rintro e w4 ⟨rfl,hb4⟩;have TS:=Lib.hid (show Below wr.heap.size wr w4 by first|exact TD.out.trans (hb4.mono TD.out.size)|(refine Below.trans (b:=_) ?_ hb4;repeat (first|with_reducible exact zaB|with_reducible refine zbE ?_)));obtain⟨k1,k2,k3,k4⟩:=F.out _ TS.out;clear hb4))
    all_goals go_wp2_with fail
    all_goals go_roundw
    all_goals first
    | exact⟨i+1,(S++⟨#[44]⟩)++D++⟨#[61]⟩++T,by rfl,by go_num,by omega,FIN.out _ HE.out,hid ⟨HE.out,hh.out.2.trans (TS.out.mono hh.out.2.size)⟩⟩
    | exact⟨i+1,(S++⟨#[44]⟩)++D++⟨#[61]⟩++T,by rfl,by go_num,by omega,FIN.out _ HE.out,hid ⟨HE.out,hh.out.2.trans (TD.out.mono hh.out.2.size)⟩⟩
    | (simp[RowKit.intOf];omega)
  ·have him:i=m:=by omega
   subst him;have HE:=hid (show S++(⟨#[125]⟩:ByteArray)=⟨(123::(Wf.commas Q++[125])).toArray⟩ by
    rw[aQ,zaU,zaW,hh.out.1,zaS (by rw[HQM.out];exact zaA)];simp)
   go_wp2_with fail
   go_ret
   exact⟨aX HE.out,hh.out.2⟩

theorem mG (b:Nat) (KD O:ByteArray) (w:World) (hlt:b<w.heap.size) (hs:0<KD.size) (e0:∀ h,(KD[0]'h).toNat=64) (c0:w.cell? ⟨b,0,none⟩=some (.string KD))
  (hn:Calls Tryz.prog 105 #[ptr b] w fun e w'=>e=.returned (.string O)/\Below w.heap.size w w') :
  Calls Tryz.prog 66 #[ptr b] w fun e w'=>e=.returned (.string O)/\Below w.heap.size w w':=by
 have HN:=hid hn;clear hn;go_enter Tryz.func66,Tryz.ntmps66;go_wp2_with (go_at_call 105;refine HN.out.mono ?_;rintro e w2 ⟨rfl,hb2⟩;have HB2:=hid hb2;clear hb2)
 go_ret
 exact⟨rfl,HB2.out⟩
theorem LV.at {W w:World} {P:Nat->Prop} {v:Wf.V} {b:Nat} (h:LV W P v b) (hw:v.what≠61) (hW:Below W.heap.size W w):b<w.heap.size/\∃ (kd t:List UInt8) (tv kv:Value) (tb kb:Nat) (bs:List Nat),
   w.cell? ⟨b,0,none⟩=some (tx kd)/\w.cell? ⟨b,1,none⟩=some (tx t)/\w.cell? ⟨b,2,none⟩=some tv/\w.cell? ⟨b,3,none⟩=some kv /\
   aH w tb tv ((bU v.what v.tag v.kids).map ix)/\aH w kb kv (bs.map ptr)/\bG v.what v.text kd t/\LVs W P v.kids bs:=by
 obtain⟨_,hb,kd,t,tv,kv,tb,kb,bs,c0,c1,c2,c3,r1,r2,hs,hk⟩:=h.form hw;exact⟨zaC hb hW.size,kd,t,tv,kv,tb,kb,bs,(hW.cell (p:=⟨b,0,none⟩) hb).trans c0,(hW.cell (p:=⟨b,1,none⟩) hb).trans c1,(hW.cell (p:=⟨b,2,none⟩) hb).trans c2,(hW.cell (p:=⟨b,3,none⟩) hb).trans c3,r1.below hW id,r2.below hW id,hs,hk⟩
theorem LVs.one {W:World} {P:Nat->Prop} {v:Wf.V} {bs:List Nat} (h:LVs W P [v] bs):∃ u,bs=[u]/\LV W P v u:=by
 simp only[LVs] at h;obtain⟨u,bs',rfl,h1,rfl⟩:=h;exact⟨u,rfl,h1⟩
theorem LVs.none {W:World} {P:Nat->Prop} {bs:List Nat} (h:LVs W P [] bs):bs=[]:=by
 simpa only [LVs] using h
theorem LVs.fields {W:World} {P:Nat->Prop}:∀ {l:List (Wf.Fd × Wf.V)} {bs:List Nat},LVs W P (l.map fun e=>.mk 61 [] e.1.tag [e.2]) bs->LVs W P (l.map (·.2)) bs:=by
 intro l;induction l with
 | nil=>intro bs h;exact h
 | cons e l ih =>
  intro bs h;simp only[zaX,LVs] at h ⊢;obtain⟨b,bs',rfl,h1,h2⟩:=h;exact⟨b,bs',rfl,LV.field.1 h1,ih h2⟩
theorem nS (l:List (Wf.Fd × Wf.V)):bU 82 0 (l.map fun e=>.mk 61 [] e.1.tag [e.2])=l.map (fun e=>e.1.tag):=by
 unfold bU;rw[if_pos rfl,List.map_map];rfl
theorem pL (l:List (Wf.Fd × Wf.V)):(((l.map fun e=>e.1.tag).zip (l.map fun e=>e.2.print)).map fun y=>Wf.dec y.1++61::y.2)=(l.map fun e=>Wf.V.mk 61 [] e.1.tag [e.2]).map Wf.V.print:=by
 induction l with
 | nil=>rfl
 | cons e l ih=>simp only[zaX,List.zip_cons_cons,ih,Wf.dB]
theorem out {x:Wf.Sc}:∀ (n:Nat) (k:Wf.K) (v:Wf.V),Wf.Typed x n k v->∀ (P:Nat->Prop) (b:Nat) (W w:World),LV W P v b->Below W.heap.size W w->v.print.length<=2000000->Calls Tryz.prog 66 #[ptr b] w fun e w'=>e=.returned (tx v.print)/\Below w.heap.size w w':=by
 intro n;induction n with
 | zero=>intro k v h;exact h.elim
 | succ n ih =>
  intro k v h P b W w hL hW hlen;obtain⟨hlt,kd,t,tv,kv,tb,kb,bs,c0,c1,c2,c3,r1,r2,hs,hk⟩:=hL.at (Wf.mU h) hW;have leaf:∀ q:UInt8,(q.toNat=110\/q.toNat=116\/q.toNat=102)->kd.head? = some q->t=v.print->Calls Tryz.prog 66 #[ptr b] w fun e w'=>e=.returned (tx v.print)/\Below w.heap.size w w':=by
   intro q hq hkd ht;obtain⟨h1,h2⟩:=bK hkd;refine(a0N b q.toNat ⟨kd.toArray⟩ ⟨t.toArray⟩ w hlt h1 h2 hq c0 c1).mono ?_;rintro e w' ⟨rfl,rfl⟩;exact⟨by rw[ht],zaB⟩
  cases k with
  | num =>
   obtain⟨m,hm,rfl⟩:=h;simp only[Wf.V.what,Wf.V.text,bG] at hs;exact leaf 110 (.inl rfl) hs.1 (by rw[hs.2,Wf.eR])
  | txt =>
   obtain⟨d,h1,h2,rfl⟩:=h;simp only[Wf.V.what,Wf.V.text,bG] at hs;exact leaf 116 (.inr (.inl rfl)) hs.1 (by rw[hs.2,Wf.eU])
  | flag =>
   rcases h with rfl|rfl;all_goals
    simp only[Wf.V.what,Wf.V.text,bG] at hs;exact leaf 102 (.inr (.inr rfl)) hs.1 (by rw[hs.2,Wf.cU])
  | list k =>
   obtain⟨l,h20,hl,rfl⟩:=h;simp only[Wf.V.what,Wf.V.text,Wf.V.kids,bG] at hs hk;obtain⟨h1,h2⟩:=bK hs.1;rw[Wf.dK] at hlen ⊢;have hcl:(Wf.commas (l.map Wf.V.print)).length<=2000000:=(by simp at hlen;omega);refine yS b kb ⟨kd.toArray⟩ kv bs (l.map Wf.V.print) w hlt h1 h2 c0 c3 r2 (by rw[hk.len,zaG]) hcl fun i g1 g2 wz hz=>?_;have g3:i<l.length:=(by simpa using g2);rw[zaR];exact ih k l[i] (hl _ (zaQ g3)) P bs[i] W wz (hk.get i g3 g1) (hW.trans (hz.mono hW.size)) (zaI (Wf.dC (List.mem_map.2 ⟨_,zaQ g3,rfl⟩)) hcl)
  | opt k =>
   rcases h with rfl|⟨u,hu,rfl⟩
   ·simp only[Wf.V.what,Wf.V.text,Wf.V.kids,bG] at hs hk
    obtain⟨h1,h2⟩:=bK hs.1;obtain rfl:=hk.none;obtain⟨a,c,rfl,_,_⟩:=r2.form;refine(a2W b c ⟨kd.toArray⟩ a w hlt h1 h2 c0 c3).mono ?_;rintro e w' ⟨rfl,rfl⟩;exact⟨by rw[Wf.fR],zaB⟩
   ·simp only[Wf.V.what,Wf.V.text,Wf.V.kids,bG] at hs hk
    obtain⟨h1,h2⟩:=bK hs.1;obtain⟨ub,rfl,hu2⟩:=hk.one;obtain⟨a,c,rfl,hnc,hcm⟩:=r2.form;obtain⟨o,rfl,hkb,_,_,ck⟩:=r2.get (i:=0) (by simp);rw[Wf.dE] at hlen ⊢;have hul:u.print.length<=2000000:=(by simp at hlen;omega);exact a2Q b kb o ub c ⟨kd.toArray⟩ ⟨u.print.toArray⟩ w hlt h1 h2 c0 c3 hkb ck hnc hcm (by rw[<-aE];exact hul) fun wz hz=>ih k u hu P ub W wz hu2 (hW.trans (hz.mono hW.size)) hul
  | ref nm =>
   obtain⟨ty,hty,h⟩:=h;rcases h with⟨_,f,hf,hf2,rfl⟩|⟨_,_,f,u,hf,hf2,hu,rfl⟩|⟨_,_,l,hasc,hl,rfl⟩
   ·simp only[Wf.V.what,Wf.V.text,Wf.V.kids,Wf.V.tag,bG] at hs hk r1
    obtain⟨h1,h2⟩:=bK hs.1;have htl:t=[69]:=hs.2;subst htl;obtain⟨a,c,rfl,hnc,hcm⟩:=r1.form;obtain⟨o,rfl,htb,_,_,ct⟩:=r1.get (i:=0) (by simp[bU]);rw[Wf.eX];exact mG b ⟨kd.toArray⟩ ⟨(35::Wf.dec f.tag).toArray⟩ w hlt h1 h2 c0 (a1A b tb o f.tag c _ w hlt c1 c2 (by simp[bU]) hnc hcm htb (by simpa[bU] using ct) (by omega))
   ·simp only[Wf.V.what,Wf.V.text,Wf.V.kids,Wf.V.tag,bG] at hs hk r1
    obtain⟨h1,h2⟩:=bK hs.1;have htl:t=[85]:=hs.2;subst htl;obtain⟨ub,rfl,hu2⟩:=hk.one;obtain⟨a,c,rfl,hnc,hcm⟩:=r1.form;obtain⟨o,rfl,htb,_,_,ct⟩:=r1.get (i:=0) (by simp[bU]);obtain⟨ka,kc,rfl,hkc,hkm⟩:=r2.form;obtain⟨p,rfl,hkb,_,_,ck⟩:=r2.get (i:=0) (by simp);rw[Wf.dY] at hlen ⊢;have hul:u.print.length<=2000000:=(by simp at hlen;omega);exact mG b ⟨kd.toArray⟩ ⟨(60::(Wf.dec f.tag++61::(u.print++[62]))).toArray⟩ w hlt h1 h2 c0 (uS b tb kb o p ub f.tag c _ _ kc ⟨u.print.toArray⟩ w hlt c1 c2 (by simp[bU]) hnc hcm htb (by simpa[bU] using ct) (by omega) c3 (by simp) hkc hkm hkb ck (by rw[<-aE];exact hul) fun wz hz=>ih f.kind u hu P ub W wz hu2 (hW.trans (hz.mono hW.size)) hul)
   ·simp only[Wf.V.what,Wf.V.text,Wf.V.kids,Wf.V.tag,bG] at hs hk r1
    obtain⟨h1,h2⟩:=bK hs.1;have htl:t=[82]:=hs.2;subst htl;rw[nS] at r1;have hk2:=hk.fields;have hbl:bs.length=l.length:=(by rw[hk2.len,zaG]);rw[Wf.dS,<-pL] at hlen ⊢;have hcl:(Wf.commas (((l.map fun e=>e.1.tag).zip (l.map fun e=>e.2.print)).map fun y=>Wf.dec y.1++61::y.2)).length<=2000000:=(by simp only[zaF,zaD,zaM] at hlen;omega);refine mG b ⟨kd.toArray⟩ ⟨_⟩ w hlt h1 h2 c0 (vI b tb kb tv kv (l.map fun e=>e.1.tag) bs (l.map fun e=>e.2.print) w hlt c1 c2 c3 r1 r2 (by rw[zaG,hbl]) (by rw[zaG,hbl]) (fun g hg=>?_) hcl fun i g1 g2 wz hz=>?_)
    ·obtain⟨e,he,rfl⟩:=List.mem_map.1 hg
     have:=(hl e he).2.2.1;omega
    ·have g3:i<l.length:=by simpa using g2
     have g4:i<(l.map (·.2)).length:=(by simpa using g3);have hv:=hk2.get i g4 g1;rw[zaR] at hv;rw[zaR];refine ih (l[i]).1.kind (l[i]).2 (hl _ (zaQ g3)).2.2.2.1 P bs[i] W wz hv (hW.trans (hz.mono hW.size)) ?_;rw[pL] at hcl;have h3:=Wf.dC (l:=(l.map fun e=>Wf.V.mk 61 [] e.1.tag [e.2]).map Wf.V.print) (a:=(Wf.V.mk 61 [] (l[i]).1.tag [(l[i]).2]).print) (List.mem_map.2 ⟨_,List.mem_map.2 ⟨l[i],zaQ g3,rfl⟩,rfl⟩);rw[Wf.dB] at h3;simp only[zaD,zaF] at h3;omega

