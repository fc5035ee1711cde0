/- Packed. -/
import Derived.Test.YtidjpalnmnehmaaGreatDoorG43
set_option maxRecDepth 99999
set_option maxHeartbeats 40000000
set_option linter.all false
namespace Go.Proofs.YtidjpalnmnehmaaGreatDoor
open Go.ChangeShapes Go.WideShapes Go.ChangeAt Go.RowKit Go.Lib
theorem TyB.off {w wr w2:World} {s tb vb q:Nat} {KT T1:ByteArray} {fv:Value} (h:TyB w wr tb vb KT T1 q fv) (hb:aA s wr w2) (n1:tb≠s) (n2:vb≠s):TyB w w2 tb vb KT T1 q fv:=by
 exact⟨h.tle,h.vle,zaC h.tlt hb.size,zaC h.vlt hb.size,h.ne,(hb.cell (p:=⟨tb,0,none⟩) h.tlt n1).trans h.t0,(hb.cell (p:=⟨tb,2,none⟩) h.tlt n1).trans h.t2,(hb.cell (p:=⟨vb,0,none⟩) h.vlt n2).trans h.v0,(hb.cell (p:=⟨vb,1,none⟩) h.vlt n2).trans h.v1,(hb.cell (p:=⟨vb,2,none⟩) h.vlt n2).trans h.v2,(hb.cell (p:=⟨vb,3,none⟩) h.vlt n2).trans h.v3,(hb.frozen (p:=⟨vb,2,none⟩) h.vlt n2).trans h.f2,(hb.frozen (p:=⟨vb,3,none⟩) h.vlt n2).trans h.f3⟩
structure fW (w wr:World) (rb tb vb fx:Nat) (f:Wf.Fd) (KT T1:ByteArray) (q:Nat) (fv:Value) (k1:Nat):Prop where
 ty:TyB w wr tb vb KT T1 q fv
 bs:aA rb w wr
 rd:Rd wr rb k1
 le:w.heap.size<=fx
 lt:fx<wr.heap.size
 nv:fx≠vb
 c0:wr.cell? ⟨fx,0,none⟩=some (.int .i64 f.tag)
 c2:wr.cell? ⟨fx,2,none⟩=some (tx f.kind.text)
theorem sD {w w3:World} {rb tb vb q k1:Nat} {KT T1:ByteArray} {fv:Value} {f:Wf.Fd} {A B:ByteArray} (h:TyB w w3 tb vb KT T1 q fv) (hb:aA rb w w3) (hr:Rd w3 rb k1) (hr0:rb<w.heap.size):fW w (w3.alloc (.cells #[.int .i64 f.tag,.string A,tx f.kind.text,.string B] 163)) rb tb vb w3.heap.size f KT T1 q fv k1:=by
 have hB:=(Below.refl w3.heap.size w3).alloc (zaA) (.cells #[.int .i64 f.tag,.string A,tx f.kind.text,.string B] 163);have hv:=h.vlt;exact⟨h.beside hr0 (aA.aF hB (zaA)),hb.alloc _,hr.below hB hr.lt,hb.size,by simp,by omega,by simp[go_sem],by simp[go_sem]⟩
theorem xT {w w4:World} {rb tb vb fx q k1:Nat} {KT T1:ByteArray} {fv:Value} {f:Wf.Fd} {A B a0 a2:Value} (h:TyB w w4 tb vb KT T1 q fv) (hb:aA rb w w4) (hr:Rd w4 rb k1) (hr0:rb<w.heap.size) (hl:w.heap.size<=fx) (hx:fx<w4.heap.size) (hv:fx≠vb) (ht:fx≠tb) (c0:w4.cell? ⟨fx,0,none⟩=some a0) (c2:w4.cell? ⟨fx,2,none⟩=some a2) :
  fW w ((((w4.setCell ⟨fx,0,none⟩ (.int .i64 f.tag)).setCell ⟨fx,1,none⟩ A).setCell ⟨fx,2,none⟩ (tx f.kind.text)).setCell ⟨fx,3,none⟩ B) rb tb vb fx f KT T1 q fv k1:=by
 have hB:Below w.heap.size w4 ((((w4.setCell ⟨fx,0,none⟩ (.int .i64 f.tag)).setCell ⟨fx,1,none⟩ A).setCell ⟨fx,2,none⟩ (tx f.kind.text)).setCell ⟨fx,3,none⟩ B):=((((Below.refl _ w4).setCell hl _).setCell hl _).setCell hl _).setCell hl _;have hS:aA fx w4 ((((w4.setCell ⟨fx,0,none⟩ (.int .i64 f.tag)).setCell ⟨fx,1,none⟩ A).setCell ⟨fx,2,none⟩ (tx f.kind.text)).setCell ⟨fx,3,none⟩ B):=(((aA.set fx w4 0 _).trans (aA.set fx _ 1 _)).trans (aA.set fx _ 2 _)).trans (aA.set fx _ 3 _);refine⟨h.off hS ht.symm hv.symm,fX hb hB (zaA),hr.below hB hr0,hl,by simpa using hx,hv,?_,?_⟩
 ·rw[zbA _ _ _ _ (by simp),zbA _ _ _ _ (by simp),zbA _ _ _ _ (by simp)]
  exact zbC _ _ _ c0
 ·rw[zbA _ _ _ _ (by simp)]
  exact zbC _ _ _ ((zbA _ _ _ _ (by simp)).trans ((zbA _ _ _ _ (by simp)).trans c2))
theorem tC {w w7:World} {rb vb zb k p G s6:Nat} {KT:ByteArray} {y:Wf.V} (R0:rb<w.heap.size) (hk:KT.data.toList.head? = some 64) (hb:aA rb w w7) (hrd:Rd w7 rb k) (hv:w.heap.size<=vb) (hvl:vb<s6) (hz:w.heap.size<=zb) (hzl:zb<s6) (hs6:s6<=w7.heap.size) (hzv:zb≠vb)
  (c0:w7.cell? ⟨vb,0,none⟩=some (.string KT)) (c1:w7.cell? ⟨vb,1,none⟩=some (.string ⟨#[85]⟩)) (c2:w7.cell? ⟨vb,2,none⟩=some (.slice (some ⟨zb,0,none⟩) 1 1)) (c3:w7.cell? ⟨vb,3,none⟩=some (.slice none 0 0)) (cz:w7.cell? ⟨zb,0,none⟩=some (.int .i64 G)) (fz:w7.frozen? ⟨zb,0,none⟩=false) (hy:LV w7 (fun z=>s6<=z) y p) :
  LV ((w7.setCell ⟨vb,3,none⟩ (.slice (some ⟨w7.heap.size,0,none⟩) 1 1)).alloc (.cells #[ptr p] 57)) (fun z=>w.heap.size<=z) (.mk 85 [] G [y]) vb/\Rd ((w7.setCell ⟨vb,3,none⟩ (.slice (some ⟨w7.heap.size,0,none⟩) 1 1)).alloc (.cells #[ptr p] 57)) rb k/\aA rb w ((w7.setCell ⟨vb,3,none⟩ (.slice (some ⟨w7.heap.size,0,none⟩) 1 1)).alloc (.cells #[ptr p] 57)):=by
 obtain⟨W5,hW5⟩:∃ W5,w7.setCell ⟨vb,3,none⟩ (.slice (some ⟨w7.heap.size,0,none⟩) 1 1)=W5:=⟨_,rfl⟩;have hs:W5.heap.size=w7.heap.size:=by rw[<-hW5];simp
 have cc:=fun(b j:Nat) u (hj:b≠vb\/j≠3) (c:w7.cell? ⟨b,j,none⟩=some u)=>(show W5.cell? ⟨b,j,none⟩=some u by rw[<-hW5];exact(zbA w7 ⟨vb,3,none⟩ ⟨b,j,none⟩ (.slice (some ⟨w7.heap.size,0,none⟩) 1 1) (by simp;omega)).trans c);have c3':W5.cell? ⟨vb,3,none⟩=some (.slice (some ⟨W5.heap.size,0,none⟩) 1 1):=by rw[hs,<-hW5];exact zbC _ _ _ c3
 have fz':W5.frozen? ⟨zb,0,none⟩=false:=by rw[<-hW5];simpa using fz
 have hB:Below w.heap.size w7 W5:=by rw[<-hW5];exact(Below.refl _ w7).setCell hv _
 have hblk:∀ b,b≠vb->W5.heap[b]? = w7.heap[b]?:=fun b hb=>by rw[<-hW5];exact Below.heap_setCell _ _ _ _ hb
 rw[hW5];have hB6:=hB.alloc (by rw[hs];exact hb.size) (.cells #[ptr p] 57);have aa:=fun(b j:Nat) u (hlt:b<W5.heap.size) (c:W5.cell? ⟨b,j,none⟩=some u)=>(zbB W5 (.cells #[ptr p] 57) ⟨b,j,none⟩ hlt).trans c;have hv5:vb<W5.heap.size:=by omega
 have hz5:zb<W5.heap.size:=by omega
 have hA:=(Below.refl W5.heap.size W5).alloc (zaA) (.cells #[ptr p] 57);refine⟨LV.uni hv hz (by rw[hs];exact hb.size) (by simp;omega) (by simp;omega) (by simp) hk (aa vb 0 _ hv5 (cc vb 0 _ (.inr (by decide)) c0)) (aa vb 1 _ hv5 (cc vb 1 _ (.inr (by decide)) c1)) (aa vb 2 _ hv5 (cc vb 2 _ (.inr (by decide)) c2)) (aa vb 3 _ hv5 c3') (aa zb 0 _ hz5 (cc zb 0 _ (.inl hzv) cz)) ((hA.frozen (p:=⟨zb,0,none⟩) hz5).trans fz') (by simp[go_sem]) (by simp[go_sem]) (LV.keep (fun b hp hlt=>⟨?_,?_⟩) (by simp;omega) _ _ hy),hrd.below hB6 R0,fX hb hB6 (zaA)⟩
 ·have h6:s6<=b:=hp
  omega
 ·have h6:s6<=b:=hp
  rw[hA.block b (by omega)];exact hblk b (by omega)
structure jS (w W6:World) (rb vb zb fx:Nat) (f:Wf.Fd) (KT:ByteArray) (k1:Nat):Prop where
 bs:aA rb w W6
 rd:Rd W6 rb k1
 vle:w.heap.size<=vb
 vlt:vb<W6.heap.size
 zle:w.heap.size<=zb
 zlt:zb<W6.heap.size
 zv:zb≠vb
 v0:W6.cell? ⟨vb,0,none⟩=some (.string KT)
 v1:W6.cell? ⟨vb,1,none⟩=some (.string ⟨#[85]⟩)
 v2:W6.cell? ⟨vb,2,none⟩=some (.slice (some ⟨zb,0,none⟩) 1 1)
 v3:W6.cell? ⟨vb,3,none⟩=some (.slice none 0 0)
 f3:W6.frozen? ⟨vb,3,none⟩=false
 z0:W6.cell? ⟨zb,0,none⟩=some (.int .i64 f.tag)
 fz:W6.frozen? ⟨zb,0,none⟩=false
 k2:W6.cell? ⟨fx,2,none⟩=some (tx f.kind.text)
theorem jS.beside {w W6 w7:World} {rb vb zb fx k1 k2:Nat} {f:Wf.Fd} {KT:ByteArray} (h:jS w W6 rb vb zb fx f KT k1) (R0:rb<w.heap.size) (hb:aA rb W6 w7) (hr:Rd w7 rb k2) (hf:fx<W6.heap.size) (hfr:fx≠rb):jS w w7 rb vb zb fx f KT k2:=by
 have n1:vb≠rb:=by have:=h.vle;omega
 have n2:zb≠rb:=by have:=h.zle;omega
 exact⟨h.bs.trans hb,hr,h.vle,zaC h.vlt hb.size,h.zle,zaC h.zlt hb.size,h.zv,(hb.cell (p:=⟨vb,0,none⟩) h.vlt n1).trans h.v0,(hb.cell (p:=⟨vb,1,none⟩) h.vlt n1).trans h.v1,(hb.cell (p:=⟨vb,2,none⟩) h.vlt n1).trans h.v2,(hb.cell (p:=⟨vb,3,none⟩) h.vlt n1).trans h.v3,(hb.frozen (p:=⟨vb,3,none⟩) h.vlt n1).trans h.f3,(hb.cell (p:=⟨zb,0,none⟩) h.zlt n2).trans h.z0,(hb.frozen (p:=⟨zb,0,none⟩) h.zlt n2).trans h.fz,(hb.cell (p:=⟨fx,2,none⟩) hf hfr).trans h.k2⟩
theorem oM {w wb:World} {rb tb vb fx k1:Nat} {f:Wf.Fd} {KT:ByteArray} {fv:Value} (h:fW w wb rb tb vb fx f KT ⟨#[85]⟩ 85 fv k1) (R0:rb<w.heap.size):jS w ((wb.setCell ⟨vb,2,none⟩ (.slice (some ⟨wb.heap.size,0,none⟩) 1 1)).alloc (.cells #[.int .i64 f.tag] 3)) rb vb wb.heap.size fx f KT k1:=by
 have hl:=h.ty.vlt;have hv:=h.ty.vle;have hx:=h.lt;have hnv:=h.nv;obtain⟨W5,hW5⟩:∃ W5,wb.setCell ⟨vb,2,none⟩ (.slice (some ⟨wb.heap.size,0,none⟩) 1 1)=W5:=⟨_,rfl⟩;have hs:W5.heap.size=wb.heap.size:=by rw[<-hW5];simp
 have cc:=fun(b j:Nat) u (hj:b≠vb\/j≠2) (c:wb.cell? ⟨b,j,none⟩=some u)=>(show W5.cell? ⟨b,j,none⟩=some u by rw[<-hW5];exact(zbA wb ⟨vb,2,none⟩ ⟨b,j,none⟩ (.slice (some ⟨wb.heap.size,0,none⟩) 1 1) (by simp;omega)).trans c);have c2:W5.cell? ⟨vb,2,none⟩=some (.slice (some ⟨W5.heap.size,0,none⟩) 1 1):=by rw[hs,<-hW5];exact zbC _ _ _ h.ty.v2
 have f3:W5.frozen? ⟨vb,3,none⟩=false:=by rw[<-hW5];simpa using h.ty.f3
 have hB:Below w.heap.size wb W5:=by rw[<-hW5];exact(Below.refl _ wb).setCell hv _
 rw[hW5,<-hs];have hB6:=hB.alloc (by rw[hs];exact h.bs.size) (.cells #[.int .i64 (f.tag:Int)] 3);have hA:=(Below.refl W5.heap.size W5).alloc (zaA) (.cells #[.int .i64 (f.tag:Int)] 3);have aa:=fun(b j:Nat) u (hlt:b<W5.heap.size) (c:W5.cell? ⟨b,j,none⟩=some u)=>(hA.cell (p:=⟨b,j,none⟩) hlt).trans c;have hv5:vb<W5.heap.size:=by omega
 exact⟨fX h.bs hB6 (zaA),h.rd.below hB6 R0,hv,by simp;omega,by rw[hs];exact h.bs.size,by simp,by omega,aa vb 0 _ hv5 (cc vb 0 _ (.inr (by decide)) h.ty.v0),aa vb 1 _ hv5 (cc vb 1 _ (.inr (by decide)) h.ty.v1),aa vb 2 _ hv5 c2,aa vb 3 _ hv5 (cc vb 3 _ (.inr (by decide)) h.ty.v3),(hA.frozen (p:=⟨vb,3,none⟩) hv5).trans f3,by simp[go_sem],by simp[go_sem],aa fx 2 _ (by omega) (cc fx 2 _ (.inl hnv) h.c2)⟩
section
variable (x:Wf.Sc) (v:Value) (rb lo bsc:Nat) (d:Int)
theorem tI (hx:Wf.ScOk x) (nm:List UInt8) (hnm:(Wf.K.ref nm).text.length<=1000000) (t:Wf.Ty) (hf:x.find nm=some t) (h85:t.sort=85) (hd1 : -1000<=d) (hd2:d<=1000) (C B N:Nat) (IH:∀ f∈t.fields,(0<d\/t.fields.head? = some f)->DrV x v rb lo bsc (d-1) f.kind C B N):DtV x v rb lo bsc d nm (C+1) (B+6) (N+1):=fun w k0 H hk0 hsp hlo=>by
 have R0:=H.lt;have hto:=hx.tys t (Wf.bK hf).1;have h69:t.sort≠69:=by rw[h85];decide
 have hn1:1<=t.fields.length:=List.length_pos_iff.2 (hto.some (by rw[h85];decide));have hr:=mD x v rb lo bsc hx nm hnm t hf hn1 w hsp hlo;obtain⟨n,hn⟩:∃ n,t.fields.length=n:=⟨_,rfl⟩;have hn8:n<=8:=by have:=hto.len;omega
 obtain⟨KT,hKT⟩:∃ KT:ByteArray,(⟨(Wf.K.ref nm).text.toArray⟩:ByteArray)=KT:=⟨_,rfl⟩;obtain⟨N0,hN⟩:∃ N:ByteArray,(⟨t.name.toArray⟩:ByteArray)=N:=⟨_,rfl⟩;have HKH:=hid (show KT.data.toList.head? = some 64 by rw[<-hKT];rfl);rw[hn,h85,tx,tx,hKT,hN] at hr;have HREF:=hid hr;rw[hn] at hn1;have kc1:=fun W (a:Addr) (c:Nat) (h:W.cell? a=some (.int .u8 85))=>(show(convert 22 9 (.slice (some a) 1 c)).run Tryz.prog W=.ok (.string ⟨#[85]⟩) W from run_convert_one (P:=Tryz.prog) 22 9 5 Tryz.underlying22 Tryz.underlying5 Tryz.underlying9 W a c 85 h);have HFL:=hid fun(wz:World) (fb o i:Nat) (hfd:eG rb wz fb o t) (hi:i<n)=>(show ∃ f:Wf.Fd,f∈t.fields/\(i=0->t.fields.head? = some f)/\fb<wz.heap.size/\wz.cell? ⟨fb,o+i*4,none⟩=some (.int .i64 f.tag)/\wz.cell? ⟨fb,o+i*4+1,none⟩=some (tx f.name)/\wz.cell? ⟨fb,o+i*4+2,none⟩=some (tx f.kind.text)/\wz.cell? ⟨fb,o+i*4+3,none⟩=some (tx f.given) by
  have hil:i<t.fields.length:=by omega
  obtain⟨g1,g2,g3,g4,g5⟩:=hfd.field hil h69;exact⟨t.fields[i],zaQ _,fun h=>by subst h;rw[List.head?_eq_getElem?];exact zaV hil,g1,g2,g3,g4,g5⟩)
 have HIH:=hid IH;have HSP:=hid hsp;have HF:=hid hf;have H85:=hid h85;have HTO:=hid hto;have kd:IntKind.i64.wrap (d-1)=d-1:=zbI _ (by omega);rw[tx,hKT];clear hKT hN hsp hf hn h85 hto hx hr IH h69;go_enter Tryz.func104,Tryz.ntmps104;go_upto_region 8 with(go_at_call 122;refine HREF.out.mono ?_;rintro e w2 ⟨⟨fb,o,fc,rfl,hnc,hcm,hfd⟩,hb2⟩;have HFD:=hid hfd;have HB2:=hid hb2;have hl2:=hb2.size;clear hfd hb2)
 obtain⟨W3,hW3⟩:∃ W3,((w2.alloc (.cells #[.int .u8 85,.string N0,.slice (some ⟨fb,o,none⟩) n fc] 143)).alloc (.cells #[.int .u8 85] 5)).alloc (.cells #[.string KT,.string ⟨#[85]⟩,.slice none 0 0,.slice none 0 0] 103)=W3:=⟨_,rfl⟩;rw[hW3];obtain⟨tb0,hbl3⟩:=lC HB2.out KT N0 ⟨#[85]⟩ 85 (.slice (some ⟨fb,o,none⟩) n fc) W3 hW3;clear hW3;have TB:=hid tb0;have B3:=hid (aA.aF (rb:=rb) hbl3 (zaA));have R3:=hid (H.below hbl3 R0);have t2:=tb0.t2;have tlt:=tb0.tlt;have vlt:=tb0.vlt;have hw3:=hbl3.size;have hrl:=R3.out.lt;obtain⟨f0,hf0,hf0h,hfbl,g0,g1,g2,g3⟩:=HFL.out W3 fb o 0 (HFD.out.beside B3.out) hn1;have HF0:=hid hf0;have HF0H:=hid (hf0h rfl);obtain⟨A0,hA0⟩:∃ A:ByteArray,(⟨f0.name.toArray⟩:ByteArray)=A:=⟨_,rfl⟩;obtain⟨K0,hK0⟩:∃ A:ByteArray,(⟨f0.kind.text.toArray⟩:ByteArray)=A:=⟨_,rfl⟩;obtain⟨B0,hB0⟩:∃ A:ByteArray,(⟨f0.given.toArray⟩:ByteArray)=A:=⟨_,rfl⟩;have HK0:=hid (show tx f0.kind.text=.string K0 by rw[tx,hK0]);simp only[tx,hA0,hK0,hB0,Nat.zero_mul,Nat.add_zero] at g0 g1 g2 g3;clear tb0 hbl3 hf0 hf0h hA0 hK0 hB0;by_cases hd:0<d
 ·have hdd:decide ((0:Int)<d)=true:=decide_eq_true hd
  have HBA:=hid (sD (f:=f0) (A:=A0) (B:=B0) TB.out B3.out R3.out R0);go_upto_region 10 with fail
  obtain⟨WA,hWA⟩:∃ WA,W3.alloc (.cells #[.int .i64 f0.tag,.string A0,.string K0,.string B0] 163)=WA:=⟨_,rfl⟩;have HBA2:=hid (show fW w WA rb w2.heap.size (w2.heap.size+1+1) W3.heap.size f0 KT ⟨#[85]⟩ 85 (.slice (some ⟨fb,o,none⟩) n fc) k0 by
   have h:=HBA.out;rw[HK0.out,hWA] at h;exact h)
  have ff1:=hid (show ∀ j,WA.frozen? ⟨W3.heap.size,j,none⟩=false by intro j;rw[<-hWA];simp[go_sem]);have ff2:=hid (show WA.cell? ⟨W3.heap.size,1,none⟩=some (.string A0)/\WA.cell? ⟨W3.heap.size,3,none⟩=some (.string B0) by constructor <;> (rw[<-hWA];simp[go_sem]));rw[hWA];clear hWA HBA g0 g1 g2 g3;have at2:=HBA2.out.ty.t2;have atl:=HBA2.out.ty.tlt;have xla:=HBA2.out.lt;have RA:=HBA2.out.rd.lt;have nxr:W3.heap.size≠rb:=by omega
  have nxv:W3.heap.size≠w2.heap.size+1+1:=by omega
  have nxt:W3.heap.size≠w2.heap.size:=by omega
  go_cut [] (fun wx=>∃ f:Wf.Fd,Hid (f∈t.fields/\fW w wx rb w2.heap.size (w2.heap.size+1+1) W3.heap.size f KT ⟨#[85]⟩ 85 (.slice (some ⟨fb,o,none⟩) n fc) (k0+1)))
  case first =>
   go_region_law ((try go_simp);go_at_call 62;refine(pick rb k0 n WA.drew (HBA2.out.rd.below (zbE (zaB)) RA) (by omega) (by omega)).mono ?_;rintro e w4 ⟨i,rfl,hi,_,hr4,hb4⟩;obtain⟨hi0,hi1⟩:=hi (by omega);obtain⟨i',rfl⟩:=Int.eq_ofNat_of_zero_le hi0;have hin:i'<n:=(by omega);have BE4:=hid ((aA.drew (aA.refl rb WA)).trans hb4);obtain⟨f,hfm,_,hfb4,e0,e1,e2,e3⟩:=HFL.out w4 fb o i' (HFD.out.beside (HBA2.out.bs.trans BE4.out)) hin;obtain⟨A1,hA1⟩:∃ A:ByteArray,(⟨f.name.toArray⟩:ByteArray)=A:=⟨_,rfl⟩;obtain⟨K1,hK1⟩:∃ A:ByteArray,(⟨f.kind.text.toArray⟩:ByteArray)=A:=⟨_,rfl⟩;obtain⟨B1,hB1⟩:∃ A:ByteArray,(⟨f.given.toArray⟩:ByteArray)=A:=⟨_,rfl⟩;have HK1:=hid (show tx f.kind.text=.string K1 from(by rw[tx,hK1]));simp only[tx,hA1,hK1,hB1] at e1 e2 e3;have HFM:=hid hfm;have TB4:=hid (HBA2.out.ty.beside R0 BE4.out);have t24:=TB4.out.t2;have tl4:=TB4.out.tlt;have xl4:W3.heap.size<w4.heap.size:=zaC xla BE4.out.size;have x0:=(BE4.out.cell (p:=⟨W3.heap.size,0,none⟩) xla nxr).trans HBA2.out.c0;have x1:=(BE4.out.cell (p:=⟨W3.heap.size,1,none⟩) xla nxr).trans ff2.out.1;have x2:=(BE4.out.cell (p:=⟨W3.heap.size,2,none⟩) xla nxr).trans HBA2.out.c2;have x3:=(BE4.out.cell (p:=⟨W3.heap.size,3,none⟩) xla nxr).trans ff2.out.2;have y0:=(BE4.out.frozen (p:=⟨W3.heap.size,0,none⟩) xla nxr).trans (ff1.out 0);have y1:=(BE4.out.frozen (p:=⟨W3.heap.size,1,none⟩) xla nxr).trans (ff1.out 1);have y2:=(BE4.out.frozen (p:=⟨W3.heap.size,2,none⟩) xla nxr).trans (ff1.out 2);have y3:=(BE4.out.frozen (p:=⟨W3.heap.size,3,none⟩) xla nxr).trans (ff1.out 3);have R4:=hid hr4;clear hr4 hb4 hfm hi hA1 hK1 hB1)
   all_goals (go_wp2_with fail;go_meet)
   all_goals exact⟨f,hid ⟨HFM.out,by rw[<-HK1.out];exact xT TB4.out (HBA2.out.bs.trans BE4.out) R4.out R0 (by omega) xl4 nxv nxt x0 x2⟩⟩
  case rest =>
   obtain⟨f,hcc⟩:=hcut;obtain⟨Wb,hWb⟩:∃ Wb,Wb=wc:=⟨_,rfl⟩;subst hWb;have HFM:=hid hcc.out.1;have HBX:=hid hcc.out.2;clear hcc at2 atl xla nxt nxv;have c0b:=HBX.out.c0;have U6:=hid (oM HBX.out R0);have v2b:=HBX.out.ty.v2;have f2b:=HBX.out.ty.f2;have vlb:=HBX.out.ty.vlt;have xlb:=HBX.out.lt;have xl6:=hid (show W3.heap.size<((Wb.setCell ⟨w2.heap.size+1+1,2,none⟩ (.slice (some ⟨Wb.heap.size,0,none⟩) 1 1)).alloc (.cells #[.int .i64 f.tag] 3)).heap.size by have:=U6.out.zlt;omega);have xr6:=hid (show W3.heap.size≠rb by omega);obtain⟨FK,hFK⟩:∃ FK:ByteArray,(⟨f.kind.text.toArray⟩:ByteArray)=FK:=⟨_,rfl⟩;have HC:=hid fun(wz:World) (kz:Nat) (hr:Rd wz rb kz) (hc:kz+C<=900000) (hs:ScSp wz lo bsc v x)=>(by
    have h:=HIH.out f HFM.out (.inl hd) wz kz hr hc hs hlo;rw[tx,hFK] at h;exact h)
   have k2c:=U6.out.k2;rw[tx,hFK] at k2c;clear hFK;go_wp2_with (go_at_call 65;refine(HC.out _ (k0+1) U6.out.rd (by omega) (HSP.out.beside U6.out.bs hlo)).mono ?_;rintro e w7 ⟨u,p,rfl,ht,hpl,hlv,hr7,hb7⟩;have U7:=hid (U6.out.beside R0 hb7 hr7 xl6.out xr6.out);have v37:=U7.out.v3;have f37:=U7.out.f3;have vl7:=U7.out.vlt;have HT:=hid ht;have HPL:=hid hpl;have HLV:=hid hlv;have HS7:=hid hb7.size;clear ht hpl hlv hr7 hb7)
   obtain⟨h5,h6,h7⟩:=tC R0 HKH.out U7.out.bs U7.out.rd U7.out.vle U6.out.vlt U7.out.zle U6.out.zlt HS7.out U7.out.zv U7.out.v0 U7.out.v1 U7.out.v2 U7.out.v3 U7.out.z0 U7.out.fz HLV.out;have hfo:=HTO.out.fds f HFM.out;have h8:(Wf.dec f.tag).length<=3:=Wf.dZ f.tag 2 (by have:=hfo.tag2;omega);go_ret
   exact⟨.mk 85 [] f.tag [u],_,rfl,⟨t,HF.out,.inr (.inl ⟨by rw[H85.out];decide,H85.out,f,u,kB HTO.out HFM.out,hfo.tag2,HT.out,rfl⟩)⟩,by have:=HPL.out;rw[Wf.dH];simp;omega,h5,h6.mono (by omega),h7⟩
 ·have hdd:decide ((0:Int)<d)=false:=decide_eq_false hd
  have HBA:=hid (sD (f:=f0) (A:=A0) (B:=B0) TB.out B3.out R3.out R0);go_upto_region 11 with fail
  obtain⟨Wb,hWA⟩:∃ WA,W3.alloc (.cells #[.int .i64 f0.tag,.string A0,.string K0,.string B0] 163)=WA:=⟨_,rfl⟩;have HBX:=hid (show fW w Wb rb w2.heap.size (w2.heap.size+1+1) W3.heap.size f0 KT ⟨#[85]⟩ 85 (.slice (some ⟨fb,o,none⟩) n fc) k0 by
   have h:=HBA.out;rw[HK0.out,hWA] at h;exact h)
  rw[hWA];clear hWA HBA g0 g1 g2 g3;obtain⟨f,hfe⟩:∃ f,f=f0:=⟨_,rfl⟩;subst hfe;have HFM:=HF0;have c0b:=HBX.out.c0;have U6:=hid (oM HBX.out R0);have v2b:=HBX.out.ty.v2;have f2b:=HBX.out.ty.f2;have vlb:=HBX.out.ty.vlt;have xlb:=HBX.out.lt;have xl6:=hid (show W3.heap.size<((Wb.setCell ⟨w2.heap.size+1+1,2,none⟩ (.slice (some ⟨Wb.heap.size,0,none⟩) 1 1)).alloc (.cells #[.int .i64 f.tag] 3)).heap.size by have:=U6.out.zlt;omega);have xr6:=hid (show W3.heap.size≠rb by omega);obtain⟨FK,hFK⟩:∃ FK:ByteArray,(⟨f.kind.text.toArray⟩:ByteArray)=FK:=⟨_,rfl⟩;have HC:=hid fun(wz:World) (kz:Nat) (hr:Rd wz rb kz) (hc:kz+C<=900000) (hs:ScSp wz lo bsc v x)=>(by
   have h:=HIH.out f HFM.out (.inr HF0H.out) wz kz hr hc hs hlo;rw[tx,hFK] at h;exact h)
  have k2c:=U6.out.k2;rw[tx,hFK] at k2c;clear hFK;go_wp2_with (go_at_call 65;refine(HC.out _ k0 U6.out.rd (by omega) (HSP.out.beside U6.out.bs hlo)).mono ?_;rintro e w7 ⟨u,p,rfl,ht,hpl,hlv,hr7,hb7⟩;have U7:=hid (U6.out.beside R0 hb7 hr7 xl6.out xr6.out);have v37:=U7.out.v3;have f37:=U7.out.f3;have vl7:=U7.out.vlt;have HT:=hid ht;have HPL:=hid hpl;have HLV:=hid hlv;have HS7:=hid hb7.size;clear ht hpl hlv hr7 hb7)
  obtain⟨h5,h6,h7⟩:=tC R0 HKH.out U7.out.bs U7.out.rd U7.out.vle U6.out.vlt U7.out.zle U6.out.zlt HS7.out U7.out.zv U7.out.v0 U7.out.v1 U7.out.v2 U7.out.v3 U7.out.z0 U7.out.fz HLV.out;have hfo:=HTO.out.fds f HFM.out;have h8:(Wf.dec f.tag).length<=3:=Wf.dZ f.tag 2 (by have:=hfo.tag2;omega);go_ret
  exact⟨.mk 85 [] f.tag [u],_,rfl,⟨t,HF.out,.inr (.inl ⟨by rw[H85.out];decide,H85.out,f,u,kB HTO.out HFM.out,hfo.tag2,HT.out,rfl⟩)⟩,by have:=HPL.out;rw[Wf.dH];simp;omega,h5,h6.mono (by omega),h7⟩
end

theorem DtV.mono {x:Wf.Sc} {v:Value} {rb lo bsc:Nat} {d:Int} {nm:List UInt8} {C B N C' B' N':Nat} (h:DtV x v rb lo bsc d nm C B N) (hC:C<=C') (hB:B<=B') (hN:N<=N'):DtV x v rb lo bsc d nm C' B' N':=fun w k0 hr hk hs hl =>
 (h w k0 hr (by omega) hs hl).mono fun e w' ⟨u,p,h1,h2,h3,h4,h5,h6⟩=>⟨u,p,h1,Wf.iD _ _ _ h2 _ hN,by omega,h4,h5.mono (by omega),h6⟩
section
variable (x:Wf.Sc) (v:Value) (rb lo bsc:Nat) (d:Int)
theorem rK (hx:Wf.ScOk x) (nm:List UInt8) (hnm:(Wf.K.ref nm).text.length<=1000000) (t:Wf.Ty) (hf:x.find nm=some t) (h82:t.sort=82) (h0:t.fields=[]):DtV x v rb lo bsc d nm 0 2 1:=fun w k0 H hk0 hsp hlo=>by
 have R0:=H.lt;have hr:=fV x lo bsc v (.ref nm) hnm w w (zaB) (by have:=hx.len;omega) hsp;obtain⟨KT,hKT⟩:∃ KT:ByteArray,(⟨(Wf.K.ref nm).text.toArray⟩:ByteArray)=KT:=⟨_,rfl⟩;obtain⟨N0,hN⟩:∃ N:ByteArray,(⟨t.name.toArray⟩:ByteArray)=N:=⟨_,rfl⟩;have HKH:=hid (show KT.data.toList.head? = some 64 by rw[<-hKT];rfl);rw[tx,hKT] at hr;have HREF:=hid (hr.mono (R':=fun e w'=>(∃ (fa:Option Addr) (fc:Nat),e=.returned (.tuple #[.agg #[.int .u8 82,.string N0,.slice fa 0 fc],.bool true]))/\Below w.heap.size w w') fun e w' ⟨h1,h2⟩=>⟨by
  rw[show refT x (.ref nm)=some t from hf] at h1;obtain⟨fb,a,c,h3,_,_⟩:=h1;rw[h82,h0,tx,hN] at h3;exact⟨a,c,h3⟩,h2⟩)
 have kc1:=fun W (a:Addr) (c:Nat) (h:W.cell? a=some (.int .u8 82))=>(show(convert 22 9 (.slice (some a) 1 c)).run Tryz.prog W=.ok (.string ⟨#[82]⟩) W from run_convert_one (P:=Tryz.prog) 22 9 5 Tryz.underlying22 Tryz.underlying5 Tryz.underlying9 W a c 82 h);have HF:=hid hf;have H82:=hid h82;rw[tx,hKT];clear hKT hN hsp hf h82 hx hr h0;go_enter Tryz.func104,Tryz.ntmps104;go_upto_region 14 with(go_at_call 122;refine HREF.out.mono ?_;rintro e w2 ⟨⟨fa,fc,rfl⟩,hb2⟩;have HB2:=hid hb2;have hl2:=hb2.size;clear hb2)
 obtain⟨W3,hW3⟩:∃ W3,((w2.alloc (.cells #[.int .u8 82,.string N0,.slice fa 0 fc] 143)).alloc (.cells #[.int .u8 82] 5)).alloc (.cells #[.string KT,.string ⟨#[82]⟩,.slice none 0 0,.slice none 0 0] 103)=W3:=⟨_,rfl⟩;rw[hW3];have RW0:=hid (RW.start HB2.out R0 H KT N0 (.slice fa 0 fc) W3 hW3);clear hW3;obtain⟨tb,htb⟩:∃ tb,w2.heap.size=tb:=⟨_,rfl⟩;rw[htb] at RW0 ⊢;clear htb;go_wp2_with fail
 go_loopw [13] (fun s13 wr=>s13=.int .i64 0/\wr=W3) (fun _ _=>0)
 case atStart=>exact⟨rfl,rfl⟩
 case round =>
  obtain⟨rfl,rfl⟩:=hrel;have t2:=RW0.out.t2;have tbl:tb<wr.heap.size:=by have:=RW0.out.tl;have:=RW0.out.rr.sz;omega
  go_wp2_with fail
  go_ret
  exact⟨Wf.recV [],tb+1+1,rfl,Wf.nY ⟨by simp[Wf.Asc],by simp⟩ HF.out H82.out,by rw[Wf.recV,Wf.cN];simp[Wf.commas],RW0.out.done (es:=[]) HKH.out,RW0.out.rd,RW0.out.bes⟩
theorem lI (nm:List UInt8) (C B N:Nat) (IH:DtV x v rb lo bsc d nm C B N):DrV x v rb lo bsc d (.ref nm) C B N:=fun w k0 H hk0 hsp hlo=>by
 have R0:=H.lt;obtain⟨KT,hKT⟩:∃ KT:ByteArray,(⟨(Wf.K.ref nm).text.toArray⟩:ByteArray)=KT:=⟨_,rfl⟩;obtain⟨hk1,ek⟩:=bC (kd:=(Wf.K.ref nm).text) (c:=64) rfl;rw[hKT] at hk1 ek;have ek2:∀ h,(KT[0]'h).toNat=64:=ek;have hI:=IH (w.alloc (vNew KT)) k0 (H.alloc _) hk0 (hsp.beside ((aA.refl rb w).alloc _) hlo) hlo;rw[tx,hKT] at hI;have HI:=hid hI;rw[tx,hKT];clear hKT ek IH hI hsp;go_enter Tryz.func65,Tryz.ntmps65;go_wp2_with (go_at_call 104;refine HI.out.mono ?_;rintro e w3 ⟨u,p,rfl,ht,hpl,hlv,hr3,hb3⟩;have HT:=hid ht;have HPL:=hid hpl;have HLV:=hid hlv;have R3:=hid hr3;have B3:=hid hb3;clear ht hpl hlv hr3 hb3)
 go_ret
 exact⟨u,p,rfl,HT.out,HPL.out,HLV.out.mono (fun z hz _=>zaI (by simp) hz),R3.out,((aA.refl rb w).alloc _).trans B3.out⟩
end
section
variable (x:Wf.Sc) (v:Value) (rb lo bsc:Nat)
theorem kref {nm:List UInt8} (h:KOk x (.ref nm)):∃ t,x.find nm=some t:=Wf.mS h.ref
theorem uK (hx:Wf.ScOk x):∀ (n:Nat) (t:Wf.Ty) (nm:List UInt8),KOk x (.ref nm)->x.find nm=some t->Wf.endsIn x n t=true->∀ d:Int,d<=0 -> -500+(n:Int)<=d->DtV x v rb lo bsc d nm (8+n) (42+6*n) (n+1):=by
 intro n;induction n with
 | zero=>intro t nm _ _ h;simp[Wf.endsIn] at h
 | succ n ih =>
  intro t nm hk ht he d hd1 hd2;have htx:=(Wf.bK ht).1;have hto:=hx.tys t htx;have hlen:(Wf.K.ref nm).text.length<=1000000:=by have:=hk.len;omega
  rcases hto.sort with hs|hs|hs
  ·cases hfs:t.fields with
   | nil=>exact(rK x v rb lo bsc d hx nm hlen t ht hs hfs).mono (by omega) (by omega) (by omega)
   | cons f fs=>exact(oO x v rb lo bsc d hx nm hlen t ht hs (by rw[hfs];simp) (by omega) (by omega) 0 0 0 (by omega) (fun h=>by omega)).mono (by omega) (by omega) (by omega)
  ·have h69:t.sort≠69:=by rw[hs];decide
   refine(tI x v rb lo bsc d hx nm hlen t ht hs (by omega) (by omega) (8+n) (42+6*n) (n+1) fun f hf hsel=>?_).mono (by omega) (by omega) (by omega);rcases hsel with hsel|hsel
   ·omega
   have hkf:=KOk.fld hx htx h69 hf;cases hfk:f.kind with
   | num=>exact(lA x v rb lo bsc (d-1)).mono (by omega) (by omega) (by omega)
   | txt=>exact(nC x v rb lo bsc (d-1)).mono (by omega) (by omega) (by omega)
   | flag=>exact(kJ x v rb lo bsc (d-1)).mono (by omega) (by omega) (by omega)
   | list k=>exact(tP x v rb lo bsc (d-1) k (by omega)).mono (by omega) (by omega) (by omega)
   | opt k=>exact(sR x v rb lo bsc (d-1) k (decide_eq_false (by omega))).mono (by omega) (by omega) (by omega)
   | ref nm2 =>
    rw[hfk] at hkf;obtain⟨u,hu⟩:=kref x hkf;rw[Wf.endsIn_succ] at he;have hn:Wf.nxt x t=some u:=by
     cases hfs:t.fields with
     | nil=>rw[hfs] at hf;cases hf
     | cons f' fs =>
      rw[hfs] at hsel;simp only[List.head?_cons,zaE] at hsel;subst hsel;simp[Wf.nxt,hs,hfs,hfk,hu]
    rw[hn] at he;exact lI x v rb lo bsc (d-1) nm2 _ _ _ (ih u nm2 hkf hu he (d-1) (by omega) (by omega))
  ·exact(rU x v rb lo bsc d hx nm hlen t ht hs).mono (by omega) (by omega) (by omega)
def cD:Nat->Nat
 | 0=>17
 | n+1=>8*(cD n+1)
def bD:Nat->Nat
 | 0=>96
 | n+1=>2+8*(bD n+5)
theorem wK:∀ m,17<=cD m:=by
 intro m;induction m with
 | zero=>exact zaA
 | succ m ih=>simp only[cD];omega
theorem a2X:∀ m,96<=bD m:=by
 intro m;induction m with
 | zero=>exact zaA
 | succ m ih=>simp only[bD];omega
theorem a5B (hx:Wf.ScOk x):∀ (m:Nat),m<=4->∀ k,KOk x k->DrV x v rb lo bsc (m:Int) k (cD m) (bD m) (10+m):=by
 intro m;induction m with
 | zero =>
  intro _ k hk;cases k with
  | num=>exact(lA x v rb lo bsc _).mono (by decide) (by decide) (by omega)
  | txt=>exact(nC x v rb lo bsc _).mono (by decide) (by decide) (by omega)
  | flag=>exact(kJ x v rb lo bsc _).mono (by decide) (by decide) (by omega)
  | list k=>exact(tP x v rb lo bsc _ k (by omega)).mono (by decide) (by decide) (by omega)
  | opt k=>exact(sR x v rb lo bsc _ k (decide_eq_false (by omega))).mono (by decide) (by decide) (by omega)
  | ref nm =>
   obtain⟨t,ht⟩:=kref x hk;exact(lI x v rb lo bsc _ nm _ _ _ (uK x v rb lo bsc hx 9 t nm hk ht (hx.ends t (Wf.bK ht).1) _ (by omega) (by omega))).mono (by decide) (by decide) (by omega)
 | succ m ih =>
  intro hm k hk;have hc:=wK m;have hb:=a2X m;have hc3:cD m<=10000:=by
   have:∀ q,q<=3->cD q<=10000:=(by intro q hq;match q,hq with|0,_=>decide|1,_=>decide|2,_=>decide|3,_=>decide);exact this m (by omega)
  have hb3:bD m<=100000:=by
   have:∀ q,q<=3->bD q<=100000:=(by intro q hq;match q,hq with|0,_=>decide|1,_=>decide|2,_=>decide|3,_=>decide);exact this m (by omega)
  have e:((m+1:Nat):Int)-1=(m:Int):=by omega
  have ih2:∀ k,KOk x k->DrV x v rb lo bsc (((m+1:Nat):Int)-1) k (cD m) (bD m) (10+m):=by rw[e];exact ih (by omega)
  have e1:cD (m+1)=8*(cD m+1):=rfl;have e2:bD (m+1)=2+8*(bD m+5):=rfl;cases k with
  | num=>exact(lA x v rb lo bsc _).mono (by omega) (by omega) (by omega)
  | txt=>exact(nC x v rb lo bsc _).mono (by omega) (by omega) (by omega)
  | flag=>exact(kJ x v rb lo bsc _).mono (by omega) (by omega) (by omega)
  | list k=>exact(wE x v rb lo bsc _ k (by omega) (by omega) _ _ _ (by omega) (ih2 k hk.list)).mono (by omega) (by omega) (by omega)
  | opt k=>exact(a2A x v rb lo bsc _ k (by omega) (by omega) (by have:=hk.len;omega) _ _ _ (ih2 k hk.opt)).mono (by omega) (by omega) (by omega)
  | ref nm =>
   obtain⟨t,ht⟩:=kref x hk;have htx:=(Wf.bK ht).1;have hto:=hx.tys t htx;have hlen:(Wf.K.ref nm).text.length<=1000000:=(by have:=hk.len;omega);refine lI x v rb lo bsc _ nm _ _ _ ?_;rcases hto.sort with hs|hs|hs
   ·have h69:t.sort≠69:=by rw[hs];decide
    cases hfs:t.fields with
    | nil=>exact(rK x v rb lo bsc _ hx nm hlen t ht hs hfs).mono (by omega) (by omega) (by omega)
    | cons f fs=>exact(oO x v rb lo bsc _ hx nm hlen t ht hs (by rw[hfs];simp) (by omega) (by omega) _ _ _ (by omega) (fun _ g hg=>ih2 g.kind (KOk.fld hx htx h69 hg))).mono (by omega) (by omega) (by omega)
   ·have h69:t.sort≠69:=by rw[hs];decide
    exact(tI x v rb lo bsc _ hx nm hlen t ht hs (by omega) (by omega) _ _ _ (fun g hg _=>ih2 g.kind (KOk.fld hx htx h69 hg))).mono (by omega) (by omega) (by omega)
   ·exact(rU x v rb lo bsc _ hx nm hlen t ht hs).mono (by omega) (by omega) (by omega)
end

theorem cD3 {m:Nat} (h:m<=3):cD m<=9288/\bD m<=52218:=by
 match m,h with
 | 0,_=>decide
 | 1,_=>decide
 | 2,_=>decide
 | 3,_=>decide
theorem cD4:cD 4=74312/\bD 4=417786:=by decide
theorem a2U {x:Wf.Sc} {n:Nat} {k:Wf.K} {u:Wf.V} (h:Wf.Typed x n k u):1<=u.print.length:=by
 obtain⟨c,t,e,_⟩:=Wf.iY h;rw[e];simp
theorem a0C (rb k:Nat) (w6:World) (R6:Rd w6 rb k) (hk:k<=900000):Calls Tryz.prog 62 #[.pointer (some ⟨rb,0,none⟩),.int .i64 5] (w6.alloc (.cells #[.string ⟨#[]⟩,.string ⟨#[48]⟩,.string ⟨#[44]⟩,.string ⟨#[125]⟩,.string ⟨#[45]⟩] 9)).drew fun e w7=>∃ (z:Int) (X:ByteArray),e=.returned (.int .i64 z)/\0<=z/\z<5/\X.size<=1/\w7.cell? ⟨w6.heap.size,z.toNat,none⟩=some (.string X)/\w6.heap.size<w7.heap.size/\Rd w7 rb (k+1)/\aA rb w6 w7:=by
 have R:=R6.alloc (.cells #[.string ⟨#[]⟩,.string ⟨#[48]⟩,.string ⟨#[44]⟩,.string ⟨#[125]⟩,.string ⟨#[45]⟩] 9);refine(pick rb k 5 (w6.alloc (.cells #[.string ⟨#[]⟩,.string ⟨#[48]⟩,.string ⟨#[44]⟩,.string ⟨#[125]⟩,.string ⟨#[45]⟩] 9)).drew (R.below (zbE (zaB)) R.lt) (by omega) (by omega)).mono ?_;rintro e w7 ⟨z,rfl,hz,_,hR7,hBs7⟩;obtain⟨hz0,hz1⟩:=hz (by omega);have hB:aA rb (w6.alloc (.cells #[.string ⟨#[]⟩,.string ⟨#[48]⟩,.string ⟨#[44]⟩,.string ⟨#[125]⟩,.string ⟨#[45]⟩] 9)) w7:=(aA.drew (aA.refl rb _)).trans hBs7;obtain⟨X,hx0,hx1,hxc⟩:=cM 1 [[],[48],[44],[125],[45]] (w1:=w6) (et:=9) hB R6.lt z hz0 hz1 (by decide);exact⟨z,X,rfl,hz0,hz1,hx0,hxc,zaC (show w6.heap.size<(w6.alloc (.cells #[.string ⟨#[]⟩,.string ⟨#[48]⟩,.string ⟨#[44]⟩,.string ⟨#[125]⟩,.string ⟨#[45]⟩] 9)).heap.size by simp) hB.size,hR7,((aA.refl rb w6).alloc _).trans hB⟩
theorem a4V (rb k:Nat) (w6:World) (R6:Rd w6 rb k) (hk:k<=900000):Calls Tryz.prog 62 #[.pointer (some ⟨rb,0,none⟩),.int .i64 5] w6.drew fun e w7=>∃ (z:Int) (X:ByteArray),e=.returned (.int .i64 z)/\0<=z/\z<5/\X.size<=1/\(w7.alloc (.cells #[.string ⟨#[]⟩,.string ⟨#[48]⟩,.string ⟨#[44]⟩,.string ⟨#[125]⟩,.string ⟨#[45]⟩] 9)).cell? ⟨w7.heap.size,z.toNat,none⟩=some (.string X)/\Rd w7 rb (k+1)/\aA rb w6 w7:=by
 refine(pick rb k 5 w6.drew (R6.below (zbE (zaB)) R6.lt) (by omega) (by omega)).mono ?_;rintro e w7 ⟨z,rfl,hz,_,hR7,hBs7⟩;obtain⟨hz0,hz1⟩:=hz (by omega);obtain⟨X,hx0,hx1,hxc⟩:=cM 1 [[],[48],[44],[125],[45]] (w1:=w7) (et:=9) (aA.refl rb (w7.alloc (.cells #[.string ⟨#[]⟩,.string ⟨#[48]⟩,.string ⟨#[44]⟩,.string ⟨#[125]⟩,.string ⟨#[45]⟩] 9))) hR7.lt z hz0 hz1 (by decide);exact⟨z,X,rfl,hz0,hz1,hx0,hxc,hR7,(aA.drew (aA.refl rb w6)).trans hBs7⟩
theorem yU (rb k:Nat) (s kt:ByteArray) (hs:s.size<=1048576) (w:World) (H:Rd w rb k) (hk:k<=700000):Calls Tryz.prog 39 #[.pointer (some ⟨rb,0,none⟩),.string s,.string kt] w fun e w'=>∃ T:ByteArray,e=.returned (.string T)/\T.size<=500000/\Rd w' rb (k+110000)/\aA rb w w':=by
 have R0:=H.lt;have HK:=hid (lJ s kt w hs);cases hko:aU s.data.toList kt.data.toList with
 | none =>
  have HO:=hid fun(e:Ending) (w':World) (h:cE s.data.toList kt.data.toList w.heap.size e w')=>(by unfold cE at h;rw[hko] at h;exact h:∃ a n c,e=.returned (.tuple #[.slice a n c,.bool false]));clear hko;go_enter Tryz.func39,Tryz.ntmps39;go_wp2_with (go_at_call 50;refine HK.out.mono ?_;rintro e w2 ⟨ho,hb2⟩;obtain⟨a,n,c,rfl⟩:=HO.out _ _ ho;have HB2:=hid hb2;clear ho hb2)
  go_ret
  exact⟨_,rfl,by decide,(H.below HB2.out R0).mono (by omega),aA.aF HB2.out (zaA)⟩
 | some y =>
  obtain⟨x,kd⟩:=y;obtain⟨hx,hkd⟩:=fT hko;obtain⟨_,_,_,hkt,_⟩:=kA hko;have hkk:tx kd.text=.string kt:=by rw[tx,show kd.text=kt.data.toList from hkt]
  obtain⟨xn,hxn⟩:∃ xn,x.length=xn:=⟨_,rfl⟩;have HO:=hid fun(e:Ending) (w':World) (h:cE s.data.toList kt.data.toList w.heap.size e w')=>(by unfold cE at h;rw[hko] at h;dsimp only at h;rw[hxn] at h;exact h:∃ b a c,e=.returned (.tuple #[.slice a xn c,.bool true])/\ScSp w' w.heap.size b (.slice a xn c) x);have HDR:=hid fun(m:Nat) (hm:m<=4) (b:Nat) (vv:Value) (wz:World) (kz:Nat) (hr:Rd wz rb kz) (hc:kz+cD m<=900000) (hs:ScSp wz w.heap.size b vv x)=>(by
   have h:=a5B x vv rb w.heap.size b hx m hm kd hkd wz kz hr hc hs R0;rw[hkk] at h;exact h)
  have HOUT:=hid fun(m:Nat) (u:Wf.V) (ht:Wf.Typed x m kd u) (hl:u.print.length<=500000) (P:Nat->Prop) (p:Nat) (wz:World) (hv:LV wz P u p)=>out m kd u ht P p wz wz hv (zaB) (by omega);have HP:=hid fun(m:Nat) (u:Wf.V) (ht:Wf.Typed x m kd u)=>a2U ht;have C4:=hid cD4;have C3:=hid fun(m:Nat) (h:m<=3)=>cD3 h;clear hko hx hkd hkt hkk hxn;go_enter Tryz.func39,Tryz.ntmps39;go_wp2_with (first|(go_at_call 66;have _u:=HLV;refine(HOUT.out 14 u HT.out (by omega) _ p _ HLV.out).mono ?_;rintro e w4 ⟨rfl,hb4⟩;have HB4:=hid hb4;clear hb4)|(go_at_call 65;have _u:=HSP;refine(HDR.out 4 (zaA) _ _ w2 k (H.below HB2.out R0) (by rw[C4.out.1];omega) HSP.out).mono ?_;rintro e w3 ⟨u,p,rfl,ht,hpl,hlv,hr3,hb3⟩;have hul:u.print.length<=417786:=(by rw[<-C4.out.2];exact hpl);have HT:=hid ht;have HLV:=hid hlv;have R3:=hid hr3;have HB3:=hid hb3;clear ht hpl hlv hr3 hb3)|(go_at_call 50;refine HK.out.mono ?_;rintro e w2 ⟨ho,hb2⟩;obtain⟨b,a,c,rfl,hsp⟩:=HO.out _ _ ho;have HSP:=hid hsp;have HB2:=hid hb2;clear ho hb2 hsp))
  have hup:=HP.out 14 u HT.out;obtain⟨T0,hT0⟩:∃ T:ByteArray,(⟨u.print.toArray⟩:ByteArray)=T:=⟨_,rfl⟩;have ht0:T0.size=u.print.length:=by rw[<-hT0];rfl
  have RT0:=hid ((R3.out.below HB4.out R3.out.lt).mono (show k+cD 4<=k+74312+(3-3)*9288 by rw[C4.out.1];omega));have BT0:=hid (HB3.out.trans (aA.aF (rb:=rb) HB4.out (zaA)));have BW2:=hid (aA.aF (rb:=rb) HB2.out (zaA));simp only[tx,hT0];clear hT0;go_loopw [9,10] (fun s9 s10 wr=>∃ (i:Nat) (T:ByteArray),s9=.string T/\s10=.int .i64 i/\i<=3/\1<=T.size/\T.size<=417786/\Hid (Rd wr rb (k+74312+(3-i)*9288)/\aA rb w2 wr)) (fun _ s10 _=>(RowKit.intOf s10).toNat)
  case atStart=>exact⟨3,T0,rfl,rfl,zaA,by omega,by omega,hid ⟨RT0.out,BT0.out⟩⟩
  case round =>
   obtain⟨i,T,rfl,rfl,hi,hT1,hT2,hh⟩:=hrel;by_cases hgo:150<T.size/\0<i
   ·obtain⟨hg1,hg2⟩:=hgo
    have d1:decide ((150:Int)<(T.size:Int))=true:=decide_eq_true (by omega);have d2:decide ((0:Int)<(i:Int))=true:=decide_eq_true (by omega);obtain⟨c1,c2⟩:=C3.out i hi;go_wp2_with (first|(go_at_call 66;have _u:=HLV7;refine(HOUT.out _ u7 HT7.out (by omega) _ p7 _ HLV7.out).mono ?_;rintro e w8 ⟨rfl,hb8⟩;have HB8:=hid hb8;clear hb8)|(go_at_call 65;refine(HDR.out i (by omega) _ _ wr (k+74312+(3-i)*9288) hh.out.1 (by omega) (HSP.out.beside hh.out.2 R0)).mono ?_;rintro e w7 ⟨u7,p7,rfl,ht,hpl,hlv,hr7,hb7⟩;have hul7:u7.print.length<=52218:=(by omega);have hup7:=HP.out _ u7 ht;have HT7:=hid ht;have HLV7:=hid hlv;have R7:=hid hr7;have HB7:=hid hb7;clear ht hpl hlv hr7 hb7))
    obtain⟨T7,hT7⟩:∃ T:ByteArray,(⟨u7.print.toArray⟩:ByteArray)=T:=⟨_,rfl⟩;have ht7:T7.size=u7.print.length:=(by rw[<-hT7];rfl);simp only[tx,hT7];clear hT7;go_roundw
    case rel=>exact⟨i-1,T7,rfl,by congr 1;omega,by omega,by omega,by omega,hid ⟨(R7.out.below HB8.out R7.out.lt).mono (by omega),hh.out.2.trans (HB7.out.trans (aA.aF HB8.out (zaA)))⟩⟩
    case measure=>simp[RowKit.intOf];omega
   ·have RX:=hid (hh.out.1.mono (show k+74312+(3-i)*9288<=k+102176 by omega))
    have hcase:(¬ 150<T.size)\/(150<T.size/\i=0):=(by omega);clear hgo;rcases hcase with hg1|⟨hg1,rfl⟩;all_goals
     first
     | have d1:decide ((150:Int)<(T.size:Int))=false:=decide_eq_false (by omega)
     | have d1:decide ((150:Int)<(T.size:Int))=true:=decide_eq_true (by omega)
     go_wp2_with (first|(go_at_call 62;have _u:=R5;refine(pick rb (k+102177) (T.size:Int) _ R5.out (by omega) (by omega)).mono ?_;rintro e w6 ⟨z,rfl,hz,_,hR6,hBs6⟩;obtain⟨hz0,hz1⟩:=hz (by omega);obtain⟨kk,rfl⟩:=Int.eq_ofNat_of_zero_le hz0;have hkk:kk<T.size:=(by omega);have R6:=hid hR6;have B6:=hid (B5.out.trans hBs6);have RL6:=hR6.lt;obtain⟨P1,hP1⟩:∃ P,T.extract 0 kk=P:=⟨_,rfl⟩;obtain⟨P2,hP2⟩:∃ P,T.extract (kk+1) T.size=P:=⟨_,rfl⟩;have s1:∀ wz,(Instr.slice 9 (.string T) none (some (.int .i64 kk)) none).run Tryz.prog wz=.ok (.string P1) wz:=fun wz=>(by rw[<-hP1];exact gR T kk (by omega) wz);have s2:∀ wz,(Instr.slice 9 (.string T) (some (.int .i64 ((kk:Int)+1))) none none).run Tryz.prog wz=.ok (.string P2) wz:=fun wz=>(by rw[<-hP2];exact bM T (kk+1) (by omega) wz);have kw:IntKind.i64.wrap ((kk:Int)+1)=(kk:Int)+1:=zbI _ (by omega);have hp1:P1.size<=417786:=(by rw[<-hP1];simp;omega);have hp2:P2.size<=417786:=(by rw[<-hP2];simp;omega);have hp12:P1.size+P2.size<=T.size:=(by rw[<-hP1,<-hP2];simp;omega);clear hP1 hP2 hz hR6 hBs6)|(go_at_call 62;refine(pick rb (k+102176) 24 _ RX.out (by omega) (by omega)).mono ?_;rintro e w5 ⟨v5,rfl,hv5,_,hR5,hBs5⟩;obtain⟨hv0,hv1⟩:=hv5 (by omega);have R5:=hid hR5;have B5:=hid (hh.out.2.trans hBs5);clear hR5 hBs5 hv5;rcases(Bool.eq_false_or_eq_true (v5==(0:Int))) with hq|hq))
     ·go_region_law (first|((try go_simp);go_at_call 62;refine(a0C rb (k+102178) w6 R6.out (by omega)).mono ?_;rintro e w7 ⟨z,X,rfl,hz0,hz1,hx0,hxc,hl7,hR7,hB7⟩;have R7:=hid hR7;have B7:=hid (B6.out.trans hB7);have ha1:¬ 9223372036854775807<P1.size+X.size:=(by omega);have ha2:¬ 9223372036854775807<P1.size+X.size+P2.size:=(by omega);have ha3:¬ 9223372036854775807<(P1++X).size+P2.size:=(by rw[zaO];omega);clear hR7 hB7)|((try go_simp);go_at_call 62;refine(a4V rb (k+102178) w6 R6.out (by omega)).mono ?_;rintro e w7 ⟨z,X,rfl,hz0,hz1,hx0,hxc,hR7,hB7⟩;have R7:=hid hR7;have B7:=hid (B6.out.trans hB7);have ha1:¬ 9223372036854775807<P1.size+X.size:=(by omega);have ha2:¬ 9223372036854775807<P1.size+X.size+P2.size:=(by omega);have ha3:¬ 9223372036854775807<(P1++X).size+P2.size:=(by rw[zaO];omega);clear hR7 hB7))
      all_goals (go_wp2_with fail)
      all_goals go_ret
      all_goals first|exact⟨_,rfl,by simp only[zaO];omega,R7.out.mono (by omega),BW2.out.trans B7.out⟩|exact⟨_,rfl,by simp only[zaO];omega,(R7.out.alloc _).mono (by omega),BW2.out.trans (B7.out.alloc _)⟩
     ·go_ret
      exact⟨T,rfl,by omega,R5.out.mono (by omega),BW2.out.trans B5.out⟩
theorem yJ (rb k:Nat) (w:World) (H:Rd w rb k) (hk:k<=600000):Calls Tryz.prog 26 #[.pointer (some ⟨rb,0,none⟩)] w fun e w'=>∃ s K T:ByteArray,e=.returned (.tuple #[.string s,.string K,.string T])/\s.size<=1900/\K.size<=100/\T.size<=500000/\Rd w' rb (k+110180)/\aA rb w w':=by
 go_enter Tryz.func26,Tryz.ntmps26;go_wp2_with (first|(go_at_call 39;have _u:=R3;refine(yU rb (k+180) s K (by omega) _ R3.out (by omega)).mono ?_;rintro e w4 ⟨T,rfl,hT,hR4,hB4⟩;have R4:=Lib.hid hR4;have B4:=Lib.hid (B3.out.trans hB4);clear hR4 hB4)|(go_at_call 38;have _u:=R2;refine(a4L rb (k+170) s (by omega) _ R2.out (by omega)).mono ?_;rintro e w3 ⟨K,rfl,hK,hR3,hB3⟩;have R3:=Lib.hid hR3;have B3:=Lib.hid (B2.out.trans hB3);clear hR3 hB3)|(go_at_call 37;refine(uM rb k _ H (by omega)).mono ?_;rintro e w2 ⟨s,rfl,hs,hR2,hB2⟩;have R2:=Lib.hid hR2;have B2:=Lib.hid hB2;clear hR2 hB2))
 exact zbD (v:=.tuple #[.string s,.string K,.string T]) (by simp[results,Tryz.results26,go_sem, *]) rfl ⟨_,_,_,rfl,hs,hK,hT,R4.out,B4.out⟩

theorem drawBytesPut (w:World) (a:Option Addr) (len cap:Nat) (h:Bytes w w.heap.size a len cap):Calls Tryz.prog 10 #[.slice a len cap] w fun e w'=>∃ s K T:ByteArray,e=.returned (.tuple #[.string s,.string K,.string T])/\s.size<=1900/\K.size<=100/\T.size<=500000/\Below w.heap.size w w':=by
 have HO:=Lib.hid (vR w a len cap h);clear h;go_enter Tryz.func10,Tryz.ntmps10;go_wp2_with (first|(go_at_call 26;refine(yJ rb 0 _ hR.out (by omega)).mono ?_;rintro e w2 ⟨s,K,T,rfl,hs,hK,hT,hR2,hBs⟩;have hB2:=Lib.hid (aA.below hB.out hB.out.size hrb hBs);clear hBs hR2)|(go_at_call 25;refine HO.out.mono ?_;rintro e w1 ⟨rb,rfl,hrb,hR1,hB1⟩;have hR:=hid hR1;have hB:=hid hB1;clear hR1 hB1))
 exact zbD (v:=.tuple #[.string s,.string K,.string T]) (by simp[results,Tryz.results10,go_sem, *]) rfl ⟨_,_,_,rfl,hs,hK,hT,hB2.out⟩
end Go.Proofs.YtidjpalnmnehmaaGreatDoor


namespace Go.Proofs.YtidjpalnmnehmaaGreatDoor
open Go.ChangeShapes Go.WideShapes Go.ChangeAt Go.RowKit Go.Lib

def nmL (l:List UInt8):List UInt8:=match Wf.aK l with
 | some (.ref nm)=>nm
 | _=>[]
theorem kindName_i (s:ByteArray) (w:World) (hs:s.size<=9223372036854775807):Calls Tryz.prog 35 #[.string s] w fun e w'=>(∃ b,e=.returned (.tuple #[tx (nmL s.data.toList),.bool b]))/\Below w.heap.size w w':=by
 cases hk:Wf.aK s.data.toList with
 | none =>
  have HK:=hid fun w=>kK s hk w hs;have HF:=hid (show nmL s.data.toList=[] by unfold nmL;rw[hk]);clear hk;go_enter Tryz.func35,Tryz.ntmps35;go_wp2_with (go_at_call 55;refine(HK.out _).mono ?_;rintro e w1 ⟨⟨a,b,c,rfl⟩,hb⟩)
  go_ret2
  exact⟨⟨false,by rw[HF.out];rfl⟩,(by repeat (first|exact hb|exact zaB|refine zbG ?_ (by first|exact hb.size|(simp;done)|(simp;omega)|omega) _|refine zbF ?_ (by first|(simp;done)|(simp;omega)|omega) _|refine zbE ?_))⟩
 | some k =>
  have hry:=lZ s k hk w hs;have hr:(k.signs=[]/\k.base=[64]/\nmL s.data.toList=k.name)\/((k.signs.isEmpty=false\/(k.signs.isEmpty=true/\(k.base==[64])=false))/\nmL s.data.toList=[]):=by
   unfold nmL;rw[hk];cases k with
   | ref n=>exact .inl ⟨rfl,rfl,rfl⟩
   | num=>exact .inr ⟨.inr ⟨rfl,rfl⟩,rfl⟩
   | txt=>exact .inr ⟨.inr ⟨rfl,rfl⟩,rfl⟩
   | flag=>exact .inr ⟨.inr ⟨rfl,rfl⟩,rfl⟩
   | list k=>exact .inr ⟨.inl rfl,rfl⟩
   | opt k=>exact .inr ⟨.inl rfl,rfl⟩
  obtain⟨SG,hSG⟩:∃ SG:ByteArray,(⟨k.signs.toArray⟩:ByteArray)=SG:=⟨_,rfl⟩;obtain⟨BS,hBS⟩:∃ BS:ByteArray,(⟨k.base.toArray⟩:ByteArray)=BS:=⟨_,rfl⟩;obtain⟨NM,hNM⟩:∃ NM:ByteArray,(⟨k.name.toArray⟩:ByteArray)=NM:=⟨_,rfl⟩;simp only[kV,tx,hSG,hBS,hNM] at hry;have HK:=hid hry;rcases hr with⟨h1,h2,h3⟩|⟨h1|⟨h1,h2⟩,h3⟩
  ·have HF:=hid (show tx (nmL s.data.toList)=.string NM by rw[h3,tx,hNM])
   have g1:SG.toList.isEmpty=true:=(by rw[<-hSG,h1,zaZ];rfl);have g2:(BS.toList==[64])=true:=(by rw[<-hBS,h2,zaZ];rfl);clear hk hry h1 h2 h3 hSG hBS hNM;go_enter Tryz.func35,Tryz.ntmps35;go_wp2_with (go_at_call 55;refine HK.out.mono ?_;rintro e w1 ⟨rfl,hb⟩)
   go_ret2
   exact⟨⟨true,by rw[HF.out];rfl⟩,(by repeat (first|exact hb|exact zaB|refine zbG ?_ (by first|exact hb.size|(simp;done)|(simp;omega)|omega) _|refine zbF ?_ (by first|(simp;done)|(simp;omega)|omega) _|refine zbE ?_))⟩
  ·have HF:=hid h3
   have g1:SG.toList.isEmpty=false:=(by rw[<-hSG,zaZ];exact h1);clear hk hry h1 h3 hSG hBS hNM;go_enter Tryz.func35,Tryz.ntmps35;go_wp2_with (go_at_call 55;refine HK.out.mono ?_;rintro e w1 ⟨rfl,hb⟩)
   go_ret2
   exact⟨⟨false,by rw[HF.out];rfl⟩,(by repeat (first|exact hb|exact zaB|refine zbG ?_ (by first|exact hb.size|(simp;done)|(simp;omega)|omega) _|refine zbF ?_ (by first|(simp;done)|(simp;omega)|omega) _|refine zbE ?_))⟩
  ·have HF:=hid h3
   have g1:SG.toList.isEmpty=true:=(by rw[<-hSG,zaZ];exact h1);have g2:(BS.toList==[64])=false:=(by rw[<-hBS,zaZ];exact h2);clear hk hry h1 h2 h3 hSG hBS hNM;go_enter Tryz.func35,Tryz.ntmps35;go_wp2_with (go_at_call 55;refine HK.out.mono ?_;rintro e w1 ⟨rfl,hb⟩)
   go_ret2
   exact⟨⟨false,by rw[HF.out];rfl⟩,(by repeat (first|exact hb|exact zaB|refine zbG ?_ (by first|exact hb.size|(simp;done)|(simp;omega)|omega) _|refine zbF ?_ (by first|(simp;done)|(simp;omega)|omega) _|refine zbE ?_))⟩
theorem kindName_l (s:ByteArray) (w:World) (hs:s.size<=9223372036854775807):Calls Tryz.prog 16 #[.string s] w fun e w'=>e=.returned (tx (nmL s.data.toList))/\Below w.heap.size w w':=by
 have HK:=hid (kindName_i s w hs);obtain⟨NM,hNM⟩:∃ NM:ByteArray,(⟨(nmL s.data.toList).toArray⟩:ByteArray)=NM:=⟨_,rfl⟩;simp only[tx,hNM] at HK ⊢;clear hNM;go_enter Tryz.func16,Tryz.ntmps16;go_wp2_with (go_at_call 35;refine HK.out.mono ?_;rintro e w1 ⟨⟨b,rfl⟩,hb⟩)
 go_ret
 exact⟨rfl,hb⟩
theorem nm_len {l:List UInt8}:(nmL l).length<=12:=by
 unfold nmL;split
 ·rename_i nm h
  have h1:=gD h;have h2:=eZ (.ref nm);simp only[Wf.K.name] at h2;omega
 ·simp
theorem nm_type {l kt:List UInt8} {y:Wf.Sc × Wf.K} {z:Wf.Sc × Wf.Ty} (hk:aU l kt=some y) (hz:cI l (nmL kt)=some z):z.1=y.1/\y.2=.ref (nmL kt)/\y.1.find (nmL kt)=some z.2:=by
 obtain⟨h1,h2,_,_,_⟩:=kA hk;obtain⟨z1,z2⟩:=z;obtain⟨h3,hx,h5,h6⟩:=zU hz;rw[h1] at h3;have hz1:y.1=z1:=Option.some.inj h3;have hne:nmL kt≠[]:=fun e=>by
  have h7:=(Wf.bK h5).2;have h8:=(hx.tys _ h6).name;rw[h7,e] at h8;exact absurd h8 (by decide)
 subst hz1;refine⟨rfl,?_,h5⟩;unfold nmL at hne ⊢;rw[h2] at hne ⊢;cases hy:y.2 <;> rw[hy] at hne <;> first|rfl|exact absurd rfl hne

theorem unknown_words (s K T:ByteArray):vfV (bytesVal s.data.toList K.data.toList T.data.toList)=.tuple #[.string ⟨#[]⟩,.bool false]\/∃ A:ByteArray,vfV (bytesVal s.data.toList K.data.toList T.data.toList)=.tuple #[.string A,.bool true]/\A.size<=400/\0<A.size /\
  (eA s.data.toList (nmL K.data.toList)=.tuple #[.string ⟨#[]⟩,.bool false]\/(∃ Z:ByteArray,eA s.data.toList (nmL K.data.toList)=.tuple #[.string Z,.bool true]/\(Z.toList==[82])=false) \/
  (eA s.data.toList (nmL K.data.toList)=.tuple #[.string ⟨#[82]⟩,.bool true]/\∀ (g:Nat) (B:ByteArray),200<g->g<=300->A.extract 0 (A.size-1)++⟨(Wf.putN g).toArray⟩++⟨#[2,7,200,0]⟩=B ->
   vfV (getIn s.data.toList K.data.toList B.data.toList)=.tuple #[.string T,.bool true]/\skipIn s.data.toList K.data.toList B.data.toList=some [g]/\canonI s.data.toList K.data.toList B.data.toList=false)):=by
 cases ha:bytesVal s.data.toList K.data.toList T.data.toList with
 | none=>exact .inl rfl
 | some a =>
  have hal:=bytesVal_len ha;have h0:0<a.length:=by
   rcases put_law s K T with h|⟨A,h,h4,h5,_⟩
   ·rw[ha] at h
    simp[vfV] at h
   ·rw[ha] at h
    have:(⟨a.toArray⟩:ByteArray)=A:=by
     simp only[vfV,tx] at h;injection h with h;simpa using h
    rw[<-this] at h5;exact h5
  refine .inr ⟨⟨a.toArray⟩,rfl,hal,h0,?_⟩;unfold eA;cases hty:cI s.data.toList (nmL K.data.toList) with
  | none=>exact .inl rfl
  | some z =>
   right
   dsimp only;by_cases h82:z.2.sort=82
   ·right
    refine⟨by rw[h82],fun g B h1 h2 hB=>?_⟩;have hv:=ha;unfold bytesVal at hv;cases hvo:valOf s.data.toList K.data.toList T.data.toList with
    | none=>rw[hvo] at hv;cases hv
    | some y =>
     have hk:=(fU hvo).1;obtain⟨e1,e2,e3⟩:=nm_type hk hty;obtain⟨hx,_⟩:=fT hk;obtain⟨⟨x,k⟩,u⟩:=y;dsimp only at e1 e2 e3 hk hx;rw[e2] at hk;obtain⟨a0,q1,q2,q3,q4⟩:=unknown_law hx ha hk e3 h82 (by omega) h1 h2;have hBl:B.data.toList=a0++(Wf.putN g++[2,7,200,0]):=by
      rw[<-hB,zaU,zaW,zaU,zaW,bB,List.drop_zero];show(List.take _ a)++Wf.putN g++[2,7,200,0]=_;have hs:(⟨a.toArray⟩:ByteArray).size=a0.length+1:=by
       show a.length=_;rw[q1,zaD];rfl
      rw[hs,Nat.add_sub_cancel,Nat.sub_zero,q1,List.take_left',zaT];rfl
     rw[hBl];refine⟨?_,q3,q4⟩;rw[q2];show Value.tuple #[tx T.data.toList,.bool true]=_;rw[tx,Array.toArray_toList]
   ·left
    refine⟨_,rfl,?_⟩;rw[zaZ];show([z.2.sort]==[82])=false;simpa using h82
theorem skip_one {l kt s:List UInt8} {lo g:Nat} {w w':World} {e:Ending} (hs:skipIn l kt s=some [g]) (h:SkOut l kt s lo e w'/\Below w.heap.size w w'):(∃ b o c,e=.returned (.tuple #[.slice (some ⟨b,o,none⟩) 1 c,.bool true])/\b<w'.heap.size/\w'.cell? ⟨b,o,none⟩=some (.int .i64 g))/\Below w.heap.size w w':=by
 refine⟨?_,h.2⟩;have h1:=h.1;unfold SkOut at h1;rw[hs] at h1;obtain⟨b,v,he,_,a,cap,hv,_,_,h2⟩:=h1;rcases h2 with h2|⟨o,ha,hl,hc⟩
 ·cases h2
 ·exact⟨b,o,cap,by rw[he,hv,ha];rfl,hl,(hc 0 (by simp)).1⟩
theorem run_cut_last (A A1:ByteArray) (h0:0<A.size) (e:A.extract 0 (A.size-1)=A1) (wz:World):(Instr.slice 9 (.string A) none (some (.int .i64 ((A.size:Int)-1))) none).run Tryz.prog wz=.ok (.string A1) wz:=by
 have h:=run_slice_string_h (P:=Tryz.prog) wz 9 A Tryz.underlying9 .i64 ((A.size:Int)-1) (by omega) (by omega);rw[h,show((A.size:Int)-1).toNat=A.size-1 by omega,e]
theorem run_add_str (A B C:ByteArray) (h:A.size+B.size<=9000000) (e:A++B=C) (wz:World):(Op.stringOp .add A B).run Tryz.prog wz=.ok (.string C) wz:=by
 rw[<-e];exact zbH (P:=Tryz.prog) (w:=wz) A B (by omega)
theorem run_convert_four (W:World) (et:TypeId):(convert 22 9 (.slice (some ⟨W.heap.size,0,none⟩) 4 4)).run Tryz.prog (W.alloc (.cells #[.int .u8 2,.int .u8 7,.int .u8 200,.int .u8 0] et))=.ok (.string ⟨#[2,7,200,0]⟩) (W.alloc (.cells #[.int .u8 2,.int .u8 7,.int .u8 200,.int .u8 0] et)):=by
 refine run_convert_bytes_back _ 22 9 5 ⟨W.heap.size,0,none⟩ 4 [2,7,200,0] Tryz.underlying22 Tryz.underlying5 Tryz.underlying9 fun j hj=>?_;simp only[zaF,zaM] at hj;match j,hj with
 | 0,_=>simp[Addr.add]
 | 1,_=>simp[Addr.add]
 | 2,_=>simp[Addr.add]
 | 3,_=>simp[Addr.add]
theorem run_convert_four_drew (W:World) (et:TypeId):(convert 22 9 (.slice (some ⟨W.heap.size,0,none⟩) 4 4)).run Tryz.prog (W.alloc (.cells #[.int .u8 2,.int .u8 7,.int .u8 200,.int .u8 0] et)).drew=.ok (.string ⟨#[2,7,200,0]⟩) (W.alloc (.cells #[.int .u8 2,.int .u8 7,.int .u8 200,.int .u8 0] et)).drew:=by
 refine run_convert_bytes_back _ 22 9 5 ⟨W.heap.size,0,none⟩ 4 [2,7,200,0] Tryz.underlying22 Tryz.underlying5 Tryz.underlying9 fun j hj=>?_;simp only[zaF,zaM] at hj;match j,hj with
 | 0,_=>simp[Addr.add]
 | 1,_=>simp[Addr.add]
 | 2,_=>simp[Addr.add]
 | 3,_=>simp[Addr.add]
