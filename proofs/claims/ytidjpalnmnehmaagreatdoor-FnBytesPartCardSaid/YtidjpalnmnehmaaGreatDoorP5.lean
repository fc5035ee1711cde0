/- Packed. -/
import Derived.Test.YtidjpalnmnehmaaGreatDoorP4
import Derived.IntWalk
import Derived.Test.YtidjpalnmnehmaaGreatDoorP2
set_option maxRecDepth 99999
set_option maxHeartbeats 40000000
set_option linter.all false
namespace Go.Proofs.YtidjpalnmnehmaaGreatDoor
open Go.ChangeShapes Go.WideShapes Go.ChangeAt Go.RowKit Go.Lib
theorem vY {n:Nat} (h:10<=n):Wf.dec n=Wf.dec (n / 10)++Wf.dec (n % 10):=by
 rw[Wf.eE h,Wf.dec_lt (show n % 10<10 by omega)]
theorem tF (a b:List UInt8):(⟨a.toArray⟩:ByteArray)++⟨b.toArray⟩=⟨(a++b).toArray⟩:=by rw[aR];simp
theorem aV {a b:ByteArray} (h:a=b):Ending.returned (.string a)=.returned (.string b):=by rw[h]
theorem iW (m:Nat):∀ (n:Nat) (w:World),n<=m->n<=999999->Calls Tryz.prog 60 #[.int .i64 n] w fun e w'=>e=.returned (tx (Wf.dec n))/\Below w.heap.size w w':=by
 have kc:=run_convert_lit (P:=Tryz.prog) 22 9 5 Tryz.underlying22 Tryz.underlying5 Tryz.underlying9;induction m with
 | zero =>
  intro n w hm hn;have:n=0:=by omega
  subst this;go_enter Tryz.func60,Tryz.ntmps60;go_wp2_with fail
  go_ret
  exact⟨by rw[Wf.dec_lt (by omega)];rfl,(Below.refl _ _).alloc (Nat.le_refl _) _⟩
 | succ m ih =>
  intro n w hm hn;by_cases h:n<10
  ·have HD:=hid (Wf.dec_lt h)
   go_enter Tryz.func60,Tryz.ntmps60;go_wp2_with fail
   go_ret
   exact⟨by rw[HD.out];simp[UInt8.ofNat_add],(Below.refl _ _).alloc (Nat.le_refl _) _⟩
  ·have HD:=hid (vY (n:=n) (by omega))
   have H1:=hid fun w=>ih (n / 10) w (by omega) (by omega);have H2:=hid fun w=>ih (n % 10) w (by omega) (by omega);obtain⟨a,ha⟩:∃ a,Wf.dec (n / 10)=a:=⟨_,rfl⟩;obtain⟨b,hb⟩:∃ b,Wf.dec (n % 10)=b:=⟨_,rfl⟩;have la:(⟨a.toArray⟩:ByteArray).size<=6:=(by rw[<-ha];exact Wf.bW (by omega));have lb:(⟨b.toArray⟩:ByteArray).size<=6:=(by rw[<-hb];exact Wf.bW (by omega));rw[ha] at H1;rw[hb] at H2;rw[ha,hb] at HD;have HA:=hid (tF a b);obtain⟨A,hA⟩:∃ A:ByteArray,(⟨a.toArray⟩:ByteArray)=A:=⟨_,rfl⟩;obtain⟨B,hB⟩:∃ B:ByteArray,(⟨b.toArray⟩:ByteArray)=B:=⟨_,rfl⟩;rw[tx,hA] at H1;rw[tx,hB] at H2;rw[hA,hB] at HA;rw[hA] at la;rw[hB] at lb;clear ih ha hb hA hB;go_enter Tryz.func60,Tryz.ntmps60;go_wp2_with (first|(go_at_call 60;have _u:=hb1;refine(H2.out _).mono ?_;rintro e w2 ⟨rfl,hb2⟩)|(go_at_call 60;refine(H1.out _).mono ?_;rintro e w1 ⟨rfl,hb1⟩))
   go_ret
   exact⟨by rw[HD.out,tx,<-HA.out];rfl,hb1.trans (hb2.mono hb1.size)⟩
theorem eL (m:Nat):∀ (n:Nat) (w:World),n<=m->n<=1000000000->Calls Tryz.prog 89 #[.int .i64 n] w fun e w'=>e=.returned (tx (Wf.dec n))/\Below w.heap.size w w':=by
 have kc:=run_convert_lit (P:=Tryz.prog) 22 9 5 Tryz.underlying22 Tryz.underlying5 Tryz.underlying9;induction m with
 | zero =>
  intro n w hm hn;have:n=0:=by omega
  subst this;go_enter Tryz.func89,Tryz.ntmps89;go_wp2_with fail
  go_ret
  exact⟨by rw[Wf.dec_lt (by omega)];rfl,(Below.refl _ _).alloc (Nat.le_refl _) _⟩
 | succ m ih =>
  intro n w hm hn;by_cases h:n<10
  ·have HD:=hid (Wf.dec_lt h)
   go_enter Tryz.func89,Tryz.ntmps89;go_wp2_with fail
   go_ret
   exact⟨by rw[HD.out];simp[UInt8.ofNat_add],(Below.refl _ _).alloc (Nat.le_refl _) _⟩
  ·obtain⟨q,hq⟩:∃ q,n / 10=q:=⟨_,rfl⟩
   obtain⟨r,hr⟩:∃ r,n % 10=r:=⟨_,rfl⟩;have hr9:r<10:=(by omega);have HD:=Wf.eE (n:=n) (by omega);have H1:=hid fun w=>ih q w (by omega) (by omega);rw[hq,hr] at HD;obtain⟨a,ha⟩:∃ a,Wf.dec q=a:=⟨_,rfl⟩;have la:(⟨a.toArray⟩:ByteArray).size<=10:=(by rw[<-ha];exact Wf.dP q 9 (by have:(10:Nat)^10=10000000000:=rfl;omega));rw[ha] at H1 HD;obtain⟨A,hA⟩:∃ A:ByteArray,(⟨a.toArray⟩:ByteArray)=A:=⟨_,rfl⟩;have HA:A++(⟨#[48+UInt8.ofNat r]⟩:ByteArray)=⟨(Wf.dec n).toArray⟩:=by
    rw[HD,<-hA,<-tF,UInt8.ofNat_add];rfl
   rw[tx,hA] at H1;rw[hA] at la;have kc1:=fun W a c h=>run_convert_one (P:=Tryz.prog) 22 9 5 Tryz.underlying22 Tryz.underlying5 Tryz.underlying9 W a c (48+(r:Int)) h;have e1:IntKind.i64.wrap ((n:Int) / 10)=(q:Int):=(by rw[IntWalk.i64_in _ (by omega)];omega);have e2:(n:Int).tmod 10=(r:Int):=(by rw[Int.tmod_eq_emod_of_nonneg (by omega)];omega);have e3:IntKind.i64.wrap (48+(r:Int))=48+(r:Int):=IntWalk.i64_in _ (by omega);have e4:IntKind.u8.wrap (48+(r:Int))=48+(r:Int):=(by simp[IntKind.wrap,IntKind.bits,IntKind.signed];omega);have HAA:=hid HA;clear ih ha hA hq hr HD HA;go_enter Tryz.func89,Tryz.ntmps89;go_wp2_with fail
   go_region_with (go_at_call 89;refine(H1.out _).mono ?_;rintro e w1 ⟨rfl,hb1⟩;obtain⟨hc1,hc2⟩:=bcell hb1;have hz:w.heap.size<w1.heap.size+1:=(by have:=hb1.size;simp at this;omega);have B1:Below w.heap.size w w1:=(by first|exact aC ((Below.refl _ _).drew) hb1|exact aC (((Below.refl _ _).alloc (Nat.le_refl _) _).drew) hb1))
   all_goals go_wp2
   all_goals go_ret
   all_goals exact⟨aV HAA.out,by first|exact B1|exact B1.alloc B1.size _⟩
end Go.Proofs.YtidjpalnmnehmaaGreatDoor

namespace Go.Proofs.YtidjpalnmnehmaaGreatDoor
open Go.ChangeShapes Go.WideShapes Go.ChangeAt Go.RowKit
theorem qG (rb:Nat) (a:Option Addr) (len cap:Nat) (p n:Int) (w:World) (c0:w.cell? ⟨rb,0,none⟩=some (.slice a len cap)) (c1:w.cell? ⟨rb,1,none⟩=some (.int .i64 p)) (f1:w.frozen? ⟨rb,1,none⟩=false) (hp:0<=p) (hp2:p<=1000000) (hn:n<1):Calls Tryz.prog 62 #[.pointer (some ⟨rb,0,none⟩),.int .i64 n] w fun e w'=>e=.returned (.int .i64 0)/\w.setCell ⟨rb,1,none⟩ (.int .i64 (p+1))=w':=by
 go_enter Tryz.func62,Tryz.ntmps62;go_wp2;go_ret
 exact⟨rfl,rfl⟩
theorem qC (rb:Nat) (a:Option Addr) (cap:Nat) (p n:Int) (w:World) (c0:w.cell? ⟨rb,0,none⟩=some (.slice a 0 cap)) (c1:w.cell? ⟨rb,1,none⟩=some (.int .i64 p)) (f1:w.frozen? ⟨rb,1,none⟩=false) (hp:0<=p) (hp2:p<=1000000) (hn:1<=n):Calls Tryz.prog 62 #[.pointer (some ⟨rb,0,none⟩),.int .i64 n] w fun e w'=>e=.returned (.int .i64 0)/\w.setCell ⟨rb,1,none⟩ (.int .i64 (p+1))=w':=by
 go_enter Tryz.func62,Tryz.ntmps62;go_wp2;go_ret
 exact⟨rfl,rfl⟩
theorem sR (rb b off:Nat) (len cap:Nat) (p n m:Int) (w:World) (c0:w.cell? ⟨rb,0,none⟩=some (.slice (some ⟨b,off,none⟩) len cap)) (c1:w.cell? ⟨rb,1,none⟩=some (.int .i64 p)) (f1:w.frozen? ⟨rb,1,none⟩=false) (hp:0<=p) (hp2:p<=1000000) (hn:1<=n)
  (hl:1<=len) (hl2:len<=2000) (hpl:p<len) (hb:b≠rb) (hm:0<=m) (hm2:m<256) (cb:w.cell? ⟨b,off+p.toNat,none⟩=some (.int .u8 m)):Calls Tryz.prog 62 #[.pointer (some ⟨rb,0,none⟩),.int .i64 n] w fun e w'=>e=.returned (.int .i64 (m % n))/\w.setCell ⟨rb,1,none⟩ (.int .i64 (p+1))=w':=by
 have e1:p+1-1=p:=by omega
 have t0:((len:Int)==0)=false:=by rw[beq_eq_false_iff_ne];omega
 have t1:(decide (n<1) || (len:Int)==0)=false:=by rw[t0,decide_eq_false (by omega)];rfl
 go_enter Tryz.func62,Tryz.ntmps62;go_wp2;go_ret
 exact⟨rfl,rfl⟩
theorem oT (rb b off:Nat) (len cap:Nat) (p n m1 m2 q1 q2 q3:Int) (w:World) (c0:w.cell? ⟨rb,0,none⟩=some (.slice (some ⟨b,off,none⟩) len cap)) (c1:w.cell? ⟨rb,1,none⟩=some (.int .i64 p)) (f1:w.frozen? ⟨rb,1,none⟩=false) (hp:0<=p) (hp2:p<=1000000) (hn:1<=n) (hn2:n<=9223372036854775807)
  (hl:1<=len) (hl2:len<=2000) (hpl:¬ p<len) (hb:b≠rb) (hm:0<=m1) (hm2:m1<256) (hm3:0<=m2) (hm4:m2<256)
  (hq1:p.tmod len=q1) (hq2:(p*7+3).tmod len=q2) (hq3:p.tdiv len=q3) (r1:0<=q1) (r2:q1<len) (r3:0<=q2) (r4:q2<len) (r5:0<=q3) (r6:q3<=1000000)
  (cb1:w.cell? ⟨b,off+q1.toNat,none⟩=some (.int .u8 m1)) (cb2:w.cell? ⟨b,off+q2.toNat,none⟩=some (.int .u8 m2)):Calls Tryz.prog 62 #[.pointer (some ⟨rb,0,none⟩),.int .i64 n] w fun e w'=>e=.returned (.int .i64 ((bits .xor .i64 (m1*131+m2*1117+p*29+q3*53) ((m1*131+m2*1117+p*29+q3*53) / 64)).tmod n))/\∃ k,w'=(w.setCell ⟨rb,1,none⟩ (.int .i64 (p+1))).drewN k:=by
 have e1:p+1-1=p:=by omega
 have t0:((len:Int)==0)=false:=by rw[beq_eq_false_iff_ne];omega
 have t1:(decide (n<1) || (len:Int)==0)=false:=by rw[t0,decide_eq_false (by omega)];rfl
 have z0:¬ (len:Int)=0:=by omega
 have z1:¬ len=0:=by omega
 go_enter Tryz.func62,Tryz.ntmps62;go_wp2;go_quiet (fail)
 go_wp2;go_ret
 exact⟨rfl,_,rfl⟩
theorem lB (n:Nat) (h:n<4611686018427387904):IntKind.i64.wrap (n:Int)=n:=by
 simp[IntKind.wrap,IntKind.bits,IntKind.signed];omega
theorem pZ (x:Int) (h0:0<=x) (h1:x<4611686018427387904):0<=bits .xor .i64 x (x / 64):=by
 obtain⟨a,rfl⟩:=Int.eq_ofNat_of_zero_le h0;obtain⟨b,hb⟩:∃ b:Nat,((a:Int) / 64)=b:=⟨a / 64,by omega⟩;rw[hb];have hx:a ^^^ b<2 ^ 62:=Nat.xor_lt_two_pow (by omega) (by omega);have h1':(BitVec.ofInt 64 (a:Int)).toNat=a:=by
  rw[BitVec.ofInt_natCast,BitVec.toNat_ofNat];exact Nat.mod_eq_of_lt (by omega)
 have h2':(BitVec.ofInt 64 (b:Int)).toNat=b:=by
  rw[BitVec.ofInt_natCast,BitVec.toNat_ofNat];exact Nat.mod_eq_of_lt (by omega)
 have:bits .xor .i64 (a:Int) (b:Int)=((a ^^^ b:Nat):Int):=by
  show IntKind.i64.wrap ((BitVec.ofInt 64 (a:Int) ^^^ BitVec.ofInt 64 (b:Int)).toNat:Int)=_;rw[BitVec.toNat_xor,h1',h2',lB _ (by omega)]
 rw[this];omega
structure aA (rb:Nat) (w w':World):Prop where
 os:w'.os=w.os
 tape:w'.tape=w.tape
 output:w'.output=w.output
 size:w.heap.size<=w'.heap.size
 block:∀ k,k<w.heap.size->k≠rb->w'.heap[k]? = w.heap[k]?
theorem aA.refl (rb:Nat) (w:World):aA rb w w:=⟨rfl,rfl,rfl,Nat.le_refl _,fun _ _ _=>rfl⟩
theorem aA.trans {rb:Nat} {a b c:World} (h:aA rb a b) (k:aA rb b c):aA rb a c :=
 ⟨k.os.trans h.os,k.tape.trans h.tape,k.output.trans h.output,Nat.le_trans h.size k.size,fun i hi hr=>(k.block i (Nat.lt_of_lt_of_le hi h.size) hr).trans (h.block i hi hr)⟩
theorem aA.aI {rb B:Nat} {a b:World} (h:Below B a b) (hB:a.heap.size<=B):aA rb a b:=⟨h.os,h.tape,h.output,h.size,fun k hk _=>h.block k (Nat.lt_of_lt_of_le hk hB)⟩
theorem aA.below {rb B:Nat} {a w w':World} (h:Below B a w) (hB:B<=w.heap.size) (hr:B<=rb) (k:aA rb w w'):Below B a w' :=
 ⟨k.os.trans h.os,k.tape.trans h.tape,k.output.trans h.output,Nat.le_trans h.size k.size,fun i hi=>(k.block i (by omega) (by omega)).trans (h.block i hi)⟩
theorem aA.set (rb:Nat) (w:World) (o:Nat) (u:Value):aA rb w (w.setCell ⟨rb,o,none⟩ u):=by
 have h:=Below.setCell (B:=rb) (Below.refl rb w) (p:=⟨rb,o,none⟩) (Nat.le_refl _) u;exact⟨h.os,h.tape,h.output,h.size,fun k _ hr=>Below.heap_setCell w ⟨rb,o,none⟩ u k hr⟩
theorem aA.drewN {rb:Nat} {a w:World} (h:aA rb a w) (n:Nat):aA rb a (w.drewN n):=h.trans ⟨rfl,rfl,rfl,Nat.le_refl _,fun _ _ _=>rfl⟩
theorem aA.drew {rb:Nat} {a w:World} (h:aA rb a w):aA rb a w.drew:=h.trans ⟨rfl,rfl,rfl,Nat.le_refl _,fun _ _ _=>rfl⟩
theorem aA.cell {rb:Nat} {w w':World} (h:aA rb w w') {p:Addr} (hp:p.block<w.heap.size) (hr:p.block≠rb):w'.cell? p=w.cell? p:=World.cell?_of_block (w:=w) (h.block p.block hp hr)
theorem aA.sV {rb:Nat} {w w':World} (h:aA rb w w') {b o:Nat} {v:Value} (hc:w.cell? ⟨b,o,none⟩=some v) (hr:b≠rb):w'.cell? ⟨b,o,none⟩=some v:=by
 have hlt:b<w.heap.size:=by
  rcases Nat.lt_or_ge b w.heap.size with h|h
  ·exact h
  ·simp[World.cell?,Array.getElem?_eq_none h] at hc
 rw[h.cell (p:=⟨b,o,none⟩) hlt hr];exact hc
def Bytes (w:World) (rb:Nat) (a:Option Addr) (len cap:Nat):Prop :=
 len<=cap/\cap<=maxLen/\(len=0\/∃ b off,a=some ⟨b,off,none⟩/\b<rb/\∀ i,i<len->∃ m:Int,0<=m/\m<256/\w.cell? ⟨b,off+i,none⟩=some (.int .u8 m))
def Rd (w:World) (rb k:Nat):Prop:=∃ a len cap,∃ p:Int,Bytes w rb a len cap/\w.cell? ⟨rb,0,none⟩=some (.slice a len cap)/\w.cell? ⟨rb,1,none⟩=some (.int .i64 p)/\w.frozen? ⟨rb,1,none⟩=false/\0<=p/\p<=k/\len<=2000/\rb<w.heap.size
theorem Bytes.keep {w w':World} {rb:Nat} {a:Option Addr} {len cap:Nat} (h:Bytes w rb a len cap) (hk:∀ b o v,b<rb->w.cell? ⟨b,o,none⟩=some v->w'.cell? ⟨b,o,none⟩=some v):Bytes w' rb a len cap:=by
 obtain⟨h1,h2,h|⟨b,off,ha,hb,hc⟩⟩:=h
 ·exact⟨h1,h2,.inl h⟩
 ·refine⟨h1,h2,.inr ⟨b,off,ha,hb,fun i hi=>?_⟩⟩
  obtain⟨m,m1,m2,m3⟩:=hc i hi;exact⟨m,m1,m2,hk _ _ _ hb m3⟩
theorem Rd.mono {w:World} {rb k k':Nat} (h:Rd w rb k) (hk:k<=k'):Rd w rb k':=by
 obtain⟨a,len,cap,p,h1,h2,h3,h4,h5,h6,h7,h8⟩:=h;exact⟨a,len,cap,p,h1,h2,h3,h4,h5,by omega,h7,h8⟩
theorem Rd.below {w w':World} {rb k B:Nat} (h:Rd w rb k) (hb:Below B w w') (hB:rb<B):Rd w' rb k:=by
 obtain⟨a,len,cap,p,h1,h2,h3,h4,h5,h6,h7,h8⟩:=h;refine⟨a,len,cap,p,h1.keep fun b o v hbr hc=>?_,?_,?_,?_,h5,h6,h7,Nat.lt_of_lt_of_le h8 hb.size⟩
 ·rw[hb.cell (p:=⟨b,o,none⟩) (Nat.lt_trans hbr hB)];exact hc
 ·rw[hb.cell (p:=⟨rb,0,none⟩) hB];exact h2
 ·rw[hb.cell (p:=⟨rb,1,none⟩) hB];exact h3
 ·rw[hb.frozen (p:=⟨rb,1,none⟩) hB];exact h4
theorem Rd.drewN {w:World} {rb k:Nat} (h:Rd w rb k) (n:Nat):Rd (w.drewN n) rb k:=h.below (B:=rb+1) ⟨rfl,rfl,rfl,Nat.le_refl _,fun _ _=>rfl⟩ (by omega)
theorem Rd.step {w:World} {rb:Nat} {a:Option Addr} {len cap:Nat} {p:Int} {k:Nat} (h1:Bytes w rb a len cap) (h2:w.cell? ⟨rb,0,none⟩=some (.slice a len cap)) (h3:w.cell? ⟨rb,1,none⟩=some (.int .i64 p)) (h4:w.frozen? ⟨rb,1,none⟩=false) (h5:0<=p) (h6:p<=k) (h7:len<=2000) (h8:rb<w.heap.size):Rd (w.setCell ⟨rb,1,none⟩ (.int .i64 (p+1))) rb (k+1):=by
 have hbs:=aA.set rb w 1 (.int .i64 (p+1));refine⟨a,len,cap,p+1,h1.keep fun b o v hbr hc=>hbs.sV hc (by omega),?_,?_,?_,by omega,by omega,h7,Nat.lt_of_lt_of_le h8 hbs.size⟩
 ·exact(World.cell?_setCell_other w _ _ _ (by simp)).trans h2
 ·exact World.cell?_setCell_same w _ _ h3
 ·simp[h4]
theorem pick (rb k:Nat) (n:Int) (w:World) (H:Rd w rb k) (hk:k<=1000000) (hn:n<=9223372036854775807) :
  Calls Tryz.prog 62 #[.pointer (some ⟨rb,0,none⟩),.int .i64 n] w fun e w'=>∃ v:Int,e=.returned (.int .i64 v)/\(1<=n->0<=v/\v<n)/\(n<1->v=0)/\Rd w' rb (k+1)/\aA rb w w':=by
 obtain⟨a,len,cap,p,h1,h2,h3,h4,h5,h6,h7,h8⟩:=H;have R:=Rd.step h1 h2 h3 h4 h5 h6 h7 h8;have Bs:=aA.set rb w 1 (.int .i64 (p+1));rcases Int.lt_or_le n 1 with hn1|hn1
 ·refine(qG rb a len cap p n w h2 h3 h4 h5 (by omega) hn1).mono ?_
  rintro e w' ⟨rfl,rfl⟩;exact⟨0,rfl,fun h=>by omega,fun _=>rfl,R,Bs⟩
 ·by_cases hl:len=0
  ·subst hl
   refine(qC rb a cap p n w h2 h3 h4 h5 (by omega) hn1).mono ?_;rintro e w' ⟨rfl,rfl⟩;exact⟨0,rfl,fun h=>by omega,fun h=>by omega,R,Bs⟩
  ·obtain⟨l1,l2,h0|⟨b,off,rfl,hb,hc⟩⟩:=h1
   ·exact absurd h0 hl
   ·by_cases hpl:p<len
    ·obtain⟨m,m1,m2,m3⟩:=hc p.toNat (by omega)
     refine(sR rb b off len cap p n m w h2 h3 h4 h5 (by omega) hn1 (by omega) h7 hpl (by omega) m1 m2 m3).mono ?_;rintro e w' ⟨rfl,rfl⟩;exact⟨_,rfl,fun h=>⟨Int.emod_nonneg _ (by omega),Int.emod_lt_of_pos _ (by omega)⟩,fun h=>by omega,R,Bs⟩
    ·have hlp:(0:Int)<len:=by omega
     have q1:p.tmod len=p % len:=Int.tmod_eq_emod_of_nonneg h5;have q2:(p*7+3).tmod len=(p*7+3) % len:=Int.tmod_eq_emod_of_nonneg (by omega);have q3:p.tdiv len=p / len:=Int.tdiv_eq_ediv_of_nonneg h5;have a1:=Int.emod_nonneg p (b:=len) (by omega);have a2:=Int.emod_lt_of_pos p hlp;have a3:=Int.emod_nonneg (p*7+3) (b:=len) (by omega);have a4:=Int.emod_lt_of_pos (p*7+3) hlp;have a5:0<=p / len:=Int.ediv_nonneg h5 (by omega);have a6:p / len<=p:=Int.ediv_le_self _ h5;obtain⟨m,m1,m2,m3⟩:=hc (p % len).toNat (by omega);obtain⟨m',m1',m2',m3'⟩:=hc ((p*7+3) % len).toNat (by omega);refine(oT rb b off len cap p n m m' (p % len) ((p*7+3) % len) (p / len) w h2 h3 h4 h5 (by omega) hn1 hn (by omega) h7 hpl (by omega) m1 m2 m1' m2' q1 q2 q3 a1 a2 a3 a4 a5 (by omega) m3 m3').mono ?_;rintro e w' ⟨rfl,k1,rfl⟩;exact⟨_,rfl,fun h=>⟨Int.tmod_nonneg _ (pZ _ (by omega) (by omega)),Int.tmod_lt_of_pos _ (by omega)⟩,fun h=>by omega,R.drewN _,Bs.drewN _⟩
theorem xH (w:World) (a:Option Addr) (len cap:Nat) (hl:len<=2000):Calls Tryz.prog 25 #[.slice a len cap] w fun e w'=>e=.returned (.pointer (some ⟨w.heap.size,0,none⟩))/\w.alloc (.cells #[.slice a len cap,.int .i64 0] 92)=w':=by
 go_enter Tryz.func25,Tryz.ntmps25;go_wp2;go_ret
 exact⟨rfl,rfl⟩
theorem zI (w:World) (b off:Nat) (len cap:Nat) (hl:2000<len) (hl2:len<=cap) (hc:cap<=maxLen):Calls Tryz.prog 25 #[.slice (some ⟨b,off,none⟩) len cap] w fun e w'=>e=.returned (.pointer (some ⟨w.heap.size,0,none⟩))/\w.alloc (.cells #[.slice (some ⟨b,off,none⟩) 2000 cap,.int .i64 0] 92)=w':=by
 go_enter Tryz.func25,Tryz.ntmps25;go_wp2;go_ret
 exact⟨rfl,rfl⟩
theorem Rd.alloc {w:World} {rb k:Nat} (h:Rd w rb k) (o:Obj):Rd (w.alloc o) rb k:=by
 have h8:rb<w.heap.size:=by obtain⟨a,len,cap,p,h1,h2,h3,h4,h5,h6,h7,h8⟩:=h;exact h8
 exact h.below (B:=rb+1) (Below.alloc (Below.refl _ _) (by omega) o) (by omega)
theorem Rd.lt {w:World} {rb k:Nat} (h:Rd w rb k):rb<w.heap.size:=by obtain⟨a,len,cap,p,h1,h2,h3,h4,h5,h6,h7,h8⟩:=h;exact h8
theorem aA.alloc {rb:Nat} {a w:World} (h:aA rb a w) (o:Obj):aA rb a (w.alloc o):=h.trans (aA.aI (B:=w.heap.size) (Below.alloc (Below.refl _ _) (Nat.le_refl _) o) (Nat.le_refl _))
theorem yT {w:World} {a:Option Addr} {len cap:Nat} {zs:List Int} (h:(a=none/\len=0/\cap=0/\zs=[]) \/
 ∃ x,a=some x/\len<=cap/\cap<=maxLen/\zs.length=cap/\(∀ i,i<zs.length->w.cell? (x.add i)=some (.int .u8 (zs.getD i 0)))/\∀ n∈zs,(Lit.int .u8 n).wf=true):Bytes w w.heap.size a len cap:=by
 rcases h with⟨rfl,rfl,rfl,_⟩|⟨x,rfl,h1,h2,h3,h4,h5⟩
 ·exact⟨Nat.le_refl _,by unfold maxLen;omega,.inl rfl⟩
 ·refine⟨h1,h2,?_⟩
  rcases Nat.eq_zero_or_pos len with h0|h0
  ·exact .inl h0
  ·have hx:=h4 0 (by omega)
   simp only[Addr.add,if_true] at hx;obtain⟨b,off,spot⟩:=x;have hb:b<w.heap.size:=by
    rcases Nat.lt_or_ge b w.heap.size with h|h
    ·exact h
    ·simp[World.cell?,Array.getElem?_eq_none h] at hx
   have hs:spot=none:=by
    simp only[World.cell?] at hx;split at hx
    ·cases spot with
     | none=>rfl
     | some y=>simp at hx
    ·cases hx
   subst hs;refine .inr ⟨b,off,rfl,hb,fun i hi=>?_⟩;have hc:=h4 i (by omega);have ha:(Addr.add ⟨b,off,none⟩ i)=⟨b,off+i,none⟩:=(by simp[Addr.add];try (intro h;omega));rw[ha] at hc;have hw:=h5 (zs.getD i 0) (by rw[List.getD_eq_getElem?_getD,List.getElem?_eq_getElem (show i<zs.length by omega),Option.getD_some];exact List.getElem_mem _);simp only[Lit.wf,Bool.and_eq_true,decide_eq_true_eq] at hw;have hmin:IntKind.u8.min=0:=rfl;have hmax:IntKind.u8.max=255:=rfl;rw[hmin,hmax] at hw;exact⟨_,hw.1,by omega,hc⟩
theorem Rd.fresh {w:World} {a:Option Addr} {len cap len':Nat} (h:Bytes w w.heap.size a len cap) (hl:len'<=len) (hl2:len'<=2000):Rd (w.alloc (.cells #[.slice a len' cap,.int .i64 0] 92)) w.heap.size 0:=by
 obtain⟨h1,h2,h3⟩:=h;have hb:Bytes w w.heap.size a len' cap:=by
  refine⟨by omega,h2,?_⟩;rcases h3 with h3|⟨b,off,ha,hb,hc⟩
  ·exact .inl (by omega)
  ·exact .inr ⟨b,off,ha,hb,fun i hi=>hc i (by omega)⟩
 refine⟨a,len',cap,0,hb.keep fun b o v hbr hc=>?_,?_,?_,?_,Int.le_refl _,by simp,hl2,by simp⟩
 ·rw[World.cell?_alloc_lt w _ _ hbr];exact hc
 ·simp
 ·simp
 ·simp
theorem a1M (w:World) (a:Option Addr) (len cap:Nat) (h:Bytes w w.heap.size a len cap):Calls Tryz.prog 25 #[.slice a len cap] w fun e w'=>∃ rb,e=.returned (.pointer (some ⟨rb,0,none⟩))/\w.heap.size<=rb/\Rd w' rb 0/\Below w.heap.size w w':=by
 rcases Nat.lt_or_ge 2000 len with hl|hl
 ·have h':=h
  obtain⟨h1,h2,h3|⟨b,off,rfl,hb,hc⟩⟩:=h
  ·omega
  ·refine(zI w b off len cap hl h1 h2).mono ?_
   rintro e w' ⟨rfl,rfl⟩;exact⟨_,rfl,Nat.le_refl _,Rd.fresh h' (by omega) (Nat.le_refl _),Below.alloc (Below.refl _ _) (Nat.le_refl _) _⟩
 ·refine(xH w a len cap hl).mono ?_
  rintro e w' ⟨rfl,rfl⟩;exact⟨_,rfl,Nat.le_refl _,Rd.fresh h (Nat.le_refl _) hl,Below.alloc (Below.refl _ _) (Nat.le_refl _) _⟩
end Go.Proofs.YtidjpalnmnehmaaGreatDoor

namespace Go.Proofs.YtidjpalnmnehmaaGreatDoor
open Go.ChangeShapes Go.WideShapes Go.ChangeAt Go.RowKit Go.Lib
def aH (w:World) (b:Nat) (v:Value) (xs:List Value):Prop :=
 ∃ a cap,v=.slice a xs.length cap/\xs.length<=cap/\cap<=maxLen/\(xs=[]\/∃ o,a=some ⟨b,o,none⟩/\b<w.heap.size/\∀ i (h:i<xs.length),w.cell? ⟨b,o+i,none⟩=some xs[i]/\w.frozen? ⟨b,o+i,none⟩=false)
theorem aH.keep {w w':World} {b:Nat} {v:Value} {xs:List Value} (h:aH w b v xs) (hs:w.heap.size<=w'.heap.size) (hk:b<w.heap.size->w'.heap[b]? = w.heap[b]?):aH w' b v xs:=by
 obtain⟨a,cap,h1,h2,h3,h4⟩:=h;refine⟨a,cap,h1,h2,h3,?_⟩;rcases h4 with h4|⟨o,h5,h6,h7⟩
 ·exact .inl h4
 ·refine .inr ⟨o,h5,Nat.lt_of_lt_of_le h6 hs,fun i hi=>?_⟩
  have h8:=hk h6;exact⟨(World.cell?_of_block (w:=w) (a:=⟨b,o+i,none⟩) h8).trans (h7 i hi).1,(World.frozen?_of_block (w:=w) (a:=⟨b,o+i,none⟩) h8).trans (h7 i hi).2⟩
theorem aH.below {w w':World} {b B:Nat} {v:Value} {xs:List Value} (h:aH w b v xs) (hb:Below B w w') (hB:b<w.heap.size->b<B):aH w' b v xs:=h.keep hb.size fun hx=>hb.block b (hB hx)
theorem aH.bS {w:World} {base:Nat} {e:TypeId} {v:Value} {xs:List Value} (h:w.ownsRow base e 1 v xs.length xs):∃ b,base<=b/\aH w b v xs:=by
 obtain⟨h1,h2|⟨g,cap,cur,h3,h4,h5,h6,h7,h8,h9⟩⟩:=h
 ·refine⟨base,Nat.le_refl _,none,0,?_,by omega,by unfold maxLen;omega,.inl (List.eq_nil_of_length_eq_zero h2.2)⟩
  rw[h2.1,h2.2]
 ·refine⟨g,h4,_,cap,h3,h6,h7,.inr ⟨0,rfl,(Array.getElem?_eq_some_iff.1 h5).1,fun i hi=>?_⟩⟩
  have hx:(cur.toList.take (xs.length*1))[i]? = xs[i]?:=by rw[h9]
  rw[List.getElem?_take,if_pos (by omega),List.getElem?_eq_getElem hi] at hx;have hx2:cur[i]? = some xs[i]:=by simpa using hx
  simp[World.cell?,World.frozen?,h5,hx2]
theorem mF {P:Program} (w:World) {ops:Array Oper} {rest:List Oper} {o:Oper} {a:Act} {Q:Exit->Act->World->Prop} (hgd:o.guard=none) (s x:Operand) (t:TypeId)
  (ho:o.op=.call { callee:=.builtin .append,args:=#[s,x],argTypes:=#[t,t] })
  (base:Nat) (e:TypeId) (z:Value) (bytes:Nat) (ht:P.underlying t=some (.slice e)) (hi:(P.info? e).map (fun i=>(i.zero,i.size,i.bytes))=some (some z,1,bytes)) (hz1:z.cells.size=1)
  (v:Value) (xs:List Value) (hs:a.eval s=v) (hown:w.ownsRow base e 1 v xs.length xs)
  (ad:Addr) (u:Value) (hx:a.eval x=.slice (some ad) 1 1) (hc:w.cell? ad=some u) (hu:u.oneCell'=true)
  (hn:(xs.length+1)*bytes<=140737488355328) (hn1:xs.length+1<=140737488355328) (hbase:base<=w.heap.size)
  (h:∀ v' w',w'.ownsRow base e 1 v' (xs++[u]).length (xs++[u])->Below base w w'->wpList P ops Q rest (a.put o.dst v') w'):wpList P ops Q (o::rest) a w:=by
 obtain⟨i0,hi0,hz0,hz2,hz3⟩:=info_parts hi;refine wpList_append_one w hgd s x t ho base e i0 z 1 bytes ht hi0 hz0 hz2 hz3 hz1 (by decide) v xs.length _ hs hown ad [u] hx rfl ?_ ?_ hn hn1 hbase ?_
 ·intro j u' hj
  match j,hj with
  | 0,hj=>simp at hj;subst hj;simpa[Addr.add] using hc
 ·intro u' hu';simp at hu';subst hu';exact hu
 ·intro v' w' g1 g2
  refine h v' w' ?_ g2;have e1:(xs++[u]).length=xs.length+1:=by simp
  rw[e1];exact g1
def digs (n:Nat):List UInt8:=if n=0 then [] else digs (n / 10)++[UInt8.ofNat (48+n % 10)]
termination_by n
decreasing_by omega
def mk (n:Nat):List UInt8:=109::digs n

def RowK (w:World) (b:Nat) (v:Value) (k:Nat) (es:List (List Value)):Prop :=
 ∃ a cap,v=.slice a es.length cap/\es.length<=cap/\cap<=maxLen/\(es=[]\/∃ o,a=some ⟨b,o,none⟩/\b<w.heap.size/\∀ i (h:i<es.length) j u,j<k->es[i][j]? = some u->w.cell? ⟨b,o+i*k+j,none⟩=some u)
theorem RowK.keep {w w':World} {b k:Nat} {v:Value} {es:List (List Value)} (h:RowK w b v k es) (hs:w.heap.size<=w'.heap.size) (hk:b<w.heap.size->w'.heap[b]? = w.heap[b]?):RowK w' b v k es:=by
 obtain⟨a,cap,h1,h2,h3,h4⟩:=h;refine⟨a,cap,h1,h2,h3,?_⟩;rcases h4 with h4|⟨o,h5,h6,h7⟩
 ·exact .inl h4
 ·exact .inr ⟨o,h5,Nat.lt_of_lt_of_le h6 hs,fun i hi j u hj hu=>(World.cell?_of_block (w:=w) (a:=⟨b,o+i*k+j,none⟩) (hk h6)).trans (h7 i hi j u hj hu)⟩
theorem RowK.below {w w':World} {b k:Nat} {v:Value} {es:List (List Value)} (h:RowK w b v k es) (hb:Below w.heap.size w w'):RowK w' b v k es:=h.keep hb.size fun hx=>hb.block b hx
theorem sD (k:Nat):∀ (es:List (List Value)),(∀ e∈es,e.length=k)->∀ i (hi:i<es.length) j,j<k->es.flatten[i*k+j]? = es[i][j]?:=by
 intro es;induction es with
 | nil=>intro _ i hi;simp at hi
 | cons e es ih =>
  intro hk i hi j hj;have he:e.length=k:=hk e (List.mem_cons_self ..);rw[List.flatten_cons];cases i with
  | zero =>
   rw[Nat.zero_mul,Nat.zero_add,List.getElem?_append_left (by omega)];rfl
  | succ i =>
   have e1:(i+1)*k+j=e.length+(i*k+j):=(by rw[Nat.succ_mul,he];omega);rw[e1,List.getElem?_append_right (by omega),Nat.add_sub_cancel_left];rw[ih (fun e' h'=>hk e' (List.mem_cons_of_mem _ h')) i (by simpa using hi) j hj];rfl
theorem RowK.bS {w:World} {base k:Nat} {e:TypeId} {v:Value} {es:List (List Value)} (h:w.ownsRow base e k v es.length es.flatten) (hk:∀ e∈es,e.length=k):∃ b,base<=b/\RowK w b v k es:=by
 obtain⟨h1,h2|⟨g,cap,cur,h3,h4,h5,h6,h7,h8,h9⟩⟩:=h
 ·refine⟨base,Nat.le_refl _,none,0,?_,by omega,by unfold maxLen;omega,.inl (List.eq_nil_of_length_eq_zero h2.2)⟩
  rw[h2.1,h2.2]
 ·refine⟨g,h4,_,cap,h3,h6,h7,.inr ⟨0,rfl,(Array.getElem?_eq_some_iff.1 h5).1,fun i hi j u hj hu=>?_⟩⟩
  have hlt:i*k+j<es.length*k:=by
   have:(i+1)*k<=es.length*k:=Nat.mul_le_mul_right k hi;rw[Nat.succ_mul] at this;omega
  have hx:(cur.toList.take (es.length*k))[i*k+j]? = es.flatten[i*k+j]?:=by rw[h9]
  rw[List.getElem?_take,if_pos hlt,sD k es hk i hi j hj,hu] at hx;have hx2:cur[i*k+j]? = some u:=by simpa using hx
  simp[World.cell?,h5,hx2]
def fdC (sort:UInt8) (f:Wf.Fd):List Value :=
 if sort=69 then [.int .i64 f.tag,tx f.name,tx [],tx [],tx [],tx []] else [.int .i64 f.tag,tx f.name,tx f.kind.signs,tx f.kind.base,tx f.kind.name,tx f.given]
theorem oE (sort:UInt8) (f:Wf.Fd):(fdC sort f).length=6:=by unfold fdC;split <;> rfl
abbrev ptr (b:Nat):Value:=.pointer (some ⟨b,0,none⟩)
def ptrR:Value->Option (DataW Unit × List MemPlace)
 | .pointer (some ⟨b,0,none⟩)=>some (.lit (.int .i64 b),[])
 | .pointer none=>some (.nil,[])
 | _=>none
theorem yL {v:Value} {d:DataW Unit} {ps:List MemPlace} (h:ptrR v=some (d,ps)):(∃ b:Nat,v=ptr b/\d=.lit (.int .i64 b))\/(v=.pointer none/\d=.nil):=by
 unfold ptrR at h;split at h
 ·rename_i b;cases h;exact .inl ⟨b,rfl,rfl⟩
 ·cases h;exact .inr ⟨rfl,rfl⟩
 ·cases h
def bL (w:World) (mb:Nat) (n:Nat) (f:List UInt8->Option Nat):Prop:=∃ D,w.ownsMap Tryz.prog 9 ptrR mb n D /\
 ∀ nm,D.atKey (.string nm) .nil=match f nm with|some b=>.lit (.int .i64 b)|none=>.nil

theorem eq_arr_n (s:ByteArray) (l:List UInt8) (h:s.data.toList=l):s=⟨l.toArray⟩:=by rw[<-h]
def bytesAt (w:World) (rb:Nat):Nat:=match w.cell? ⟨rb,1,none⟩ with
 | some (.string s)=>s.size
 | _=>0
structure Bn (W:World) (rb sb:Nat) (s:List UInt8) (bad:Bool) (sk:Value) (d:Nat):Prop where
 lt:rb<W.heap.size
 c0:W.cell? ⟨rb,0,none⟩=some (.pointer none)
 c1:W.cell? ⟨rb,1,none⟩=some (tx s)
 c2:W.cell? ⟨rb,2,none⟩=some (.bool bad)
 c3:W.cell? ⟨rb,3,none⟩=some sk
 c4:W.cell? ⟨rb,4,none⟩=some (.int .i64 d)
 f1:W.frozen? ⟨rb,1,none⟩=false
 f2:W.frozen? ⟨rb,2,none⟩=false
 f3:W.frozen? ⟨rb,3,none⟩=false
 f4:W.frozen? ⟨rb,4,none⟩=false
section
variable {W W':World} {rb sb:Nat} {s r:List UInt8} {bad:Bool} {sk:Value} {d:Nat}
theorem Bn.keep (h:Bn W rb sb s bad sk d) (hs:W.heap.size<=W'.heap.size) (hb:W'.heap[rb]? = W.heap[rb]?):Bn W' rb sb s bad sk d:=by
 have cd:=fun o=>World.cell?_of_block (w:=W) (w':=W') (a:=⟨rb,o,none⟩) hb;have cf:=fun o=>World.frozen?_of_block (w:=W) (w':=W') (a:=⟨rb,o,none⟩) hb;exact⟨Nat.lt_of_lt_of_le h.lt hs,(cd 0).trans h.c0,(cd 1).trans h.c1,(cd 2).trans h.c2,(cd 3).trans h.c3,(cd 4).trans h.c4,(cf 1).trans h.f1,(cf 2).trans h.f2,(cf 3).trans h.f3,(cf 4).trans h.f4⟩
theorem Bn.fF (h:Bn W rb sb s bad sk d) {B:Nat} (hb:Below B W W') (hB:rb<B):Bn W' rb sb s bad sk d:=h.keep hb.size (hb.block rb hB)
theorem Bn.below (h:Bn W rb sb s bad sk d) (hb:Below W.heap.size W W'):Bn W' rb sb s bad sk d:=h.fF hb h.lt
theorem Bn.text (h:Bn W rb sb s bad sk d) (r:List UInt8):Bn (W.setCell ⟨rb,1,none⟩ (tx r)) rb sb r bad sk d :=
 ⟨by simpa using h.lt,(World.cell?_setCell_other W _ _ _ (by simp)).trans h.c0,World.cell?_setCell_same W _ _ h.c1,(World.cell?_setCell_other W _ _ _ (by simp)).trans h.c2,(World.cell?_setCell_other W _ _ _ (by simp)).trans h.c3,(World.cell?_setCell_other W _ _ _ (by simp)).trans h.c4,by simpa using h.f1,by simpa using h.f2,by simpa using h.f3,by simpa using h.f4⟩
theorem Bn.fail (h:Bn W rb sb s bad sk d):Bn (W.setCell ⟨rb,2,none⟩ (.bool true)) rb sb s true sk d :=
 ⟨by simpa using h.lt,(World.cell?_setCell_other W _ _ _ (by simp)).trans h.c0,(World.cell?_setCell_other W _ _ _ (by simp)).trans h.c1,World.cell?_setCell_same W _ _ h.c2,(World.cell?_setCell_other W _ _ _ (by simp)).trans h.c3,(World.cell?_setCell_other W _ _ _ (by simp)).trans h.c4,by simpa using h.f1,by simpa using h.f2,by simpa using h.f3,by simpa using h.f4⟩
end
section
variable (rb sb:Nat) (sk:Value) (d:Nat) (w:World)
theorem nnum_yes (s r:List UInt8) (bad:Bool) (n:Nat) (hs:s.length<=1000000) (H:Bn w rb sb s bad sk d) (hn:Wf.getN s=some (n,r)):Calls Tryz.prog 45 #[ptr rb] w fun e w'=>e=.returned (.int .i64 n)/\Bn w' rb sb r bad sk d/\aA rb w w':=by
 have HH:=hid H;have hc1:=H.c1;have hlt:=H.lt;obtain⟨S,hS⟩:∃ S:ByteArray,(⟨s.toArray⟩:ByteArray)=S:=⟨_,rfl⟩;have hSl:S.data.toList=s:=by rw[<-hS]
 rw[tx,hS] at hc1;obtain⟨R,hR⟩:∃ R:ByteArray,(⟨r.toArray⟩:ByteArray)=R:=⟨_,rfl⟩;have HR:=hid hR;have HN:=hid fun wz=>(numGet_impl S wz (by rw[<-aD,hSl];omega)).mono (R':=fun e w'=>e=.returned (.tuple #[.int .i64 n,.string R,.bool true])/\Below wz.heap.size wz w') fun e w' ⟨h1,q,h2⟩=>⟨by rw[h1,hSl,hn,getNV,hR],by rw[h2];exact⟨rfl,rfl,rfl,Nat.le_refl _,fun _ _=>rfl⟩⟩;clear H hS hSl hn hR;go_enter Tryz.func45,Tryz.ntmps45;go_wp2_with (go_at_call 71;refine(HN.out _).mono ?_;rintro e w1 ⟨rfl,hb⟩;have HS1:=hid (HH.out.below hb);have k1:=HS1.out.c1;have kf:=HS1.out.f1;have kl:=HS1.out.lt;have HB:=hid (aA.aI (rb:=rb) hb (Nat.le_refl _));clear hb)
 go_ret
 exact⟨rfl,by rw[<-HR.out];exact HS1.out.text r,HB.out.trans (aA.set _ _ _ _)⟩
theorem nnum_no (s:List UInt8) (bad:Bool) (hs:s.length<=1000000) (H:Bn w rb sb s bad sk d) (hn:Wf.getN s=none):Calls Tryz.prog 45 #[ptr rb] w fun e w'=>e=.returned (.int .i64 0)/\Bn w' rb sb [] true sk d/\aA rb w w':=by
 have HH:=hid H;have hc1:=H.c1;have hlt:=H.lt;obtain⟨S,hS⟩:∃ S:ByteArray,(⟨s.toArray⟩:ByteArray)=S:=⟨_,rfl⟩;have hSl:S.data.toList=s:=by rw[<-hS]
 rw[tx,hS] at hc1;have HN:=hid fun wz=>(numGet_impl S wz (by rw[<-aD,hSl];omega)).mono (R':=fun e w'=>e=.returned (.tuple #[.int .i64 0,.string ⟨#[]⟩,.bool false])/\Below wz.heap.size wz w') fun e w' ⟨h1,q,h2⟩=>⟨by rw[h1,hSl,hn,getNV],by rw[h2];exact⟨rfl,rfl,rfl,Nat.le_refl _,fun _ _=>rfl⟩⟩;clear H hS hSl hn;go_enter Tryz.func45,Tryz.ntmps45;go_wp2_with (go_at_call 71;refine(HN.out _).mono ?_;rintro e w1 ⟨rfl,hb⟩;have HS1:=hid (HH.out.below hb);have k1:=HS1.out.c1;have k2:=HS1.out.c2;have kf:=HS1.out.f1;have kg:=HS1.out.f2;have kl:=HS1.out.lt;have HB:=hid (aA.aI (rb:=rb) hb (Nat.le_refl _));clear hb)
 go_ret
 exact⟨rfl,HS1.out.fail.text [],(HB.out.trans (aA.set _ _ _ _)).trans (aA.set _ _ _ _)⟩
theorem ntake_yes (s:List UInt8) (n:Nat) (hs:s.length<=1000000) (H:Bn w rb sb s false sk d) (hn:n<=s.length):Calls Tryz.prog 46 #[ptr rb,.int .i64 n] w fun e w'=>e=.returned (tx (s.take n))/\Bn w' rb sb (s.drop n) false sk d/\aA rb w w':=by
 have HH:=hid H;have hc1:=H.c1;have hc2:=H.c2;have hlt:=H.lt;have f1:=H.f1;obtain⟨S,hS⟩:∃ S:ByteArray,(⟨s.toArray⟩:ByteArray)=S:=⟨_,rfl⟩;have hSl:S.data.toList=s:=by rw[<-hS]
 have hSs:S.size=s.length:=by rw[<-hS];rfl
 rw[tx,hS] at hc1;have hn2:n<=S.size:=by omega
 have hs2:S.size<=1000000:=by omega
 have HA:=hid (show S.extract 0 n=⟨(s.take n).toArray⟩ from eq_arr_n _ _ (by rw[bJ,List.drop_zero,Nat.sub_zero,hSl]));have HD:=hid (show S.extract n S.size=⟨(s.drop n).toArray⟩ from eq_arr_n _ _ (by rw[bJ,hSl,hSs,List.take_of_length_le (by rw[List.length_drop];exact Nat.le_refl _)]));clear H hS hSl hs hn hSs;go_enter Tryz.func46,Tryz.ntmps46;go_wp2_with fail
 go_ret
 exact⟨aV HA.out,by have:=HH.out.text (s.drop n);rw[tx,<-HD.out] at this;exact this,aA.set _ _ _ _⟩
theorem ntake_bad (s:List UInt8) (n:Nat) (H:Bn w rb sb s true sk d):Calls Tryz.prog 46 #[ptr rb,.int .i64 n] w fun e w'=>e=.returned (tx [])/\Bn w' rb sb s true sk d/\aA rb w w':=by
 have HH:=hid H;have hc2:=H.c2;have hlt:=H.lt;have f2:=H.f2;clear H;go_enter Tryz.func46,Tryz.ntmps46;go_wp2_with fail
 go_ret
 exact⟨rfl,HH.out.fail,aA.set _ _ _ _⟩
theorem ntake_long (s:List UInt8) (n:Nat) (hs:s.length<=1000000) (H:Bn w rb sb s false sk d) (hn:s.length<n):Calls Tryz.prog 46 #[ptr rb,.int .i64 n] w fun e w'=>e=.returned (tx [])/\Bn w' rb sb s true sk d/\aA rb w w':=by
 have HH:=hid H;have hc1:=H.c1;have hc2:=H.c2;have hlt:=H.lt;have f2:=H.f2;obtain⟨S,hS⟩:∃ S:ByteArray,(⟨s.toArray⟩:ByteArray)=S:=⟨_,rfl⟩;have hSs:S.size=s.length:=by rw[<-hS];rfl
 rw[tx,hS] at hc1;have hn2:S.size<n:=by omega
 clear H hS hs hn hSs;go_enter Tryz.func46,Tryz.ntmps46;go_wp2_with fail
 go_ret
 exact⟨rfl,HH.out.fail,aA.set _ _ _ _⟩
theorem ntake_no (s:List UInt8) (bad:Bool) (n:Nat) (hs:s.length<=1000000) (H:Bn w rb sb s bad sk d) (hn:bad=true\/s.length<n):Calls Tryz.prog 46 #[ptr rb,.int .i64 n] w fun e w'=>e=.returned (tx [])/\Bn w' rb sb s true sk d/\aA rb w w':=by
 cases bad with
 | true=>exact ntake_bad rb sb sk d w s n H
 | false=>exact ntake_long rb sb sk d w s n hs H (hn.resolve_left (by simp))
end
theorem nnum_any (s:List UInt8) (hs:s.length<=1000000):∃ (m:Nat) (r:List UInt8) (b:Bool),m<=999999/\r.length<=s.length/\((b=false/\Wf.getN s=some (m,r))\/(b=true/\Wf.getN s=none/\m=0/\r=[])) /\
  ∀ (rb sb:Nat) (bad:Bool) (sk:Value) (d:Nat) (w:World),Bn w rb sb s bad sk d->Calls Tryz.prog 45 #[ptr rb] w fun e w'=>e=.returned (.int .i64 m)/\Bn w' rb sb r (bad || b) sk d/\aA rb w w':=by
 cases hn:Wf.getN s with
 | none =>
  refine⟨0,[],true,by omega,by simp,.inr ⟨rfl,rfl,rfl,rfl⟩,fun rb sb bad sk d w H=>?_⟩;rw[Bool.or_true];exact nnum_no rb sb sk d w s bad hs H hn
 | some y =>
  obtain⟨m,r⟩:=y;obtain⟨h1,h2,_⟩:=Wf.getN_len hn;refine⟨m,r,false,h1,by omega,.inl ⟨rfl,rfl⟩,fun rb sb bad sk d w H=>?_⟩;rw[Bool.or_false];exact nnum_yes rb sb sk d w s r bad m hs H hn
theorem ntk (s:List UInt8) (hs:s.length<=1000000) (bad:Bool):∃ (m:Nat) (r1:List UInt8) (b1:Bool) (t r:List UInt8) (b:Bool),m<=999999/\r1.length<=s.length/\t.length<=s.length/\r.length<=s.length /\
  ((b=false/\bad=false/\Wf.takeN s=some (t,r))\/(b=true/\(bad=true\/Wf.takeN s=none)/\t=[])) /\
  (∀ (rb sb:Nat) (sk:Value) (d:Nat) (w:World),Bn w rb sb s bad sk d->Calls Tryz.prog 45 #[ptr rb] w fun e w'=>e=.returned (.int .i64 m)/\Bn w' rb sb r1 b1 sk d/\aA rb w w') /\
  (∀ (rb sb:Nat) (sk:Value) (d:Nat) (w:World),Bn w rb sb r1 b1 sk d->Calls Tryz.prog 46 #[ptr rb,.int .i64 m] w fun e w'=>e=.returned (tx t)/\Bn w' rb sb r b sk d/\aA rb w w'):=by
 obtain⟨m,r1,b1,hm,hr1,hc,hN⟩:=nnum_any s hs;by_cases h:(bad || b1)=false/\m<=r1.length
 ·obtain⟨hb,hl⟩:=h
  have hb0:bad=false/\b1=false:=by simpa using hb
  obtain⟨rfl,rfl⟩:=hb0;rcases hc with⟨_,hg⟩|⟨h,_⟩
  ·refine⟨m,r1,false,r1.take m,r1.drop m,false,hm,hr1,by rw[List.length_take];omega,by rw[List.length_drop];omega,.inl ⟨rfl,rfl,?_⟩,fun rb sb sk d w H=>hN rb sb false sk d w H,fun rb sb sk d w H=>ntake_yes rb sb sk d w r1 m (by omega) H hl⟩
   unfold Wf.takeN;rw[hg];dsimp only;rw[if_pos hl]
  ·cases h
 ·refine⟨m,r1,bad || b1,[],r1,true,hm,hr1,by simp,hr1,.inr ⟨rfl,?_,rfl⟩,fun rb sb sk d w H=>hN rb sb bad sk d w H,fun rb sb sk d w H=>ntake_no rb sb sk d w r1 (bad || b1) m (by omega) H ?_⟩
  ·cases bad with
   | true=>exact .inl rfl
   | false =>
    right
    unfold Wf.takeN;rcases hc with⟨rfl,hg⟩|⟨_,hg,_⟩
    ·rw[hg]
     dsimp only;rw[if_neg fun hl=>h ⟨rfl,hl⟩]
    ·rw[hg]
  ·cases hb:(bad || b1) with
   | true=>exact .inl rfl
   | false=>exact .inr (by
    rcases Nat.lt_or_ge r1.length m with h1|h1
    ·exact h1
    ·exact absurd ⟨hb,h1⟩ h)
theorem Bn.size {w:World} {rb sb:Nat} {s:List UInt8} {bad:Bool} {sk:Value} {d:Nat} (h:Bn w rb sb s bad sk d):bytesAt w rb=s.length:=by
 unfold bytesAt;rw[h.c1];rfl

def fbV:Option (List UInt8)->Value
 | some l=>.tuple #[tx l,.bool true]
 | none=>.tuple #[.string ⟨#[]⟩,.bool false]
theorem start_bn (w:World) (s:List UInt8) (S:ByteArray) (hS:(⟨s.toArray⟩:ByteArray)=S) (W1:World) (h:w.alloc (.cells #[.pointer none,.string S,.bool false,.slice none 0 0,.int .i64 0] 88)=W1):Bn W1 w.heap.size 0 s false (.slice none 0 0) 0/\Below w.heap.size w W1:=by
 subst hS h;exact⟨⟨by simp,by simp[go_sem],by simp[go_sem],by simp[go_sem],by simp[go_sem],by simp[go_sem],by simp[go_sem],by simp[go_sem],by simp[go_sem],by simp[go_sem]⟩,(Below.refl _ _).alloc (Nat.le_refl _) _⟩
section
variable (S:ByteArray) (want:Int) (w:World)
theorem field_long (h:¬ S.size<=600):Calls Tryz.prog 23 #[.string S,.int .i64 want] w fun e w'=>e=.returned (fbV (Wf.fieldF S.data.toList want))/\Below w.heap.size w w':=by
 have HF:=hid (show Wf.fieldF S.data.toList want=none by unfold Wf.fieldF;rw[if_neg (by rw[aD];exact h)]);go_enter Tryz.func23,Tryz.ntmps23;go_wp2_with fail
 go_loopw [7] (fun v wr=>Hid (Below w.heap.size w wr)) (fun v _=>0)
 case atStart=>exact hid ((Below.refl _ _).alloc (Nat.le_refl _) _)
 case round =>
  go_wp2_with fail
  go_ret2
  exact⟨by rw[HF.out];rfl,hrel.out⟩
theorem field_short (h:S.size<=600):Calls Tryz.prog 23 #[.string S,.int .i64 want] w fun e w'=>e=.returned (fbV (Wf.fieldF S.data.toList want))/\Below w.heap.size w w':=by
 have ST:=hid fun W1 h=>start_bn w S.data.toList S (by rw[Array.toArray_toList]) W1 h;obtain⟨T,hT⟩:∃ T,Wf.fieldF S.data.toList want=T:=⟨_,rfl⟩;have h0:Wf.fieldW want (S.data.toList.length+1) 0 S.data.toList=T:=by
  rw[<-hT];unfold Wf.fieldF;rw[if_pos (by rw[aD];exact h)]
 rw[hT];have H0:=hid h0;have HSZ:=hid (aD S);clear hT h0;go_enter Tryz.func23,Tryz.ntmps23;go_wp2_with fail
 go_loopw [7] (fun v wr=>∃ (last:Nat) (cur:List UInt8),v=.int .i64 last/\last<=999999/\Hid (Bn wr w.heap.size 0 cur false (.slice none 0 0) 0/\Below w.heap.size w wr/\cur.length<=600/\∃ m,cur.length<m/\Wf.fieldW want m last cur=T)) (fun _ wr=>bytesAt wr w.heap.size)
 case atStart=>exact⟨0,S.data.toList,rfl,by omega,hid ⟨(ST.out _ rfl).1,(ST.out _ rfl).2,by rw[HSZ.out];exact h,_,Nat.lt_succ_self _,H0.out⟩⟩
 case round =>
  obtain⟨last,cur,rfl,hl6,hh⟩:=hrel;obtain⟨tag,r1,b1,htag,hr1,hc1,hN⟩:=nnum_any cur (by have:=hh.out.2.2.1;omega);have HN:=hid fun(wz:World) (h:Bn wz w.heap.size 0 cur false (.slice none 0 0) 0)=>hN _ 0 false _ 0 wz h;simp only[Bool.false_or] at HN;obtain⟨m2,r2,b2,tt,r,b,hm2,hr2,htl,hrl,hc2,hN2,hT2⟩:=ntk r1 (by have:=hh.out.2.2.1;omega) b1;have HN2:=hid fun(wz:World) (h:Bn wz w.heap.size 0 r1 b1 (.slice none 0 0) 0)=>hN2 _ 0 _ 0 wz h;obtain⟨TT,hTT⟩:∃ TT:ByteArray,(⟨tt.toArray⟩:ByteArray)=TT:=⟨_,rfl⟩;have HTT:=hid hTT;have HT2:=hid fun(wz:World) (h:Bn wz w.heap.size 0 r2 b2 (.slice none 0 0) 0)=>hT2 _ 0 _ 0 wz h;simp only[tx,hTT] at HT2;have HLEN:=hid (show r.length<=cur.length by omega);have HCC:=hid (And.intro hc1 hc2);have hhe:=hh.out.1.lt;clear hN hN2 hT2 hTT hc1 hc2 hr1 hr2 htl hrl;have key:(b=true/\T=none)\/(b=false/\((tag<=last/\T=none)\/(last<tag/\(((tag:Int)=want/\T=some tt)\/((tag:Int)≠want/\r.length<cur.length/\∃ m,r.length<m/\Wf.fieldW want m tag r=T))))):=by
   obtain⟨m,hm,hf⟩:=hh.out.2.2.2;obtain⟨m',rfl⟩:∃ m',m=m'+1:=⟨m-1,by omega⟩;obtain⟨hc1,hc2⟩:=HCC.out;have hL:=HLEN.out;rcases hc1 with⟨e1,hg⟩|⟨e1,hg,_,_⟩
   ·have hgl:=(Wf.getN_len hg).2.1
    rw[Wf.fieldW_step hg] at hf;rcases hc2 with⟨e2,_,ht⟩|⟨e2,ht,_⟩
    ·right
     refine⟨e2,?_⟩;rw[ht] at hf;dsimp only at hf;have hrl:r.length<=r1.length:=(by have:=Wf.takeN_len ht;omega);by_cases h1:tag<=last
     ·rw[if_pos h1] at hf;exact .inl ⟨h1,hf.symm⟩
     ·rw[if_neg h1] at hf
      refine .inr ⟨by omega,?_⟩;by_cases h2:(tag:Int)=want
      ·rw[if_pos h2] at hf;exact .inl ⟨h2,hf.symm⟩
      ·rw[if_neg h2] at hf
       exact .inr ⟨h2,by omega,m',by omega,hf⟩
    ·left
     refine⟨e2,?_⟩;rcases ht with h|h
     ·rw[e1] at h;cases h
     ·rw[h] at hf;exact hf.symm
   ·rw[Wf.fieldW_none hg] at hf
    rcases hc2 with⟨_,e3,_⟩|⟨e2,_,_⟩
    ·rw[e1] at e3;cases e3
    ·exact .inl ⟨e2,hf.symm⟩
  rcases key with⟨rfl,h1⟩|⟨rfl,h2⟩
  ·have HV:=hid h1
   clear h1;go_wp2_with (first|(go_at_call 46;have _u:=S3;refine(HT2.out _ S3.out).mono ?_;rintro e w4 ⟨rfl,hs4,hb4⟩;have S4:=hid hs4;have c4:=hs4.c2;have l4:=hs4.lt;have B4:=hid (B3.out.trans hb4);clear hs4 hb4)|(go_at_call 45;have _u:=S2;refine(HN2.out _ S2.out).mono ?_;rintro e w3 ⟨rfl,hs3,hb3⟩;have S3:=hid hs3;have B3:=hid (B2.out.trans hb3);clear hs3 hb3)|(go_at_call 45;refine(HN.out _ hh.out.1).mono ?_;rintro e w2 ⟨rfl,hs2,hb2⟩;have S2:=hid hs2;have B2:=hid hb2;clear hs2 hb2))
   all_goals go_ret2
   all_goals exact⟨by rw[HV.out];rfl,aA.below hh.out.2.1 hh.out.2.1.size (Nat.le_refl _) B4.out⟩
  ·rcases h2 with⟨h1,h2⟩|⟨h1,⟨rfl,h2⟩|⟨h2,h3,h4⟩⟩
   ·have HV:=hid h2
    clear h2;go_wp2_with (first|(go_at_call 46;have _u:=S3;refine(HT2.out _ S3.out).mono ?_;rintro e w4 ⟨rfl,hs4,hb4⟩;have S4:=hid hs4;have c4:=hs4.c2;have l4:=hs4.lt;have B4:=hid (B3.out.trans hb4);clear hs4 hb4)|(go_at_call 45;have _u:=S2;refine(HN2.out _ S2.out).mono ?_;rintro e w3 ⟨rfl,hs3,hb3⟩;have S3:=hid hs3;have B3:=hid (B2.out.trans hb3);clear hs3 hb3)|(go_at_call 45;refine(HN.out _ hh.out.1).mono ?_;rintro e w2 ⟨rfl,hs2,hb2⟩;have S2:=hid hs2;have B2:=hid hb2;clear hs2 hb2))
    all_goals go_ret2
    all_goals exact⟨by rw[HV.out];rfl,aA.below hh.out.2.1 hh.out.2.1.size (Nat.le_refl _) B4.out⟩
   ·have HV:=hid (show fbV T=.tuple #[.string TT,.bool true] by rw[h2,<-HTT.out];rfl)
    clear h2;go_wp2_with (first|(go_at_call 46;have _u:=S3;refine(HT2.out _ S3.out).mono ?_;rintro e w4 ⟨rfl,hs4,hb4⟩;have S4:=hid hs4;have c4:=hs4.c2;have l4:=hs4.lt;have B4:=hid (B3.out.trans hb4);clear hs4 hb4)|(go_at_call 45;have _u:=S2;refine(HN2.out _ S2.out).mono ?_;rintro e w3 ⟨rfl,hs3,hb3⟩;have S3:=hid hs3;have B3:=hid (B2.out.trans hb3);clear hs3 hb3)|(go_at_call 45;refine(HN.out _ hh.out.1).mono ?_;rintro e w2 ⟨rfl,hs2,hb2⟩;have S2:=hid hs2;have B2:=hid hb2;clear hs2 hb2))
    all_goals go_ret2
    all_goals exact⟨by rw[HV.out];rfl,aA.below hh.out.2.1 hh.out.2.1.size (Nat.le_refl _) B4.out⟩
   ·have HV:=hid (And.intro h3 h4)
    clear h3 h4;go_wp2_with (first|(go_at_call 46;have _u:=S3;refine(HT2.out _ S3.out).mono ?_;rintro e w4 ⟨rfl,hs4,hb4⟩;have S4:=hid hs4;have c4:=hs4.c2;have l4:=hs4.lt;have B4:=hid (B3.out.trans hb4);clear hs4 hb4)|(go_at_call 45;have _u:=S2;refine(HN2.out _ S2.out).mono ?_;rintro e w3 ⟨rfl,hs3,hb3⟩;have S3:=hid hs3;have B3:=hid (B2.out.trans hb3);clear hs3 hb3)|(go_at_call 45;refine(HN.out _ hh.out.1).mono ?_;rintro e w2 ⟨rfl,hs2,hb2⟩;have S2:=hid hs2;have B2:=hid hb2;clear hs2 hb2))
    all_goals go_roundw
    case rel=>exact⟨tag,r,rfl,htag,hid ⟨S4.out,aA.below hh.out.2.1 hh.out.2.1.size (Nat.le_refl _) B4.out,by have:=hh.out.2.2.1;have:=HLEN.out;omega,HV.out.2⟩⟩
    case measure=>rw[S4.out.size,hh.out.1.size];exact HV.out.1
end
theorem bytesField_i (S:ByteArray) (want:Int) (w:World):Calls Tryz.prog 23 #[.string S,.int .i64 want] w fun e w'=>e=.returned (fbV (Wf.fieldF S.data.toList want))/\Below w.heap.size w w':=by
 by_cases h:S.size<=600
 ·exact field_short S want w h
 ·exact field_long S want w h

def tI (w:UInt8):Prop:=w=91\/w=63\/w=61\/w=82\/w=85
structure gR (what:UInt8) (tag:Nat) (kids:List Wf.V):Prop where
 tag:tag<=999999
 parts:kids≠[]->tI what
 fld:what=61->kids.length=1
mutual
def VC (W:World) (P:Nat->Prop):Wf.V->List Value->Prop
 | .mk what text tag kids,cs=>∃ (a:Option Addr) (c:Nat),cs=[.int .u8 what.toNat,tx text,.int .i64 tag,.slice a kids.length c]/\kids.length<=c/\c<=maxLen/\gR what tag kids/\(kids=[]\/∃ b o,a=some ⟨b,o,none⟩/\P b/\b<W.heap.size/\VCs W P b o kids)
def VCs (W:World) (P:Nat->Prop) (b:Nat):Nat->List Wf.V->Prop
 | _,[]=>True
 | o,v::l=>(∃ cs,VC W P v cs/\∀ j u,cs[j]? = some u->W.cell? ⟨b,o+j,none⟩=some u)/\VCs W P b (o+4) l
end
section
variable {W W':World} {P Q:Nat->Prop}
mutual
theorem VC.keep (hk:∀ b,P b->b<W.heap.size->Q b/\W'.heap[b]? = W.heap[b]?) (hs:W.heap.size<=W'.heap.size):∀ (v:Wf.V) (cs:List Value),VC W P v cs->VC W' Q v cs
 | .mk what text tag kids,cs,h=>by
  simp only[VC] at h ⊢;obtain⟨a,c,h1,h2,h3,h9,h4⟩:=h;refine⟨a,c,h1,h2,h3,h9,?_⟩;rcases h4 with h4|⟨b,o,h5,h6,h7,h8⟩
  ·exact .inl h4
  ·exact .inr ⟨b,o,h5,(hk b h6 h7).1,Nat.lt_of_lt_of_le h7 hs,VCs.keep hk hs b h6 h7 kids o h8⟩
theorem VCs.keep (hk:∀ b,P b->b<W.heap.size->Q b/\W'.heap[b]? = W.heap[b]?) (hs:W.heap.size<=W'.heap.size) (b:Nat) (hp:P b) (hb:b<W.heap.size):∀ (l:List Wf.V) (o:Nat),VCs W P b o l->VCs W' Q b o l
 | [],_,_=>trivial
 | v::l,o,h=>by
  simp only[VCs] at h ⊢;obtain⟨⟨cs,h1,h2⟩,h3⟩:=h;exact⟨⟨cs,VC.keep hk hs v cs h1,fun j u hu=>(World.cell?_of_block (w:=W) (a:=⟨b,o+j,none⟩) (hk b hp hb).2).trans (h2 j u hu)⟩,VCs.keep hk hs b hp hb l (o+4) h3⟩
end
theorem VC.mono {v:Wf.V} {cs:List Value} (h:VC W P v cs) (hk:∀ b,P b->b<W.heap.size->Q b):VC W Q v cs:=VC.keep (fun b h1 h2=>⟨hk b h1 h2,rfl⟩) (Nat.le_refl _) v cs h
theorem VC.below {v:Wf.V} {cs:List Value} (h:VC W P v cs) (hb:Below W.heap.size W W'):VC W' P v cs:=VC.keep (fun b h1 h2=>⟨h1,hb.block b h2⟩) hb.size v cs h
theorem VCs.get {b:Nat}:∀ {l:List Wf.V} {o:Nat},VCs W P b o l->∀ i (hi:i<l.length),∃ cs,VC W P l[i] cs/\∀ j u,cs[j]? = some u->W.cell? ⟨b,o+i*4+j,none⟩=some u:=by
 intro l;induction l with
 | nil=>intro o _ i hi;simp at hi
 | cons v l ih =>
  intro o h i hi;simp only[VCs] at h;cases i with
  | zero =>
   obtain⟨⟨cs,h1,h2⟩,_⟩:=h;exact⟨cs,h1,fun j u hu=>by simpa using h2 j u hu⟩
  | succ i =>
   obtain⟨cs,h1,h2⟩:=ih h.2 i (by simpa using hi);refine⟨cs,h1,fun j u hu=>?_⟩;have:=h2 j u hu;rw[show o+4+i*4+j=o+(i+1)*4+j by omega] at this;exact this
theorem VCs.of {b:Nat}:∀ {l:List Wf.V} {o:Nat},(∀ i (hi:i<l.length),∃ cs,VC W P l[i] cs/\∀ j u,cs[j]? = some u->W.cell? ⟨b,o+i*4+j,none⟩=some u)->VCs W P b o l:=by
 intro l;induction l with
 | nil=>intro o _;trivial
 | cons v l ih =>
  intro o h;simp only[VCs];constructor
  ·obtain⟨cs,h1,h2⟩:=h 0 (by simp)
   exact⟨cs,h1,fun j u hu=>by simpa using h2 j u hu⟩
  ·refine ih fun i hi=>?_
   obtain⟨cs,h1,h2⟩:=h (i+1) (by simpa using hi);refine⟨cs,h1,fun j u hu=>?_⟩;have:=h2 j u hu;rw[show o+(i+1)*4+j=o+4+i*4+j by omega] at this;exact this
theorem VC.form {v:Wf.V} {cs:List Value} (h:VC W P v cs):∃ a c,cs=[.int .u8 v.what.toNat,tx v.text,.int .i64 v.tag,.slice a v.kids.length c]/\v.kids.length<=c/\c<=maxLen/\gR v.what v.tag v.kids/\(v.kids=[]\/∃ b o,a=some ⟨b,o,none⟩/\P b/\b<W.heap.size/\VCs W P b o v.kids):=by
 cases v with
 | mk what text tag kids =>
  simp only[VC] at h;exact h
theorem VC.len {v:Wf.V} {cs:List Value} (h:VC W P v cs):cs.length=4:=by
 obtain⟨a,c,h,_⟩:=h.form;rw[h];rfl
theorem VC.leaf (what:UInt8) (text:List UInt8) (tag:Nat) (ht:tag<=999999) (h61:what≠61):VC W P (.mk what text tag []) [.int .u8 what.toNat,tx text,.int .i64 tag,.slice none 0 0]:=by
 simp only[VC];exact⟨none,0,rfl,Nat.le_refl _,by unfold maxLen;omega,⟨ht,fun h=>absurd rfl h,fun h=>absurd h h61⟩,.inl trivial⟩
theorem VC.row {b:Nat} {a:Option Addr} {n c:Nat} {es:List (List Value)} {l:List Wf.V} (what:UInt8) (text:List UInt8) (tag:Nat) (hs:gR what tag l) (hr:RowK W b (.slice a n c) 4 es) (hp:es=[]\/P b) (hl:es.length=l.length) (hv:∀ i (h1:i<es.length) (h2:i<l.length),VC W P l[i] es[i]):VC W P (.mk what text tag l) [.int .u8 what.toNat,tx text,.int .i64 tag,.slice a n c]:=by
 obtain⟨a',c',e1,h2,h3,h4⟩:=hr;simp only[Value.slice.injEq] at e1;obtain⟨rfl,rfl,rfl⟩:=e1;simp only[VC];refine⟨a,c,by rw[hl],by omega,h3,hs,?_⟩;rcases h4 with h4|⟨o,h5,h6,h7⟩
 ·left
  rw[h4] at hl;exact List.eq_nil_of_length_eq_zero (by simpa using hl.symm)
 ·rcases hp with hp|hp
  ·left
   rw[hp] at hl;exact List.eq_nil_of_length_eq_zero (by simpa using hl.symm)
  right
  refine⟨b,o,h5,hp,h6,VCs.of fun i hi=>?_⟩;have h1:i<es.length:=by omega
  have hvc:=hv i h1 hi;exact⟨es[i],hvc,fun j u hu=>h7 i h1 j u (by have:=(List.getElem?_eq_some_iff.1 hu).1;rw[hvc.len] at this;exact this) hu⟩
end
