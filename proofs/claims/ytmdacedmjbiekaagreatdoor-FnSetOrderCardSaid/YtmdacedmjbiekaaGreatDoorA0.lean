/- Packed. -/
import Derived.WalkKit
import Derived.Lib.UnsafeStr
import Derived.Lib.Hide
import Derived.Test.YtmdacedmjbiekaaGreatDoorRows
import Derived.ProofKit
import Derived.OpenShut
import Derived.BigQuiet
import Derived.WalkSpells
import Derived.Shelf.Strings.SlTrimAscii
import Derived.Shelf.Strings.Prefix
import Derived.Shelf.Strings.Cut
import Derived.Shelf.Strings.Search3
import Derived.Shelf.Strings.Split
import Derived.Shelf.Strings.SplitShaped
import Derived.Shelf.Strings.Shaped
import Derived.Shelf.Small.Wraps
import Derived.Shelf.Strings.OnBuilder
import Derived.KernelRfl
import Derived.Below
import Derived.Test.YtmdacedmjbiekaaGreatDoorChecked
import Derived.Lib.SlTrimSet
set_option maxRecDepth 99999
set_option maxHeartbeats 40000000
set_option linter.all false
namespace Go
open Go.RowKit
variable {P:Program}
theorem bcell {B:Nat} {W w1:World} (hb:Below B W w1):(∀ b o,b<B->w1.cell? ⟨b,o,none⟩=W.cell? ⟨b,o,none⟩)/\(∀ b o,b<B->w1.frozen? ⟨b,o,none⟩=W.frozen? ⟨b,o,none⟩) :=
 ⟨fun b o h=>hb.cell (p:=⟨b,o,none⟩) h,fun b o h=>hb.frozen (p:=⟨b,o,none⟩) h⟩
theorem run_convert_one (src dst e:TypeId) (hs:P.underlying src=some (.slice e)) (he:P.underlying e=some (.int .u8)) (hd:P.underlying dst=some .string) (W:World) (a:Addr) (c:Nat) (m:Int)
  (h:W.cell? a=some (.int .u8 m)):(convert src dst (.slice (some a) 1 c)).run P W=.ok (.string ⟨#[UInt8.ofNat m.toNat]⟩) W:=by
 rw[run_convert_bytes_string W src dst e (some a) 1 c hs he hd];have hl:=run_loadCells_list (P:=P) W a ([m].map (Value.int .u8)) (fun j v hj=>by
  match j,hj with
  | 0,hj=>simp at hj;subst hj;simpa[Addr.add] using h)
 simp only[List.length_map,List.length_cons,List.length_nil] at hl;rw[run_bytesToString W a 1 c [m] hl];rfl
theorem run_convert_lit (src dst e:TypeId) (hs:P.underlying src=some (.slice e)) (he:P.underlying e=some (.int .u8)) (hd:P.underlying dst=some .string) (W:World) (m:Int) (et:TypeId) :
  (convert src dst (.slice (some ⟨W.heap.size,0,none⟩) 1 1)).run P (W.alloc (.cells #[.int .u8 m] et))=.ok (.string ⟨#[UInt8.ofNat m.toNat]⟩) (W.alloc (.cells #[.int .u8 m] et)) :=
 run_convert_one src dst e hs he hd _ _ 1 m (by simp)
theorem below_grown {base:Nat} {w w':World} {e n:Nat} {size:Nat} {v:Value} {xs:List Value} (hown:w.ownsRow base e size v n xs) (hg:w.grownBy w' v.ownBlock) (hb:base<=w.heap.size):Below base w w':=by
 refine(Below.refl base w).grown hg hb fun k hk=>?_;obtain⟨_,h2⟩:=hown;rcases h2 with⟨rfl,_⟩|⟨g,cap,cur,rfl,hg,_⟩
 ·simp[Value.ownBlock] at hk
 ·simp[Value.ownBlock] at hk;omega
theorem wpList_append_one (w:World) {ops:Array Oper} {rest:List Oper} {o:Oper} {a:Act} {Q:Exit->Act->World->Prop} (hgd:o.guard=none) (s x:Operand) (t:TypeId)
  (ho:o.op=.call { callee:=.builtin .append,args:=#[s,x],argTypes:=#[t,t] })
  (base:Nat) (e:TypeId) (i:TypeInfo) (z:Value) (size bytes:Nat) (ht:P.underlying t=some (.slice e)) (hi:P.info? e=some i) (hz:i.zero=some z)
  (hsize:i.size=size) (hby:i.bytes=bytes) (hzs:z.cells.size=size) (hsz:0<size)
  (v:Value) (n:Nat) (xs:List Value) (hs:a.eval s=v) (hown:w.ownsRow base e size v n xs)
  (ad:Addr) (news:List Value) (hx:a.eval x=.slice (some ad) 1 1) (hl:news.length=size) (hnews:∀ j u,news[j]? = some u->w.cell? (ad.add j)=some u) (h1:∀ u∈news,u.oneCell'=true)
  (hbytes:(n+1)*bytes<=140737488355328) (h63:n+1<=140737488355328) (hbase:base<=w.heap.size)
  (h:∀ v' w',w'.ownsRow base e size v' (n+1) (xs++news)->Below base w w'->wpList P ops Q rest (a.put o.dst v') w'):wpList P ops Q (o::rest) a w :=
 wpList_append_own w hgd s x t ho base e i z size bytes ht hi hz hsize hby hzs hsz v n xs hs hown ad 1 1 news hx (by omega) hnews h1 (by unfold maxLen;omega) hbytes hbase
  fun v' w' g1 g2 _=>h v' w' g1 (below_grown hown g2 hbase)
end Go

namespace Go.Proofs.YtmdacedmjbiekaaGreatDoor
open Go.ChangeShapes Go.WideShapes Go.ChangeAt Go.RowKit
theorem uT (rb:Nat) (a:Option Addr) (len cap:Nat) (p n:Int) (w:World) (c0:w.cell? ⟨rb,0,none⟩=some (.slice a len cap)) (c1:w.cell? ⟨rb,1,none⟩=some (.int .i64 p)) (f1:w.frozen? ⟨rb,1,none⟩=false) (hp:0<=p) (hp2:p<=1000000) (hn:n<1):Calls Tryz.prog 44 #[.pointer (some ⟨rb,0,none⟩),.int .i64 n] w fun e w'=>e=.returned (.int .i64 0)/\w.setCell ⟨rb,1,none⟩ (.int .i64 (p+1))=w':=by
 go_enter Tryz.func44,Tryz.ntmps44;go_wp2;go_ret
 exact⟨rfl,rfl⟩
theorem vS (rb:Nat) (a:Option Addr) (cap:Nat) (p n:Int) (w:World) (c0:w.cell? ⟨rb,0,none⟩=some (.slice a 0 cap)) (c1:w.cell? ⟨rb,1,none⟩=some (.int .i64 p)) (f1:w.frozen? ⟨rb,1,none⟩=false) (hp:0<=p) (hp2:p<=1000000) (hn:1<=n):Calls Tryz.prog 44 #[.pointer (some ⟨rb,0,none⟩),.int .i64 n] w fun e w'=>e=.returned (.int .i64 0)/\w.setCell ⟨rb,1,none⟩ (.int .i64 (p+1))=w':=by
 go_enter Tryz.func44,Tryz.ntmps44;go_wp2;go_ret
 exact⟨rfl,rfl⟩
theorem uW (rb b off:Nat) (len cap:Nat) (p n m:Int) (w:World) (c0:w.cell? ⟨rb,0,none⟩=some (.slice (some ⟨b,off,none⟩) len cap)) (c1:w.cell? ⟨rb,1,none⟩=some (.int .i64 p)) (f1:w.frozen? ⟨rb,1,none⟩=false) (hp:0<=p) (hp2:p<=1000000) (hn:1<=n)
  (hl:1<=len) (hl2:len<=2000) (hpl:p<len) (hb:b≠rb) (hm:0<=m) (hm2:m<256) (cb:w.cell? ⟨b,off+p.toNat,none⟩=some (.int .u8 m)):Calls Tryz.prog 44 #[.pointer (some ⟨rb,0,none⟩),.int .i64 n] w fun e w'=>e=.returned (.int .i64 (m % n))/\w.setCell ⟨rb,1,none⟩ (.int .i64 (p+1))=w':=by
 have e1:p+1-1=p:=by omega
 have t0:((len:Int)==0)=false:=by rw[beq_eq_false_iff_ne];omega
 have t1:(decide (n<1) || (len:Int)==0)=false:=by rw[t0,decide_eq_false (by omega)];rfl
 go_enter Tryz.func44,Tryz.ntmps44;go_wp2;go_ret
 exact⟨rfl,rfl⟩
theorem tC (rb b off:Nat) (len cap:Nat) (p n m1 m2 q1 q2 q3:Int) (w:World) (c0:w.cell? ⟨rb,0,none⟩=some (.slice (some ⟨b,off,none⟩) len cap)) (c1:w.cell? ⟨rb,1,none⟩=some (.int .i64 p)) (f1:w.frozen? ⟨rb,1,none⟩=false) (hp:0<=p) (hp2:p<=1000000) (hn:1<=n) (hn2:n<=9223372036854775807)
  (hl:1<=len) (hl2:len<=2000) (hpl:¬ p<len) (hb:b≠rb) (hm:0<=m1) (hm2:m1<256) (hm3:0<=m2) (hm4:m2<256)
  (hq1:p.tmod len=q1) (hq2:(p*7+3).tmod len=q2) (hq3:p.tdiv len=q3) (r1:0<=q1) (r2:q1<len) (r3:0<=q2) (r4:q2<len) (r5:0<=q3) (r6:q3<=1000000)
  (cb1:w.cell? ⟨b,off+q1.toNat,none⟩=some (.int .u8 m1)) (cb2:w.cell? ⟨b,off+q2.toNat,none⟩=some (.int .u8 m2)):Calls Tryz.prog 44 #[.pointer (some ⟨rb,0,none⟩),.int .i64 n] w fun e w'=>e=.returned (.int .i64 ((bits .xor .i64 (m1*131+m2*1117+p*29+q3*53) ((m1*131+m2*1117+p*29+q3*53) / 64)).tmod n))/\∃ k,w'=(w.setCell ⟨rb,1,none⟩ (.int .i64 (p+1))).drewN k:=by
 have e1:p+1-1=p:=by omega
 have t0:((len:Int)==0)=false:=by rw[beq_eq_false_iff_ne];omega
 have t1:(decide (n<1) || (len:Int)==0)=false:=by rw[t0,decide_eq_false (by omega)];rfl
 have z0:¬ (len:Int)=0:=by omega
 have z1:¬ len=0:=by omega
 go_enter Tryz.func44,Tryz.ntmps44;go_wp2;go_quiet (fail)
 go_wp2;go_ret
 exact⟨rfl,_,rfl⟩
theorem nO (n:Nat) (h:n<4611686018427387904):IntKind.i64.wrap (n:Int)=n:=by
 simp[IntKind.wrap,IntKind.bits,IntKind.signed];omega
theorem uU (x:Int) (h0:0<=x) (h1:x<4611686018427387904):0<=bits .xor .i64 x (x / 64):=by
 obtain⟨a,rfl⟩:=Int.eq_ofNat_of_zero_le h0;obtain⟨b,hb⟩:∃ b:Nat,((a:Int) / 64)=b:=⟨a / 64,by omega⟩;rw[hb];have hx:a ^^^ b<2 ^ 62:=Nat.xor_lt_two_pow (by omega) (by omega);have h1':(BitVec.ofInt 64 (a:Int)).toNat=a:=by
  rw[BitVec.ofInt_natCast,BitVec.toNat_ofNat];exact Nat.mod_eq_of_lt (by omega)
 have h2':(BitVec.ofInt 64 (b:Int)).toNat=b:=by
  rw[BitVec.ofInt_natCast,BitVec.toNat_ofNat];exact Nat.mod_eq_of_lt (by omega)
 have:bits .xor .i64 (a:Int) (b:Int)=((a ^^^ b:Nat):Int):=by
  show IntKind.i64.wrap ((BitVec.ofInt 64 (a:Int) ^^^ BitVec.ofInt 64 (b:Int)).toNat:Int)=_;rw[BitVec.toNat_xor,h1',h2',nO _ (by omega)]
 rw[this];omega
structure aA (rb:Nat) (w w':World):Prop where
 os:w'.os=w.os
 tape:w'.tape=w.tape
 output:w'.output=w.output
 size:w.heap.size<=w'.heap.size
 block:∀ k,k<w.heap.size->k≠rb->w'.heap[k]? = w.heap[k]?
theorem aA.refl (rb:Nat) (w:World):aA rb w w:=⟨rfl,rfl,rfl,Nat.le_refl _,fun _ _ _=>rfl⟩
theorem aA.trans {rb:Nat} {a b c:World} (h:aA rb a b) (k:aA rb b c):aA rb a c :=
 ⟨k.os.trans h.os,k.tape.trans h.tape,k.output.trans h.output,Nat.le_trans h.size k.size,fun i hi hr=>(k.block i (Nat.lt_of_lt_of_le hi h.size) hr).trans (h.block i hi hr)⟩
theorem aA.aI {rb B:Nat} {a b:World} (h:Below B a b) (hB:a.heap.size<=B):aA rb a b:=⟨h.os,h.tape,h.output,h.size,fun k hk _=>h.block k (Nat.lt_of_lt_of_le hk hB)⟩
theorem aA.below {rb B:Nat} {a w w':World} (h:Below B a w) (hB:B<=w.heap.size) (hr:B<=rb) (k:aA rb w w'):Below B a w' :=
 ⟨k.os.trans h.os,k.tape.trans h.tape,k.output.trans h.output,Nat.le_trans h.size k.size,fun i hi=>(k.block i (by omega) (by omega)).trans (h.block i hi)⟩
theorem aA.set (rb:Nat) (w:World) (o:Nat) (u:Value):aA rb w (w.setCell ⟨rb,o,none⟩ u):=by
 have h:=Below.setCell (B:=rb) (Below.refl rb w) (p:=⟨rb,o,none⟩) (Nat.le_refl _) u;exact⟨h.os,h.tape,h.output,h.size,fun k _ hr=>Below.heap_setCell w ⟨rb,o,none⟩ u k hr⟩
theorem aA.drewN {rb:Nat} {a w:World} (h:aA rb a w) (n:Nat):aA rb a (w.drewN n):=h.trans ⟨rfl,rfl,rfl,Nat.le_refl _,fun _ _ _=>rfl⟩
theorem aA.drew {rb:Nat} {a w:World} (h:aA rb a w):aA rb a w.drew:=h.trans ⟨rfl,rfl,rfl,Nat.le_refl _,fun _ _ _=>rfl⟩
theorem aA.cell {rb:Nat} {w w':World} (h:aA rb w w') {p:Addr} (hp:p.block<w.heap.size) (hr:p.block≠rb):w'.cell? p=w.cell? p:=World.cell?_of_block (w:=w) (h.block p.block hp hr)
theorem aA.oV {rb:Nat} {w w':World} (h:aA rb w w') {b o:Nat} {v:Value} (hc:w.cell? ⟨b,o,none⟩=some v) (hr:b≠rb):w'.cell? ⟨b,o,none⟩=some v:=by
 have hlt:b<w.heap.size:=by
  rcases Nat.lt_or_ge b w.heap.size with h|h
  ·exact h
  ·simp[World.cell?,Array.getElem?_eq_none h] at hc
 rw[h.cell (p:=⟨b,o,none⟩) hlt hr];exact hc
def Bytes (w:World) (rb:Nat) (a:Option Addr) (len cap:Nat):Prop :=
 len<=cap/\cap<=maxLen/\(len=0\/∃ b off,a=some ⟨b,off,none⟩/\b<rb/\∀ i,i<len->∃ m:Int,0<=m/\m<256/\w.cell? ⟨b,off+i,none⟩=some (.int .u8 m))
def Rd (w:World) (rb k:Nat):Prop:=∃ a len cap,∃ p:Int,Bytes w rb a len cap/\w.cell? ⟨rb,0,none⟩=some (.slice a len cap)/\w.cell? ⟨rb,1,none⟩=some (.int .i64 p)/\w.frozen? ⟨rb,1,none⟩=false/\0<=p/\p<=k/\len<=2000/\rb<w.heap.size
theorem Bytes.keep {w w':World} {rb:Nat} {a:Option Addr} {len cap:Nat} (h:Bytes w rb a len cap) (hk:∀ b o v,b<rb->w.cell? ⟨b,o,none⟩=some v->w'.cell? ⟨b,o,none⟩=some v):Bytes w' rb a len cap:=by
 obtain⟨h1,h2,h|⟨b,off,ha,hb,hc⟩⟩:=h
 ·exact⟨h1,h2,.inl h⟩
 ·refine⟨h1,h2,.inr ⟨b,off,ha,hb,fun i hi=>?_⟩⟩
  obtain⟨m,m1,m2,m3⟩:=hc i hi;exact⟨m,m1,m2,hk _ _ _ hb m3⟩
theorem Rd.mono {w:World} {rb k k':Nat} (h:Rd w rb k) (hk:k<=k'):Rd w rb k':=by
 obtain⟨a,len,cap,p,h1,h2,h3,h4,h5,h6,h7,h8⟩:=h;exact⟨a,len,cap,p,h1,h2,h3,h4,h5,by omega,h7,h8⟩
theorem Rd.below {w w':World} {rb k B:Nat} (h:Rd w rb k) (hb:Below B w w') (hB:rb<B):Rd w' rb k:=by
 obtain⟨a,len,cap,p,h1,h2,h3,h4,h5,h6,h7,h8⟩:=h;refine⟨a,len,cap,p,h1.keep fun b o v hbr hc=>?_,?_,?_,?_,h5,h6,h7,Nat.lt_of_lt_of_le h8 hb.size⟩
 ·rw[hb.cell (p:=⟨b,o,none⟩) (Nat.lt_trans hbr hB)];exact hc
 ·rw[hb.cell (p:=⟨rb,0,none⟩) hB];exact h2
 ·rw[hb.cell (p:=⟨rb,1,none⟩) hB];exact h3
 ·rw[hb.frozen (p:=⟨rb,1,none⟩) hB];exact h4
theorem Rd.drewN {w:World} {rb k:Nat} (h:Rd w rb k) (n:Nat):Rd (w.drewN n) rb k:=h.below (B:=rb+1) ⟨rfl,rfl,rfl,Nat.le_refl _,fun _ _=>rfl⟩ (by omega)
theorem Rd.step {w:World} {rb:Nat} {a:Option Addr} {len cap:Nat} {p:Int} {k:Nat} (h1:Bytes w rb a len cap) (h2:w.cell? ⟨rb,0,none⟩=some (.slice a len cap)) (h3:w.cell? ⟨rb,1,none⟩=some (.int .i64 p)) (h4:w.frozen? ⟨rb,1,none⟩=false) (h5:0<=p) (h6:p<=k) (h7:len<=2000) (h8:rb<w.heap.size):Rd (w.setCell ⟨rb,1,none⟩ (.int .i64 (p+1))) rb (k+1):=by
 have hbs:=aA.set rb w 1 (.int .i64 (p+1));refine⟨a,len,cap,p+1,h1.keep fun b o v hbr hc=>hbs.oV hc (by omega),?_,?_,?_,by omega,by omega,h7,Nat.lt_of_lt_of_le h8 hbs.size⟩
 ·exact(World.cell?_setCell_other w _ _ _ (by simp)).trans h2
 ·exact World.cell?_setCell_same w _ _ h3
 ·simp[h4]
theorem pick (rb k:Nat) (n:Int) (w:World) (H:Rd w rb k) (hk:k<=1000000) (hn:n<=9223372036854775807) :
  Calls Tryz.prog 44 #[.pointer (some ⟨rb,0,none⟩),.int .i64 n] w fun e w'=>∃ v:Int,e=.returned (.int .i64 v)/\(1<=n->0<=v/\v<n)/\(n<1->v=0)/\Rd w' rb (k+1)/\aA rb w w':=by
 obtain⟨a,len,cap,p,h1,h2,h3,h4,h5,h6,h7,h8⟩:=H;have R:=Rd.step h1 h2 h3 h4 h5 h6 h7 h8;have Bs:=aA.set rb w 1 (.int .i64 (p+1));rcases Int.lt_or_le n 1 with hn1|hn1
 ·refine(uT rb a len cap p n w h2 h3 h4 h5 (by omega) hn1).mono ?_
  rintro e w' ⟨rfl,rfl⟩;exact⟨0,rfl,fun h=>by omega,fun _=>rfl,R,Bs⟩
 ·by_cases hl:len=0
  ·subst hl
   refine(vS rb a cap p n w h2 h3 h4 h5 (by omega) hn1).mono ?_;rintro e w' ⟨rfl,rfl⟩;exact⟨0,rfl,fun h=>by omega,fun h=>by omega,R,Bs⟩
  ·obtain⟨l1,l2,h0|⟨b,off,rfl,hb,hc⟩⟩:=h1
   ·exact absurd h0 hl
   ·by_cases hpl:p<len
    ·obtain⟨m,m1,m2,m3⟩:=hc p.toNat (by omega)
     refine(uW rb b off len cap p n m w h2 h3 h4 h5 (by omega) hn1 (by omega) h7 hpl (by omega) m1 m2 m3).mono ?_;rintro e w' ⟨rfl,rfl⟩;exact⟨_,rfl,fun h=>⟨Int.emod_nonneg _ (by omega),Int.emod_lt_of_pos _ (by omega)⟩,fun h=>by omega,R,Bs⟩
    ·have hlp:(0:Int)<len:=by omega
     have q1:p.tmod len=p % len:=Int.tmod_eq_emod_of_nonneg h5;have q2:(p*7+3).tmod len=(p*7+3) % len:=Int.tmod_eq_emod_of_nonneg (by omega);have q3:p.tdiv len=p / len:=Int.tdiv_eq_ediv_of_nonneg h5;have a1:=Int.emod_nonneg p (b:=len) (by omega);have a2:=Int.emod_lt_of_pos p hlp;have a3:=Int.emod_nonneg (p*7+3) (b:=len) (by omega);have a4:=Int.emod_lt_of_pos (p*7+3) hlp;have a5:0<=p / len:=Int.ediv_nonneg h5 (by omega);have a6:p / len<=p:=Int.ediv_le_self _ h5;obtain⟨m,m1,m2,m3⟩:=hc (p % len).toNat (by omega);obtain⟨m',m1',m2',m3'⟩:=hc ((p*7+3) % len).toNat (by omega);refine(tC rb b off len cap p n m m' (p % len) ((p*7+3) % len) (p / len) w h2 h3 h4 h5 (by omega) hn1 hn (by omega) h7 hpl (by omega) m1 m2 m1' m2' q1 q2 q3 a1 a2 a3 a4 a5 (by omega) m3 m3').mono ?_;rintro e w' ⟨rfl,k1,rfl⟩;exact⟨_,rfl,fun h=>⟨Int.tmod_nonneg _ (uU _ (by omega) (by omega)),Int.tmod_lt_of_pos _ (by omega)⟩,fun h=>by omega,R.drewN _,Bs.drewN _⟩
theorem a4L (w:World) (a:Option Addr) (len cap:Nat) (hl:len<=2000):Calls Tryz.prog 41 #[.slice a len cap] w fun e w'=>e=.returned (.pointer (some ⟨w.heap.size,0,none⟩))/\w.alloc (.cells #[.slice a len cap,.int .i64 0] 137)=w':=by
 go_enter Tryz.func41,Tryz.ntmps41;go_wp2;go_ret
 exact⟨rfl,rfl⟩
theorem wL (w:World) (b off:Nat) (len cap:Nat) (hl:2000<len) (hl2:len<=cap) (hc:cap<=maxLen):Calls Tryz.prog 41 #[.slice (some ⟨b,off,none⟩) len cap] w fun e w'=>e=.returned (.pointer (some ⟨w.heap.size,0,none⟩))/\w.alloc (.cells #[.slice (some ⟨b,off,none⟩) 2000 cap,.int .i64 0] 137)=w':=by
 go_enter Tryz.func41,Tryz.ntmps41;go_wp2;go_ret
 exact⟨rfl,rfl⟩
theorem Rd.alloc {w:World} {rb k:Nat} (h:Rd w rb k) (o:Obj):Rd (w.alloc o) rb k:=by
 have h8:rb<w.heap.size:=by obtain⟨a,len,cap,p,h1,h2,h3,h4,h5,h6,h7,h8⟩:=h;exact h8
 exact h.below (B:=rb+1) (Below.alloc (Below.refl _ _) (by omega) o) (by omega)
theorem Rd.lt {w:World} {rb k:Nat} (h:Rd w rb k):rb<w.heap.size:=by obtain⟨a,len,cap,p,h1,h2,h3,h4,h5,h6,h7,h8⟩:=h;exact h8
theorem aA.alloc {rb:Nat} {a w:World} (h:aA rb a w) (o:Obj):aA rb a (w.alloc o):=h.trans (aA.aI (B:=w.heap.size) (Below.alloc (Below.refl _ _) (Nat.le_refl _) o) (Nat.le_refl _))
theorem oJ {w:World} {a:Option Addr} {len cap:Nat} {zs:List Int} (h:(a=none/\len=0/\cap=0/\zs=[]) \/
 ∃ x,a=some x/\len<=cap/\cap<=maxLen/\zs.length=cap/\(∀ i,i<zs.length->w.cell? (x.add i)=some (.int .u8 (zs.getD i 0)))/\∀ n∈zs,(Lit.int .u8 n).wf=true):Bytes w w.heap.size a len cap:=by
 rcases h with⟨rfl,rfl,rfl,_⟩|⟨x,rfl,h1,h2,h3,h4,h5⟩
 ·exact⟨Nat.le_refl _,by unfold maxLen;omega,.inl rfl⟩
 ·refine⟨h1,h2,?_⟩
  rcases Nat.eq_zero_or_pos len with h0|h0
  ·exact .inl h0
  ·have hx:=h4 0 (by omega)
   simp only[Addr.add,if_true] at hx;obtain⟨b,off,spot⟩:=x;have hb:b<w.heap.size:=by
    rcases Nat.lt_or_ge b w.heap.size with h|h
    ·exact h
    ·simp[World.cell?,Array.getElem?_eq_none h] at hx
   have hs:spot=none:=by
    simp only[World.cell?] at hx;split at hx
    ·cases spot with
     | none=>rfl
     | some y=>simp at hx
    ·cases hx
   subst hs;refine .inr ⟨b,off,rfl,hb,fun i hi=>?_⟩;have hc:=h4 i (by omega);have ha:(Addr.add ⟨b,off,none⟩ i)=⟨b,off+i,none⟩:=(by simp[Addr.add];try (intro h;omega));rw[ha] at hc;have hw:=h5 (zs.getD i 0) (by rw[List.getD_eq_getElem?_getD,List.getElem?_eq_getElem (show i<zs.length by omega),Option.getD_some];exact List.getElem_mem _);simp only[Lit.wf,Bool.and_eq_true,decide_eq_true_eq] at hw;have hmin:IntKind.u8.min=0:=rfl;have hmax:IntKind.u8.max=255:=rfl;rw[hmin,hmax] at hw;exact⟨_,hw.1,by omega,hc⟩
theorem Rd.fresh {w:World} {a:Option Addr} {len cap len':Nat} (h:Bytes w w.heap.size a len cap) (hl:len'<=len) (hl2:len'<=2000):Rd (w.alloc (.cells #[.slice a len' cap,.int .i64 0] 137)) w.heap.size 0:=by
 obtain⟨h1,h2,h3⟩:=h;have hb:Bytes w w.heap.size a len' cap:=by
  refine⟨by omega,h2,?_⟩;rcases h3 with h3|⟨b,off,ha,hb,hc⟩
  ·exact .inl (by omega)
  ·exact .inr ⟨b,off,ha,hb,fun i hi=>hc i (by omega)⟩
 refine⟨a,len',cap,0,hb.keep fun b o v hbr hc=>?_,?_,?_,?_,Int.le_refl _,by simp,hl2,by simp⟩
 ·rw[World.cell?_alloc_lt w _ _ hbr];exact hc
 ·simp
 ·simp
 ·simp
theorem a7D (w:World) (a:Option Addr) (len cap:Nat) (h:Bytes w w.heap.size a len cap):Calls Tryz.prog 41 #[.slice a len cap] w fun e w'=>∃ rb,e=.returned (.pointer (some ⟨rb,0,none⟩))/\w.heap.size<=rb/\Rd w' rb 0/\Below w.heap.size w w':=by
 rcases Nat.lt_or_ge 2000 len with hl|hl
 ·have h':=h
  obtain⟨h1,h2,h3|⟨b,off,rfl,hb,hc⟩⟩:=h
  ·omega
  ·refine(wL w b off len cap hl h1 h2).mono ?_
   rintro e w' ⟨rfl,rfl⟩;exact⟨_,rfl,Nat.le_refl _,Rd.fresh h' (by omega) (Nat.le_refl _),Below.alloc (Below.refl _ _) (Nat.le_refl _) _⟩
 ·refine(a4L w a len cap hl).mono ?_
  rintro e w' ⟨rfl,rfl⟩;exact⟨_,rfl,Nat.le_refl _,Rd.fresh h (Nat.le_refl _) hl,Below.alloc (Below.refl _ _) (Nat.le_refl _) _⟩
end Go.Proofs.YtmdacedmjbiekaaGreatDoor

namespace Go.Proofs
open Go.Shelf
def Tryz.lays156_ren:Go.Shelf.Ren:=⟨fun|156=>93|165=>129|166=>130|169=>131|240=>167|241=>168|276=>186|277=>187|n=>n,fun|31=>22|9=>9|3=>3|4=>4|0=>0|20=>20|72=>178|76=>182|70=>176|37=>28|75=>181|127=>210|164=>223|5=>5|80=>78|n=>n,fun|n=>n⟩
theorem Tryz.lays156:Go.Proofs.Lays.n156 Tryz.prog Tryz.lays156_ren:={
 mixed:=by kernel_rfl
 f156:=Tryz.func93.trans (congrArg some (by kernel_rfl))
 f165:=Tryz.func129.trans (congrArg some (by kernel_rfl))
 f166:=Tryz.func130.trans (congrArg some (by kernel_rfl))
 f169:=Tryz.func131.trans (congrArg some (by kernel_rfl))
 f240:=Tryz.func167.trans (congrArg some (by kernel_rfl))
 f241:=Tryz.func168.trans (congrArg some (by kernel_rfl))
 f276:=Tryz.func186.trans (congrArg some (by kernel_rfl))
 f277:=Tryz.func187.trans (congrArg some (by kernel_rfl))
 t0:=Tryz.underlying0
 a0:=Tryz.isAgg0
 z0:=Tryz.sizeOf0
 v0:=Tryz.zeroValue0
 t3:=Tryz.underlying3
 a3:=Tryz.isAgg3
 z3:=Tryz.sizeOf3
 v3:=Tryz.zeroValue3
 t4:=Tryz.underlying4
 a4:=Tryz.isAgg4
 z4:=Tryz.sizeOf4
 v4:=Tryz.zeroValue4
 t9:=Tryz.underlying9
 a9:=Tryz.isAgg9
 z9:=Tryz.sizeOf9
 v9:=Tryz.zeroValue9
 t20:=Tryz.underlying20
 a20:=Tryz.isAgg20
 z20:=Tryz.sizeOf20
 v20:=Tryz.zeroValue20
 t31:=Tryz.underlying22
 a31:=Tryz.isAgg22
 z31:=Tryz.sizeOf22
 v31:=Tryz.zeroValue22
 t37:=Tryz.underlying28
 a37:=Tryz.isAgg28
 z37:=Tryz.sizeOf28
 v37:=Tryz.zeroValue28
 t70:=Tryz.underlying176
 a70:=Tryz.isAgg176
 z70:=Tryz.sizeOf176
 v70:=Tryz.zeroValue176
 t72:=Tryz.underlying178
 a72:=Tryz.isAgg178
 z72:=Tryz.sizeOf178
 v72:=Tryz.zeroValue178
 t75:=Tryz.underlying181
 a75:=Tryz.isAgg181
 z75:=Tryz.sizeOf181
 v75:=Tryz.zeroValue181
 t76:=Tryz.underlying182
 a76:=Tryz.isAgg182
 z76:=Tryz.sizeOf182
 v76:=Tryz.zeroValue182
 t127:=Tryz.underlying210
 a127:=Tryz.isAgg210
 z127:=Tryz.sizeOf210
 v127:=Tryz.zeroValue210
 t164:=Tryz.underlying223
 a164:=Tryz.isAgg223
 z164:=Tryz.sizeOf223
 v164:=Tryz.zeroValue223 }
theorem Tryz.Builder_Extra_156:Builder.Extra Tryz.prog Tryz.lays156_ren:={
 sizeBuilder:=by kernel_rfl
 liesBuilder:=by kernel_rfl
 t5:=Tryz.underlying5
 a5:=Tryz.isAgg5
 z5:=Tryz.sizeOf5
 v5:=Tryz.zeroValue5
 infoByte:=by kernel_rfl
 cellsByte:=by kernel_rfl
 sizeByte:=by kernel_rfl
 neB5:=by decide }
open Go.RowKit in
theorem Tryz.strings_Join_none (a:Option Addr) (c:Nat) (sep:ByteArray) (w:World) :
  Calls Tryz.prog 93 #[.slice a 0 c,.string sep] w fun e w'=>e=.returned (.string ⟨#[]⟩)/\w'=w:=Any.strings_Join_none Tryz.lays156 Tryz.Builder_Extra_156 a c sep w
open Go.RowKit in
theorem Tryz.strings_Join (bk o c:Nat) (xs:List ByteArray) (sep:ByteArray) (w:World) (hcells:∀ (j:Nat) x,xs[j]? = some x->w.cell? ⟨bk,o+j,none⟩=some (.string x)) (hbk:bk<w.heap.size) (hN:xs.length<=140737488355328) (hcap:xs.length<=c) (hlen:(Lib.join (xs.map (·.data.toList)) sep.data.toList).length<=140737488355328) :
  Calls Tryz.prog 93 #[.slice (some ⟨bk,o,none⟩) xs.length c,.string sep] w fun e w'=>e=.returned (.string ⟨(Lib.join (xs.map (·.data.toList)) sep.data.toList).toArray⟩)/\Below w.heap.size w w':=Any.strings_Join Tryz.lays156 Tryz.Builder_Extra_156 bk o c xs sep w hcells hbk hN hcap hlen
def Tryz.lays161_ren:Go.Shelf.Ren:=⟨fun|161=>105|231=>149|227=>150|233=>151|235=>152|228=>172|197=>173|151=>174|260=>189|152=>190|137=>196|119=>197|224=>181|225=>180|217=>179|266=>192|n=>n,fun|9=>9|4=>4|3=>3|5=>5|117=>198|116=>197|0=>0|124=>201|105=>215|21=>21|119=>229|46=>135|139=>232|138=>231|n=>n,fun|3=>1|4=>2|n=>n⟩
theorem Tryz.lays161:Go.Proofs.Lays.n161 Tryz.prog Tryz.lays161_ren:={
 mixed:=by kernel_rfl
 f119:=Tryz.func197.trans (congrArg some (by kernel_rfl))
 f137:=Tryz.func196.trans (congrArg some (by kernel_rfl))
 f151:=Tryz.func174.trans (congrArg some (by kernel_rfl))
 f152:=Tryz.func190.trans (congrArg some (by kernel_rfl))
 f161:=Tryz.func105.trans (congrArg some (by kernel_rfl))
 f197:=Tryz.func173.trans (congrArg some (by kernel_rfl))
 f217:=Tryz.func179.trans (congrArg some (by kernel_rfl))
 f224:=Tryz.func181.trans (congrArg some (by kernel_rfl))
 f225:=Tryz.func180.trans (congrArg some (by kernel_rfl))
 f227:=Tryz.func150.trans (congrArg some (by kernel_rfl))
 f228:=Tryz.func172.trans (congrArg some (by kernel_rfl))
 f231:=Tryz.func149.trans (congrArg some (by kernel_rfl))
 f233:=Tryz.func151.trans (congrArg some (by kernel_rfl))
 f235:=Tryz.func152.trans (congrArg some (by kernel_rfl))
 f260:=Tryz.func189.trans (congrArg some (by kernel_rfl))
 f266:=Tryz.func192.trans (congrArg some (by kernel_rfl))
 t0:=Tryz.underlying0
 a0:=Tryz.isAgg0
 z0:=Tryz.sizeOf0
 v0:=Tryz.zeroValue0
 t3:=Tryz.underlying3
 a3:=Tryz.isAgg3
 z3:=Tryz.sizeOf3
 v3:=Tryz.zeroValue3
 t4:=Tryz.underlying4
 a4:=Tryz.isAgg4
 z4:=Tryz.sizeOf4
 v4:=Tryz.zeroValue4
 t5:=Tryz.underlying5
 a5:=Tryz.isAgg5
 z5:=Tryz.sizeOf5
 v5:=Tryz.zeroValue5
 t9:=Tryz.underlying9
 a9:=Tryz.isAgg9
 z9:=Tryz.sizeOf9
 v9:=Tryz.zeroValue9
 t21:=Tryz.underlying21
 a21:=Tryz.isAgg21
 z21:=Tryz.sizeOf21
 v21:=Tryz.zeroValue21
 t46:=Tryz.underlying135
 a46:=Tryz.isAgg135
 z46:=Tryz.sizeOf135
 v46:=Tryz.zeroValue135
 t105:=Tryz.underlying215
 a105:=Tryz.isAgg215
 z105:=Tryz.sizeOf215
 v105:=Tryz.zeroValue215
 t116:=Tryz.underlying197
 a116:=Tryz.isAgg197
 z116:=Tryz.sizeOf197
 t117:=Tryz.underlying198
 a117:=Tryz.isAgg198
 z117:=Tryz.sizeOf198
 v117:=Tryz.zeroValue198
 t119:=Tryz.underlying229
 a119:=Tryz.isAgg229
 z119:=Tryz.sizeOf229
 t124:=Tryz.underlying201
 a124:=Tryz.isAgg201
 z124:=Tryz.sizeOf201
 v124:=Tryz.zeroValue201
 t138:=Tryz.underlying231
 a138:=Tryz.isAgg231
 z138:=Tryz.sizeOf231
 v138:=Tryz.zeroValue231
 t139:=Tryz.underlying232
 a139:=Tryz.isAgg232
 z139:=Tryz.sizeOf232
 v139:=Tryz.zeroValue232
 g3:=by kernel_rfl
 g4:=by kernel_rfl }
def Tryz.lays160_ren:Go.Shelf.Ren:=⟨fun|160=>155|232=>175|231=>149|227=>150|234=>176|233=>151|236=>177|235=>152|228=>172|271=>191|151=>174|197=>173|120=>198|152=>190|260=>189|137=>196|119=>197|224=>181|225=>180|217=>179|266=>192|n=>n,fun|9=>9|4=>4|3=>3|5=>5|117=>198|116=>197|0=>0|124=>201|21=>21|105=>215|46=>135|119=>229|139=>232|138=>231|n=>n,fun|3=>1|4=>2|n=>n⟩
theorem Tryz.lays160:Go.Proofs.Lays.n160 Tryz.prog Tryz.lays160_ren:={
 mixed:=by kernel_rfl
 f119:=Tryz.func197.trans (congrArg some (by kernel_rfl))
 f120:=Tryz.func198.trans (congrArg some (by kernel_rfl))
 f137:=Tryz.func196.trans (congrArg some (by kernel_rfl))
 f151:=Tryz.func174.trans (congrArg some (by kernel_rfl))
 f152:=Tryz.func190.trans (congrArg some (by kernel_rfl))
 f160:=Tryz.func155.trans (congrArg some (by kernel_rfl))
 f197:=Tryz.func173.trans (congrArg some (by kernel_rfl))
 f217:=Tryz.func179.trans (congrArg some (by kernel_rfl))
 f224:=Tryz.func181.trans (congrArg some (by kernel_rfl))
 f225:=Tryz.func180.trans (congrArg some (by kernel_rfl))
 f227:=Tryz.func150.trans (congrArg some (by kernel_rfl))
 f228:=Tryz.func172.trans (congrArg some (by kernel_rfl))
 f231:=Tryz.func149.trans (congrArg some (by kernel_rfl))
 f232:=Tryz.func175.trans (congrArg some (by kernel_rfl))
 f233:=Tryz.func151.trans (congrArg some (by kernel_rfl))
 f234:=Tryz.func176.trans (congrArg some (by kernel_rfl))
 f235:=Tryz.func152.trans (congrArg some (by kernel_rfl))
 f236:=Tryz.func177.trans (congrArg some (by kernel_rfl))
 f260:=Tryz.func189.trans (congrArg some (by kernel_rfl))
 f266:=Tryz.func192.trans (congrArg some (by kernel_rfl))
 f271:=Tryz.func191.trans (congrArg some (by kernel_rfl))
 t0:=Tryz.underlying0
 a0:=Tryz.isAgg0
 z0:=Tryz.sizeOf0
 v0:=Tryz.zeroValue0
 t3:=Tryz.underlying3
 a3:=Tryz.isAgg3
 z3:=Tryz.sizeOf3
 v3:=Tryz.zeroValue3
 t4:=Tryz.underlying4
 a4:=Tryz.isAgg4
 z4:=Tryz.sizeOf4
 v4:=Tryz.zeroValue4
 t5:=Tryz.underlying5
 a5:=Tryz.isAgg5
 z5:=Tryz.sizeOf5
 v5:=Tryz.zeroValue5
 t9:=Tryz.underlying9
 a9:=Tryz.isAgg9
 z9:=Tryz.sizeOf9
 v9:=Tryz.zeroValue9
 t21:=Tryz.underlying21
 a21:=Tryz.isAgg21
 z21:=Tryz.sizeOf21
 v21:=Tryz.zeroValue21
 t46:=Tryz.underlying135
 a46:=Tryz.isAgg135
 z46:=Tryz.sizeOf135
 v46:=Tryz.zeroValue135
 t105:=Tryz.underlying215
 a105:=Tryz.isAgg215
 z105:=Tryz.sizeOf215
 v105:=Tryz.zeroValue215
 t116:=Tryz.underlying197
 a116:=Tryz.isAgg197
 z116:=Tryz.sizeOf197
 t117:=Tryz.underlying198
 a117:=Tryz.isAgg198
 z117:=Tryz.sizeOf198
 v117:=Tryz.zeroValue198
 t119:=Tryz.underlying229
 a119:=Tryz.isAgg229
 z119:=Tryz.sizeOf229
 t124:=Tryz.underlying201
 a124:=Tryz.isAgg201
 z124:=Tryz.sizeOf201
 v124:=Tryz.zeroValue201
 t138:=Tryz.underlying231
 a138:=Tryz.isAgg231
 z138:=Tryz.sizeOf231
 v138:=Tryz.zeroValue231
 t139:=Tryz.underlying232
 a139:=Tryz.isAgg232
 z139:=Tryz.sizeOf232
 v139:=Tryz.zeroValue232
 g3:=by kernel_rfl
 g4:=by kernel_rfl }
def Tryz.lays103_ren:Go.Shelf.Ren:=⟨fun|103=>169|210=>188|206=>153|n=>n,fun|9=>9|4=>4|24=>38|3=>3|n=>n,fun|n=>n⟩
theorem Tryz.lays103:Go.Proofs.Lays.n103 Tryz.prog Tryz.lays103_ren:={
 mixed:=by kernel_rfl
 f103:=Tryz.func169.trans (congrArg some (by kernel_rfl))
 f206:=Tryz.func153.trans (congrArg some (by kernel_rfl))
 f210:=Tryz.func188.trans (congrArg some (by kernel_rfl))
 t3:=Tryz.underlying3
 a3:=Tryz.isAgg3
 z3:=Tryz.sizeOf3
 v3:=Tryz.zeroValue3
 t4:=Tryz.underlying4
 a4:=Tryz.isAgg4
 z4:=Tryz.sizeOf4
 v4:=Tryz.zeroValue4
 t9:=Tryz.underlying9
 a9:=Tryz.isAgg9
 z9:=Tryz.sizeOf9
 v9:=Tryz.zeroValue9
 t24:=Tryz.underlying38
 a24:=Tryz.isAgg38
 z24:=Tryz.sizeOf38
 v24:=Tryz.zeroValue38 }
open Go.RowKit in
theorem Tryz.strings_CutPrefix (s p:ByteArray) (w:World) :
  Calls Tryz.prog 169 #[.string s,.string p] w fun e w'=>e=.returned (.tuple #[.string ⟨(Lib.trimPrefix s.data.toList p.data.toList).toArray⟩,.bool (Lib.hasPrefix s.data.toList p.data.toList)])/\w'=w:=Any.strings_CutPrefix Tryz.lays103 s p w
def Tryz.lays144_ren:Go.Shelf.Ren:=⟨fun|144=>126|143=>163|219=>162|217=>179|225=>180|224=>181|267=>182|266=>192|314=>193|n=>n,fun|9=>9|4=>4|3=>3|5=>5|46=>135|146=>227|51=>168|n=>n,fun|1=>0|n=>n⟩
theorem Tryz.lays144:Go.Proofs.Lays.n144 Tryz.prog Tryz.lays144_ren:={
 mixed:=by kernel_rfl
 f143:=Tryz.func163.trans (congrArg some (by kernel_rfl))
 f144:=Tryz.func126.trans (congrArg some (by kernel_rfl))
 f217:=Tryz.func179.trans (congrArg some (by kernel_rfl))
 f219:=Tryz.func162.trans (congrArg some (by kernel_rfl))
 f224:=Tryz.func181.trans (congrArg some (by kernel_rfl))
 f225:=Tryz.func180.trans (congrArg some (by kernel_rfl))
 f266:=Tryz.func192.trans (congrArg some (by kernel_rfl))
 f267:=Tryz.func182.trans (congrArg some (by kernel_rfl))
 f314:=Tryz.func193.trans (congrArg some (by kernel_rfl))
 t3:=Tryz.underlying3
 a3:=Tryz.isAgg3
 z3:=Tryz.sizeOf3
 v3:=Tryz.zeroValue3
 t4:=Tryz.underlying4
 a4:=Tryz.isAgg4
 z4:=Tryz.sizeOf4
 v4:=Tryz.zeroValue4
 t5:=Tryz.underlying5
 a5:=Tryz.isAgg5
 z5:=Tryz.sizeOf5
 v5:=Tryz.zeroValue5
 t9:=Tryz.underlying9
 a9:=Tryz.isAgg9
 z9:=Tryz.sizeOf9
 v9:=Tryz.zeroValue9
 t46:=Tryz.underlying135
 a46:=Tryz.isAgg135
 z46:=Tryz.sizeOf135
 v46:=Tryz.zeroValue135
 t51:=Tryz.underlying168
 a51:=Tryz.isAgg168
 z51:=Tryz.sizeOf168
 v51:=Tryz.zeroValue168
 t146:=Tryz.underlying227
 a146:=Tryz.isAgg227
 z146:=Tryz.sizeOf227
 v146:=Tryz.zeroValue227
 g1:=by kernel_rfl }
open Go.RowKit Go.Lib in
theorem Tryz.strings_Contains_one (s:ByteArray) (c:UInt8) (w:World) :
  Calls Tryz.prog 126 #[.string s,.string ⟨#[c]⟩] w fun e w'=>e=.returned (.bool (decide (0<=Lib.indexByte s.data.toList c)))/\w'=w:=Any.strings_Contains_one Tryz.lays144 s c w
open Go.RowKit Go.Lib in
def Tryz.lays145_ren:Go.Shelf.Ren:=⟨fun|145=>90|220=>125|219=>162|217=>179|225=>180|224=>181|267=>182|266=>192|314=>193|n=>n,fun|9=>9|4=>4|59=>145|3=>3|5=>5|46=>135|146=>227|51=>168|n=>n,fun|1=>0|n=>n⟩
theorem Tryz.lays145:Go.Proofs.Lays.n145 Tryz.prog Tryz.lays145_ren:={
 mixed:=by kernel_rfl
 f145:=Tryz.func90.trans (congrArg some (by kernel_rfl))
 f217:=Tryz.func179.trans (congrArg some (by kernel_rfl))
 f219:=Tryz.func162.trans (congrArg some (by kernel_rfl))
 f220:=Tryz.func125.trans (congrArg some (by kernel_rfl))
 f224:=Tryz.func181.trans (congrArg some (by kernel_rfl))
 f225:=Tryz.func180.trans (congrArg some (by kernel_rfl))
 f266:=Tryz.func192.trans (congrArg some (by kernel_rfl))
 f267:=Tryz.func182.trans (congrArg some (by kernel_rfl))
 f314:=Tryz.func193.trans (congrArg some (by kernel_rfl))
 t3:=Tryz.underlying3
 a3:=Tryz.isAgg3
 z3:=Tryz.sizeOf3
 v3:=Tryz.zeroValue3
 t4:=Tryz.underlying4
 a4:=Tryz.isAgg4
 z4:=Tryz.sizeOf4
 v4:=Tryz.zeroValue4
 t5:=Tryz.underlying5
 a5:=Tryz.isAgg5
 z5:=Tryz.sizeOf5
 v5:=Tryz.zeroValue5
 t9:=Tryz.underlying9
 a9:=Tryz.isAgg9
 z9:=Tryz.sizeOf9
 v9:=Tryz.zeroValue9
 t46:=Tryz.underlying135
 a46:=Tryz.isAgg135
 z46:=Tryz.sizeOf135
 v46:=Tryz.zeroValue135
 t51:=Tryz.underlying168
 a51:=Tryz.isAgg168
 z51:=Tryz.sizeOf168
 v51:=Tryz.zeroValue168
 t59:=Tryz.underlying145
 a59:=Tryz.isAgg145
 z59:=Tryz.sizeOf145
 v59:=Tryz.zeroValue145
 t146:=Tryz.underlying227
 a146:=Tryz.isAgg227
 z146:=Tryz.sizeOf227
 v146:=Tryz.zeroValue227
 g1:=by kernel_rfl }
open Go.RowKit Go.Lib in
theorem Tryz.strings_Cut (s sep:ByteArray) (m:Int) (w:World) (hs:s.size<4294967281) (hm:w.cell? ⟨0,0,none⟩=some (.int .i64 m)) :
  Calls Tryz.prog 90 #[.string s,.string sep] w fun e w'=>e=.returned (.tuple #[.string ⟨(Lib.cut s.data.toList sep.data.toList).1.toArray⟩,.string ⟨(Lib.cut s.data.toList sep.data.toList).2.1.toArray⟩,.bool (Lib.cut s.data.toList sep.data.toList).2.2])/\∃ n,w'=w.drewN n:=Any.strings_Cut Tryz.lays145 s sep m w hs hm
def Tryz.laysM145_ren:Go.Shelf.Ren:=⟨fun|145=>90|220=>125|219=>162|217=>179|225=>180|224=>181|267=>182|266=>192|314=>193|n=>n,fun|9=>9|4=>4|59=>145|3=>3|5=>5|46=>135|146=>227|51=>168|n=>n,fun|1=>0|n=>n⟩
theorem Tryz.laysM145:Go.Proofs.LaysM.n145 Tryz.prog Tryz.laysM145_ren:={
 mixed:=by kernel_rfl
 f145:=Tryz.func90.trans (congrArg some (by kernel_rfl))
 f217:=Tryz.func179.trans (congrArg some (by kernel_rfl))
 f219:=Tryz.func162.trans (congrArg some (by kernel_rfl))
 f220:=Tryz.func125.trans (congrArg some (by kernel_rfl))
 f224:=Tryz.func181.trans (congrArg some (by kernel_rfl))
 f225:=Tryz.func180.trans (congrArg some (by kernel_rfl))
 f266:=Tryz.func192.trans (congrArg some (by kernel_rfl))
 f267:=Tryz.func182.trans (congrArg some (by kernel_rfl))
 f314:=Tryz.func193.trans (congrArg some (by kernel_rfl))
 t3:=Tryz.underlying3
 a3:=Tryz.isAgg3
 z3:=Tryz.sizeOf3
 v3:=Tryz.zeroValue3
 t4:=Tryz.underlying4
 a4:=Tryz.isAgg4
 z4:=Tryz.sizeOf4
 v4:=Tryz.zeroValue4
 t5:=Tryz.underlying5
 a5:=Tryz.isAgg5
 z5:=Tryz.sizeOf5
 v5:=Tryz.zeroValue5
 t9:=Tryz.underlying9
 a9:=Tryz.isAgg9
 z9:=Tryz.sizeOf9
 v9:=Tryz.zeroValue9
 t46:=Tryz.underlying135
 a46:=Tryz.isAgg135
 z46:=Tryz.sizeOf135
 v46:=Tryz.zeroValue135
 t51:=Tryz.underlying168
 a51:=Tryz.isAgg168
 z51:=Tryz.sizeOf168
 v51:=Tryz.zeroValue168
 t59:=Tryz.underlying145
 a59:=Tryz.isAgg145
 z59:=Tryz.sizeOf145
 v59:=Tryz.zeroValue145
 t146:=Tryz.underlying227
 a146:=Tryz.isAgg227
 z146:=Tryz.sizeOf227
 v146:=Tryz.zeroValue227
 g1:=by kernel_rfl
 i3:=by kernel_rfl
 i4:=by kernel_rfl
 i5:=by kernel_rfl
 i9:=by kernel_rfl
 i46:=by kernel_rfl
 i51:=by kernel_rfl
 i59:=by kernel_rfl
 i146:=by kernel_rfl
 m1:=by kernel_rfl
 s1_3:=fun w h=>Go.Proofs.cell_of_shapedOpen_int (zero:=#[.int .i64 0]) (t:=3) h (of_decide_eq_true (by kernel_rfl)) (by kernel_rfl) rfl (by kernel_rfl) (by kernel_rfl) Tryz.underlying3 }
open Go.RowKit Go.Lib in
def Tryz.lays99_ren:Go.Shelf.Ren:=⟨fun|99=>106|206=>153|n=>n,fun|9=>9|4=>4|3=>3|n=>n,fun|n=>n⟩
theorem Tryz.lays99:Go.Proofs.Lays.n99 Tryz.prog Tryz.lays99_ren:={
 mixed:=by kernel_rfl
 f99:=Tryz.func106.trans (congrArg some (by kernel_rfl))
 f206:=Tryz.func153.trans (congrArg some (by kernel_rfl))
 t3:=Tryz.underlying3
 a3:=Tryz.isAgg3
 z3:=Tryz.sizeOf3
 v3:=Tryz.zeroValue3
 t4:=Tryz.underlying4
 a4:=Tryz.isAgg4
 z4:=Tryz.sizeOf4
 v4:=Tryz.zeroValue4
 t9:=Tryz.underlying9
 a9:=Tryz.isAgg9
 z9:=Tryz.sizeOf9
 v9:=Tryz.zeroValue9 }
open Go.RowKit Go.Lib in
theorem Tryz.strings_HasPrefix (s p:ByteArray) (w:World) :
  Calls Tryz.prog 106 #[.string s,.string p] w fun e w'=>e=.returned (.bool (Lib.hasPrefix s.data.toList p.data.toList))/\w'=w:=Any.strings_HasPrefix Tryz.lays99 s p w
def Tryz.lays100_ren:Go.Shelf.Ren:=⟨fun|100=>107|207=>154|n=>n,fun|9=>9|4=>4|3=>3|n=>n,fun|n=>n⟩
theorem Tryz.lays100:Go.Proofs.Lays.n100 Tryz.prog Tryz.lays100_ren:={
 mixed:=by kernel_rfl
 f100:=Tryz.func107.trans (congrArg some (by kernel_rfl))
 f207:=Tryz.func154.trans (congrArg some (by kernel_rfl))
 t3:=Tryz.underlying3
 a3:=Tryz.isAgg3
 z3:=Tryz.sizeOf3
 v3:=Tryz.zeroValue3
 t4:=Tryz.underlying4
 a4:=Tryz.isAgg4
 z4:=Tryz.sizeOf4
 v4:=Tryz.zeroValue4
 t9:=Tryz.underlying9
 a9:=Tryz.isAgg9
 z9:=Tryz.sizeOf9
 v9:=Tryz.zeroValue9 }
open Go.RowKit Go.Lib in
theorem Tryz.strings_HasSuffix (s p:ByteArray) (w:World) (hs:s.size<=9223372036854775807) :
  Calls Tryz.prog 107 #[.string s,.string p] w fun e w'=>e=.returned (.bool (Lib.hasSuffix s.data.toList p.data.toList))/\w'=w:=Any.strings_HasSuffix Tryz.lays100 s p w hs
def Tryz.lays146_ren:Go.Shelf.Ren:=⟨fun|146=>127|221=>164|268=>183|138=>184|143=>163|195=>194|197=>173|218=>195|219=>162|260=>189|217=>179|225=>180|224=>181|267=>182|266=>192|314=>193|n=>n,fun|9=>9|31=>22|3=>3|4=>4|0=>0|105=>215|21=>21|5=>5|46=>135|119=>229|139=>232|138=>231|146=>227|51=>168|n=>n,fun|1=>0|3=>1|4=>2|n=>n⟩
theorem Tryz.lays146:Go.Proofs.Lays.n146 Tryz.prog Tryz.lays146_ren:={
 mixed:=by kernel_rfl
 f138:=Tryz.func184.trans (congrArg some (by kernel_rfl))
 f143:=Tryz.func163.trans (congrArg some (by kernel_rfl))
 f146:=Tryz.func127.trans (congrArg some (by kernel_rfl))
 f195:=Tryz.func194.trans (congrArg some (by kernel_rfl))
 f197:=Tryz.func173.trans (congrArg some (by kernel_rfl))
 f217:=Tryz.func179.trans (congrArg some (by kernel_rfl))
 f218:=Tryz.func195.trans (congrArg some (by kernel_rfl))
 f219:=Tryz.func162.trans (congrArg some (by kernel_rfl))
 f221:=Tryz.func164.trans (congrArg some (by kernel_rfl))
 f224:=Tryz.func181.trans (congrArg some (by kernel_rfl))
 f225:=Tryz.func180.trans (congrArg some (by kernel_rfl))
 f260:=Tryz.func189.trans (congrArg some (by kernel_rfl))
 f266:=Tryz.func192.trans (congrArg some (by kernel_rfl))
 f267:=Tryz.func182.trans (congrArg some (by kernel_rfl))
 f268:=Tryz.func183.trans (congrArg some (by kernel_rfl))
 f314:=Tryz.func193.trans (congrArg some (by kernel_rfl))
 t0:=Tryz.underlying0
 a0:=Tryz.isAgg0
 z0:=Tryz.sizeOf0
 v0:=Tryz.zeroValue0
 t3:=Tryz.underlying3
 a3:=Tryz.isAgg3
 z3:=Tryz.sizeOf3
 v3:=Tryz.zeroValue3
 t4:=Tryz.underlying4
 a4:=Tryz.isAgg4
 z4:=Tryz.sizeOf4
 v4:=Tryz.zeroValue4
 t5:=Tryz.underlying5
 a5:=Tryz.isAgg5
 z5:=Tryz.sizeOf5
 v5:=Tryz.zeroValue5
 t9:=Tryz.underlying9
 a9:=Tryz.isAgg9
 z9:=Tryz.sizeOf9
 v9:=Tryz.zeroValue9
 t21:=Tryz.underlying21
 a21:=Tryz.isAgg21
 z21:=Tryz.sizeOf21
 v21:=Tryz.zeroValue21
 t31:=Tryz.underlying22
 a31:=Tryz.isAgg22
 z31:=Tryz.sizeOf22
 v31:=Tryz.zeroValue22
 t46:=Tryz.underlying135
 a46:=Tryz.isAgg135
 z46:=Tryz.sizeOf135
 v46:=Tryz.zeroValue135
 t51:=Tryz.underlying168
 a51:=Tryz.isAgg168
 z51:=Tryz.sizeOf168
 v51:=Tryz.zeroValue168
 t105:=Tryz.underlying215
 a105:=Tryz.isAgg215
 z105:=Tryz.sizeOf215
 v105:=Tryz.zeroValue215
 t119:=Tryz.underlying229
 a119:=Tryz.isAgg229
 z119:=Tryz.sizeOf229
 t138:=Tryz.underlying231
 a138:=Tryz.isAgg231
 z138:=Tryz.sizeOf231
 v138:=Tryz.zeroValue231
 t139:=Tryz.underlying232
 a139:=Tryz.isAgg232
 z139:=Tryz.sizeOf232
 v139:=Tryz.zeroValue232
 t146:=Tryz.underlying227
 a146:=Tryz.isAgg227
 z146:=Tryz.sizeOf227
 v146:=Tryz.zeroValue227
 g1:=by kernel_rfl
 g3:=by kernel_rfl
 g4:=by kernel_rfl }
open Go.RowKit Go.Lib in
theorem Tryz.strings_Split (s sep:ByteArray) (m:Int) (w:World) (hs:s.size<4294967281) (hm:w.cell? ⟨0,0,none⟩=some (.int .i64 m)) (h1:1<=sep.size) :
  Calls Tryz.prog 127 #[.string s,.string sep] w fun e w' =>
   e=.returned (.slice (some ⟨w.heap.size,0,none⟩) (Lib.countB s sep+1) (Lib.countB s sep+1))/\w'=w.alloc (.cells ((Lib.splitB sep 0 (Lib.countB s sep) s).map Value.string).toArray 9):=Any.strings_Split Tryz.lays146 (by kernel_rfl) s sep m w hs hm h1
end Go.Proofs

namespace Go.Proofs.YtmdacedmjbiekaaGreatDoor
open Go.RowKit
theorem a5G (s:ByteArray) (w:World):Calls Tryz.prog 105 #[.string s,.string ⟨#[91,63]⟩] w fun e w'=>e=.returned (.string ⟨(Lib.trimLeftS s.data.toList [91,63]).toArray⟩)/\Go.RowKit.Below w.heap.size w w' :=
 Any.strings_TrimLeft_laid Tryz.lays161 (by kernel_rfl) s ⟨#[91,63]⟩ w (by decide) (ascii_of_all (by decide))
theorem a1B (s:ByteArray) (w:World) (hs:s.size<=9223372036854775807):Calls Tryz.prog 155 #[.string s,.string ⟨#[97,98,99,100,101,102,103,104,105,106,107,108,109,110,111,112,113,114,115,116,117,118,119,120,121,122]⟩] w fun e w'=>e=.returned (.string ⟨(Lib.trimS s.data.toList [97,98,99,100,101,102,103,104,105,106,107,108,109,110,111,112,113,114,115,116,117,118,119,120,121,122]).toArray⟩)/\Go.RowKit.Below w.heap.size w w' :=
 Any.strings_Trim_laid Tryz.lays160 (by kernel_rfl) s ⟨#[97,98,99,100,101,102,103,104,105,106,107,108,109,110,111,112,113,114,115,116,117,118,119,120,121,122]⟩ w hs (by decide) (ascii_of_all (by decide))
end Go.Proofs.YtmdacedmjbiekaaGreatDoor

namespace Wf
abbrev Bs:=List UInt8
end Wf

namespace Wf
inductive K where
 | num|txt|flag
 | ref (name:Bs)
 | list (k:K)
 | opt (k:K)
deriving DecidableEq,Repr,Inhabited
def K.text:K->Bs
 | .num=>[110]
 | .txt=>[116]
 | .flag=>[102]
 | .ref n=>64::(n++[59])
 | .list k=>91::k.text
 | .opt k=>63::k.text
def K.signs:K->Bs
 | .list k=>91::k.signs
 | .opt k=>63::k.signs
 | _=>[]
def K.core:K->K
 | .list k=>k.core
 | .opt k=>k.core
 | k=>k
def K.base:K->Bs
 | .num=>[110]
 | .txt=>[116]
 | .flag=>[102]
 | .ref _=>[64]
 | .list k=>k.base
 | .opt k=>k.base
def K.name:K->Bs
 | .ref n=>n
 | .list k=>k.name
 | .opt k=>k.name
 | _=>[]
def bM (c:UInt8):Bool:=97<=c.toNat&&c.toNat<=122
def isName (s:Bs):Bool:=decide (1<=s.length)&&decide (s.length<=3)&&s.all bM
def kindIn:Bs->Option K
 | []=>none
 | c::r =>
  if c=91 then (kindIn r).map .list
  else if c=63 then (kindIn r).map .opt
  else if c=64 then (if r≠[]/\r.getLast? = some 59/\isName r.dropLast=true then some (.ref r.dropLast) else none)
  else if c=110/\r=[] then some .num
  else if c=116/\r=[] then some .txt
  else if c=102/\r=[] then some .flag
  else none
def aN (s:Bs):Option K:=if s.length<=12 then kindIn s else none
theorem gZ {s:Bs} {k:K} (h:kindIn s=some k):k.text=s:=by
 induction s generalizing k with
 | nil=>simp[kindIn] at h
 | cons c r ih =>
  simp only[kindIn] at h;split at h
  ·rename_i hc
   cases hr:kindIn r with
   | none=>rw[hr] at h;simp at h
   | some k'=>rw[hr] at h;simp at h;subst h;simp[K.text,ih hr,hc]
  ·split at h
   ·rename_i hc
    cases hr:kindIn r with
    | none=>rw[hr] at h;simp at h
    | some k'=>rw[hr] at h;simp at h;subst h;simp[K.text,ih hr,hc]
   ·split at h
    ·rename_i hc
     split at h
     ·rename_i hx
      simp at h;subst h;obtain⟨h1,h2,h3⟩:=hx;simp only[K.text,hc];rw[List.getLast?_eq_some_getLast h1] at h2;simp at h2;rw[<-h2,List.dropLast_concat_getLast h1]
     ·simp at h
    ·repeat (first|(split at h;· rename_i hx;simp at h;subst h;simp[K.text,hx])|simp at h)
theorem K.pP (k:K):k.text≠[]:=by cases k <;> simp[K.text]
end Wf

namespace Wf
def aT (c:UInt8):Bool:=c==91 || c==63
def wrap:Bs->K->K
 | [],k=>k
 | c::r,k=>if c=91 then .list (wrap r k) else .opt (wrap r k)
def cW (r:Bs):Option K :=
 if r=[110] then some .num else if r=[116] then some .txt else if r=[102] then some .flag
 else if r.head? = some 64/\r.getLast? = some 59/\isName (r.tail.dropLast)=true then some (.ref r.tail.dropLast) else none
theorem wV {c:UInt8} {r:Bs} (h1:c≠91) (h2:c≠63):kindIn (c::r)=cW (c::r):=by
 simp only[kindIn,if_neg h1,if_neg h2,cW,List.cons.injEq];by_cases h3:c=64
 ·subst h3
  simp only[if_true,List.head?_cons,List.tail_cons,true_and];by_cases hr:r=[]
  ·subst hr;simp
  ·obtain⟨d,q,rfl⟩:=List.exists_cons_of_ne_nil hr
   simp[List.getLast?_cons_cons]
 ·simp[h3]
theorem a5H (s:Bs):kindIn s=(cW (s.dropWhile aT)).map (wrap (s.takeWhile aT)):=by
 induction s with
 | nil=>simp[kindIn,cW]
 | cons c r ih =>
  by_cases h1:c=91
  ·subst h1
   have:aT 91=true:=(by decide);simp[kindIn,this,ih,wrap,Option.map_map,Function.comp_def]
  ·by_cases h2:c=63
   ·subst h2
    have:aT 63=true:=(by decide);simp[kindIn,this,ih,wrap,Option.map_map,Function.comp_def]
   ·have:aT c=false:=by simp[aT,h1,h2]
    have e:wrap []=id:=funext fun _=>rfl;simp only[List.dropWhile_cons,List.takeWhile_cons,this];rw[wV h1 h2];simp[e]
theorem wJ {l:Bs} (h:l.all aT=true) (k:K):(wrap l k).signs=l++k.signs:=by
 induction l with
 | nil=>rfl
 | cons c r ih =>
  simp only[List.all_cons,Bool.and_eq_true] at h;have hc:=h.1;simp only[aT,Bool.or_eq_true,beq_iff_eq] at hc;simp only[wrap];rcases hc with rfl|rfl
  ·simp[K.signs,ih h.2]
  ·rw[if_neg (by decide)];simp[K.signs,ih h.2]
theorem a3G (l:Bs) (k:K):(wrap l k).base=k.base:=by
 induction l with
 | nil=>rfl
 | cons c r ih=>simp only[wrap];split <;> simp[K.base,ih]
theorem a2U (l:Bs) (k:K):(wrap l k).name=k.name:=by
 induction l with
 | nil=>rfl
 | cons c r ih=>simp only[wrap];split <;> simp[K.name,ih]
end Wf

namespace Go.Proofs.YtmdacedmjbiekaaGreatDoor
def iM:List UInt8:=[97,98,99,100,101,102,103,104,105,106,107,108,109,110,111,112,113,114,115,116,117,118,119,120,121,122]
theorem zK (c:UInt8):iM.contains c=Wf.bM c:=by
 have h:∀ n:Fin 256,iM.contains (UInt8.ofNat n.val)=Wf.bM (UInt8.ofNat n.val):=by decide +kernel
 have:=h ⟨c.toNat,c.toNat_lt⟩;simpa using this
theorem drop_nil {α:Type} (p:α->Bool) (l:List α):l.dropWhile p=[]↔l.all p=true:=by
 induction l with
 | nil=>simp
 | cons a l ih=>by_cases h:p a=true <;> simp[h,ih]
theorem a3M (l:List UInt8):Lib.trimS l iM=[]↔l.all Wf.bM=true:=by
 have hp:(fun x=>iM.contains x)=Wf.bM:=funext zK;unfold Lib.trimS Lib.trimLeftS Lib.trimRightS;rw[hp,drop_nil];constructor
 ·intro h
  have h2:l.reverse.all Wf.bM=true:=by
   rw[<-List.takeWhile_append_dropWhile (p:=Wf.bM) (l:=l.reverse),List.all_append,List.all_takeWhile,Bool.true_and];simpa using h
  simpa using h2
 ·intro h
  have:l.reverse.dropWhile Wf.bM=[]:=(drop_nil _ _).2 (by simpa using h);rw[this];rfl
end Go.Proofs.YtmdacedmjbiekaaGreatDoor

namespace Go.Proofs.YtmdacedmjbiekaaGreatDoor
open Go.ChangeShapes Go.WideShapes Go.ChangeAt Go.RowKit Go.Lib
theorem yB (n a b:Int) (w:World) (h1:a<=n) (h2:n<=b):Calls Tryz.prog 148 #[.int .i64 n,.int .i64 a,.int .i64 b] w fun e w'=>e=.returned (.bool true)/\w=w':=by
 go_enter Tryz.func148,Tryz.ntmps148;go_wp2;go_ret
 exact⟨rfl,rfl⟩
theorem aR {x y:Bool} (h2:x=y):Ending.returned (.bool x)=.returned (.bool y):=by rw[h2]
theorem pJ (n a b:Int) (w:World) (h:n<a\/b<n):Calls Tryz.prog 148 #[.int .i64 n,.int .i64 a,.int .i64 b] w fun e w'=>e=.returned (.bool false)/\w=w':=by
 by_cases h1:a<=n
 ·have h2:b<n:=by omega
  clear h;go_enter Tryz.func148,Tryz.ntmps148;go_wp2;go_ret
  exact⟨aR (decide_eq_false (by omega)),rfl⟩
 ·have h2:n<a:=by omega
  clear h;go_enter Tryz.func148,Tryz.ntmps148;go_wp2;go_ret
  exact⟨aR rfl,rfl⟩
theorem byte_at (s:ByteArray) (i:Nat) (h:i<s.size):∃ c:UInt8,s.data.toList[i]? = some c/\∀ h,(s[i]'h).toNat=c.toNat:=by
 refine⟨s[i]'h,?_,fun _=>rfl⟩;rw[Array.getElem?_toList,Array.getElem?_eq_getElem (by exact h)];rfl
theorem aE (s:ByteArray):s.data.toList.length=s.size:=by rw[Array.length_toList];rfl
theorem rH {s:ByteArray} {i:Nat} {c:UInt8} (h:s.data.toList[i]? = some c) (hc:Wf.bM c=false):Wf.isName s.data.toList=false:=by
 unfold Wf.isName;have hm:c∈s.data.toList:=List.mem_of_getElem? h;have:s.data.toList.all Wf.bM=false:=by
  rw[List.all_eq_false];exact⟨c,hm,by rw[hc];decide⟩
 rw[this,Bool.and_false]
theorem xE {l:List UInt8} {i:Nat} {c:UInt8} (h:(l.take i).all Wf.bM=true) (hc:l[i]? = some c) (hl:Wf.bM c=true):(l.take (i+1)).all Wf.bM=true:=by
 rw[List.take_add_one,hc,List.all_append,h];simp[hl]
theorem uZ {c:UInt8} (h:c.toNat<97\/122<c.toNat):Wf.bM c=false:=by
 unfold Wf.bM;rcases h with h|h
 ·rw[decide_eq_false (by omega),Bool.false_and]
 ·rw[decide_eq_false (p:=c.toNat<=122) (by omega),Bool.and_false]
theorem vZ {c:UInt8} (h:97<=c.toNat) (h2:c.toNat<=122):Wf.bM c=true:=by simp[Wf.bM];omega
theorem mX {s:ByteArray} {i:Int} {b:Bool} (hi:i=s.size) (h:(s.data.toList.take i.toNat).all Wf.bM=true) (hb:decide (1<=s.size/\s.size<=3)=b):b=Wf.isName s.data.toList:=by
 have hl:=aE s;rw[List.take_of_length_le (by omega)] at h;unfold Wf.isName;rw[h,Bool.and_true,hl,<-hb];by_cases h1:1<=s.size <;> by_cases h2:s.size<=3 <;> simp[h1,h2]
theorem kT (s:ByteArray) (w:World) (hs:s.size<=9223372036854775807):Calls Tryz.prog 104 #[.string s] w fun e w'=>e=.returned (.bool (Wf.isName s.data.toList))/\w=w':=by
 go_enter Tryz.func104,Tryz.ntmps104;go_wp2;go_loopw [3] (fun v wr=>∃ i:Int,0<=i/\i<=s.size/\v=.int .i64 i/\Hid ((s.data.toList.take i.toNat).all Wf.bM=true)/\w=wr)
  (fun v _=>s.size-(RowKit.intOf v).toNat)
 case atStart=>exact⟨0,Int.le_refl _,by omega,rfl,hid (show _=true by simp),rfl⟩
 case round =>
  obtain⟨i,hi0,hi1,rfl,hall,rfl⟩:=hrel;by_cases hlt:i<s.size
  ·obtain⟨c,hc,e0⟩:=byte_at s i.toNat (by omega)
   have HC:=hid hc;clear hc;obtain⟨a,ha⟩:∃ a,c.toNat=a:=⟨_,rfl⟩;have HA:=hid ha;rw[ha] at e0;clear ha;by_cases h1:a<97
   ·go_wp2
    go_ret
    exact⟨aR (rH HC.out (uZ (by rw[HA.out];omega))).symm,rfl⟩
   ·by_cases h2:122<a
    ·go_wp2
     go_ret
     exact⟨aR (rH HC.out (uZ (by rw[HA.out];omega))).symm,rfl⟩
    ·go_wp2
     go_roundw
     case rel=>exact⟨_,by omega,by omega,rfl,hid (show _=true by rw[show(i+1).toNat=i.toNat+1 by omega];exact xE hall.out HC.out (vZ (by rw[HA.out];omega) (by rw[HA.out];omega))),trivial⟩
     case measure=>simp[RowKit.intOf];omega
  ·have hi:i=s.size:=by omega
   by_cases h3:1<=s.size
   ·by_cases h4:s.size<=3
    ·go_wp2_with (go_at_call 148;refine(yB _ _ _ _ (by omega) (by omega)).mono ?_;rintro e w1 ⟨rfl,rfl⟩)
     go_ret
     exact⟨aR (mX hi hall.out (decide_eq_true ⟨h3,h4⟩)),rfl⟩
    ·go_wp2_with (go_at_call 148;refine(pJ _ _ _ _ (by omega)).mono ?_;rintro e w1 ⟨rfl,rfl⟩)
     go_ret
     exact⟨aR (mX hi hall.out (decide_eq_false (by omega))),rfl⟩
   ·go_wp2_with (go_at_call 148;refine(pJ _ _ _ _ (by omega)).mono ?_;rintro e w1 ⟨rfl,rfl⟩)
    go_ret
    exact⟨aR (mX hi hall.out (decide_eq_false (by omega))),rfl⟩
theorem iA {s:ByteArray} (h:1<=s.size):s.toList.isEmpty=false:=by
 rw[ByteArray.toList_eq];have:=aE s;cases h':s.data.toList with
 | nil=>rw[h'] at this;simp at this;omega
 | cons a l=>rfl
theorem a7V (s:ByteArray) (w:World) (hs:s.size<=12) (h1:1<=s.size) (a:Nat) (e0:∀ h,(s[0]'h).toNat=a) (ha:a=91) (b:Bool) (hr:Calls Tryz.prog 72 #[.string (s.extract 1 s.size)] w fun e w'=>e=.returned (.bool b)/\w=w'):Calls Tryz.prog 72 #[.string s] w fun e w'=>e=.returned (.bool b)/\w=w':=by
 subst ha;have HR:=hid hr;clear hr;have t0:s.toList.isEmpty=false:=iA h1;go_enter Tryz.func72,Tryz.ntmps72;go_wp2_with (go_at_call 72;refine HR.out.mono ?_;rintro e w1 ⟨rfl,rfl⟩)
 go_ret
 exact⟨rfl,rfl⟩
theorem a5E (s:ByteArray) (w:World) (hs:s.size<=12) (h1:1<=s.size) (h2:2<=s.size) (a z:Nat) (e0:∀ h,(s[0]'h).toNat=a) (ha:a=64) (el:∀ h,(s[s.size-1]'h).toNat=z) (hz:z=59):Calls Tryz.prog 72 #[.string s] w fun e w'=>e=.returned (.bool (Wf.isName (s.extract 1 (s.size-1)).data.toList))/\w=w':=by
 subst ha hz;obtain⟨b,hb⟩:∃ b,Wf.isName (s.extract 1 (s.size-1)).data.toList=b:=⟨_,rfl⟩;have HL:=hid (kT (s.extract 1 (s.size-1)) w (by rw[ByteArray.size_extract];omega));rw[hb] at HL ⊢;clear hb;have t0:s.toList.isEmpty=false:=iA h1;go_enter Tryz.func72,Tryz.ntmps72;go_wp2_with (go_at_call 104;refine HL.out.mono ?_;rintro e w1 ⟨rfl,rfl⟩)
 go_ret
 exact⟨rfl,rfl⟩
theorem aW (s:ByteArray) (l:List UInt8):(s=⟨l.toArray⟩)↔s.data.toList=l:=by
 constructor
 ·rintro rfl;rfl
 ·intro h;rw[<-h]
theorem uP (s:ByteArray) (w:World) (hs:s.size<=12) (h1:1<=s.size) (a z:Nat) (e0:∀ h,(s[0]'h).toNat=a) (ha:a=64) (el:∀ h,(s[s.size-1]'h).toNat=z) (hz:z≠59):Calls Tryz.prog 72 #[.string s] w fun e w'=>e=.returned (.bool false)/\w=w':=by
 subst ha;have t0:s.toList.isEmpty=false:=iA h1;have t1:((z:Int)==59)=false:=by rw[beq_eq_false_iff_ne];omega
 go_enter Tryz.func72,Tryz.ntmps72;go_wp2;go_ret
 exact⟨rfl,rfl⟩
theorem a0K (s:ByteArray) (w:World) (hs:s.size<=12) (h1:1<=s.size) (a:Nat) (e0:∀ h,(s[0]'h).toNat=a) (ha:a≠64) (ha2:a≠91) (ha3:a≠63):Calls Tryz.prog 72 #[.string s] w fun e w'=>e=.returned (.bool (s.toList==[110] || s.toList==[116] || s.toList==[102]))/\w=w':=by
 have t0:s.toList.isEmpty=false:=iA h1;have t1:((a:Int)==64)=false:=by rw[beq_eq_false_iff_ne];omega
 have t2:((a:Int)==91)=false:=by rw[beq_eq_false_iff_ne];omega
 have t3:((a:Int)==63)=false:=by rw[beq_eq_false_iff_ne];omega
 cases g1:(s.toList==[110]) <;> cases g2:(s.toList==[116]) <;> cases g3:(s.toList==[102]);all_goals (go_enter Tryz.func72,Tryz.ntmps72;go_wp2)
 all_goals go_ret
 all_goals exact⟨rfl,rfl⟩
theorem a2N (s:ByteArray) (w:World) (hs:s.size<=12) (h1:1<=s.size) (a:Nat) (e0:∀ h,(s[0]'h).toNat=a) (ha:a=63) (b:Bool) (hr:Calls Tryz.prog 72 #[.string (s.extract 1 s.size)] w fun e w'=>e=.returned (.bool b)/\w=w'):Calls Tryz.prog 72 #[.string s] w fun e w'=>e=.returned (.bool b)/\w=w':=by
 subst ha;have HR:=hid hr;clear hr;have t0:s.toList.isEmpty=false:=iA h1;go_enter Tryz.func72,Tryz.ntmps72;go_wp2_with (go_at_call 72;refine HR.out.mono ?_;rintro e w1 ⟨rfl,rfl⟩)
 go_ret
 exact⟨rfl,rfl⟩
theorem a9G (s:ByteArray) (w:World) (hs:12<s.size):Calls Tryz.prog 72 #[.string s] w fun e w'=>e=.returned (.bool false)/\w=w':=by
 go_enter Tryz.func72,Tryz.ntmps72;go_wp2;go_ret
 exact⟨rfl,rfl⟩
theorem rD (s:ByteArray) (w:World) (hs:s.size<=12) (t0:s.toList.isEmpty=true):Calls Tryz.prog 72 #[.string s] w fun e w'=>e=.returned (.bool false)/\w=w':=by
 go_enter Tryz.func72,Tryz.ntmps72;go_wp2;go_ret
 exact⟨rfl,rfl⟩
theorem bT (s:ByteArray) (i j:Nat):(s.extract i j).data.toList=(s.data.toList.drop i).take (j-i):=by
 rw[ByteArray.data_extract,Array.toList_extract,List.extract_eq_take_drop]
def okB (l:List UInt8):Bool:=(Wf.aN l).isSome
theorem uD (n:Nat):∀ (s:ByteArray) (w:World),s.size<=n->Calls Tryz.prog 72 #[.string s] w fun e w'=>e=.returned (.bool (okB s.data.toList))/\w=w':=by
 induction n with
 | zero =>
  intro s w hn;have hl:=aE s;have h0:s.data.toList=[]:=List.eq_nil_of_length_eq_zero (by omega);have:=rD s w (by omega) (by rw[ByteArray.toList_eq,h0];rfl);rw[h0];exact this
 | succ n ih =>
  intro s w hn;have hl:=aE s;by_cases hs:s.size<=12
  ·cases hd:s.data.toList with
   | nil=>exact rD s w hs (by rw[ByteArray.toList_eq,hd];rfl)
   | cons c r =>
    have hlr:r.length+1=s.size:=(by rw[<-hl,hd];rfl);obtain⟨c',hc',e0⟩:=byte_at s 0 (by omega);have hcc:c'=c:=(by rw[hd] at hc';simpa using hc'.symm);subst hcc;have hpk:okB (c'::r)=(Wf.kindIn (c'::r)).isSome:=by
     unfold okB Wf.aN;rw[if_pos (by rw[List.length_cons];omega)]
    have hpr:okB r=(Wf.kindIn r).isSome:=by
     unfold okB Wf.aN;rw[if_pos (by omega)]
    have hx:(s.extract 1 s.size).data.toList=r:=by
     rw[bT,hd,List.drop_one,List.tail_cons,List.take_of_length_le (by omega)]
    have hrec:=ih (s.extract 1 s.size) w (by rw[ByteArray.size_extract];omega);rw[hx,hpr] at hrec;rw[hpk];by_cases h1:c'=91
    ·subst h1
     have:=a7V s w hs (by omega) _ e0 rfl _ hrec;simpa[Wf.kindIn] using this
    ·by_cases h2:c'=63
     ·subst h2
      have:=a2N s w hs (by omega) _ e0 rfl _ hrec;simpa[Wf.kindIn] using this
     ·have hne:∀ x:UInt8,c'≠x->c'.toNat≠x.toNat:=fun x hx h=>hx (UInt8.toNat_inj.1 h)
      by_cases h3:c'=64
      ·subst h3
       obtain⟨z,hz,el⟩:=byte_at s (s.size-1) (by omega);rcases List.eq_nil_or_concat r with hr|⟨q,y,hr⟩
       ·subst hr
        have h1s:s.size=1:=(by rw[<-hlr];rfl);have hz':z=64:=(by rw[hd,h1s] at hz;simpa using hz.symm);subst hz';have:=uP s w hs (by omega) _ _ e0 rfl el (by decide);simpa[Wf.kindIn] using this
       ·have hq:r=q++[y]:=by rw[hr];simp
        subst hq;have hlq:q.length+2=s.size:=(by rw[<-hlr];simp);have hzy:z=y:=by
         rw[hd] at hz;rw[show s.size-1=(64::q).length by simp;omega,<-List.cons_append,List.getElem?_append_right (Nat.le_refl _)] at hz;simpa using hz.symm
        subst hzy;have hx2:(s.extract 1 (s.size-1)).data.toList=q:=by
         rw[bT,hd,List.drop_one,List.tail_cons,show s.size-1-1=q.length by omega,List.take_left'];rfl
        by_cases h59:z=59
        ·subst h59
         have:=a5E s w hs (by omega) (by omega) _ _ e0 rfl el rfl;rw[hx2] at this;cases hn2:Wf.isName q <;> simpa[Wf.kindIn,hn2] using this
        ·have:=uP s w hs (by omega) _ _ e0 rfl el (fun h=>h59 (UInt8.toNat_inj.1 (by rw[h];rfl)))
         simpa[Wf.kindIn,h59] using this
      ·have:=a0K s w hs (by omega) _ e0 (hne 64 h3) (hne 91 h1) (hne 63 h2)
       rw[ByteArray.toList_eq,hd] at this;have hb:(Wf.kindIn (c'::r)).isSome=((c'::r)==[110] || (c'::r)==[116] || (c'::r)==[102]):=by
        simp only[Wf.kindIn,if_neg h1,if_neg h2,if_neg h3];by_cases i1:c'=110/\r=[]
        ·obtain⟨rfl,rfl⟩:=i1;rfl
        ·rw[if_neg i1]
         by_cases i2:c'=116/\r=[]
         ·obtain⟨rfl,rfl⟩:=i2;rfl
         ·rw[if_neg i2]
          by_cases i3:c'=102/\r=[]
          ·obtain⟨rfl,rfl⟩:=i3;rfl
          ·rw[if_neg i3]
           have e1:((c'::r)==[110])=false:=(by rw[beq_eq_false_iff_ne];simpa using i1);have e2:((c'::r)==[116])=false:=(by rw[beq_eq_false_iff_ne];simpa using i2);have e3:((c'::r)==[102])=false:=(by rw[beq_eq_false_iff_ne];simpa using i3);rw[e1,e2,e3];rfl
       rw[hb];exact this
  ·have:okB s.data.toList=false:=by unfold okB Wf.aN;rw[if_neg (by omega)];rfl
   rw[this];exact a9G s w (by omega)

theorem a3W (s:ByteArray) (h1:1<=s.size) (h3:s.size<=3):(Lib.trimS s.data.toList iM).isEmpty=Wf.isName s.data.toList:=by
 have hl:=aE s;have h:=a3M s.data.toList;unfold Wf.isName;rw[hl,decide_eq_true h1,decide_eq_true h3,Bool.true_and,Bool.true_and,Bool.eq_iff_iff,List.isEmpty_iff];exact h
theorem uK (s:ByteArray) (h:s.size<1\/3<s.size):false=Wf.isName s.data.toList:=by
 have hl:=aE s;unfold Wf.isName;rw[hl];rcases h with h|h
 ·rw[decide_eq_false (by omega),Bool.false_and,Bool.false_and]
 ·rw[decide_eq_false (p:=s.size<=3) (by omega),Bool.and_false,Bool.false_and]
theorem kH (s:ByteArray) (w:World) (hs:s.size<=1048576):Calls Tryz.prog 108 #[.string s] w fun e w'=>e=.returned (.bool (Wf.isName s.data.toList))/\Below w.heap.size w w':=by
 have HT:=hid (a1B s w (by omega));by_cases h1:1<=s.size
 ·by_cases h3:s.size<=3
  ·have HN:=hid (a3W s h1 h3)
   go_enter Tryz.func108,Tryz.ntmps108;go_wp2_with (go_at_call 155;refine HT.out.mono ?_;rintro e w1 ⟨rfl,hb⟩)
   go_ret
   exact⟨aR HN.out,hb⟩
  ·have HN:=hid (uK s (by omega))
   go_enter Tryz.func108,Tryz.ntmps108;go_wp2;go_ret
   exact⟨aR HN.out,Below.refl _ _⟩
 ·have HN:=hid (uK s (by omega))
  go_enter Tryz.func108,Tryz.ntmps108;go_wp2;go_ret
  exact⟨aR HN.out,Below.refl _ _⟩
