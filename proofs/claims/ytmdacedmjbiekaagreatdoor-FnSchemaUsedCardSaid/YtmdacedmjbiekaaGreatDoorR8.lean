/- Packed by pack.py: Rd. -/
import Derived.Test.YtmdacedmjbiekaaGreatDoorRows
import Derived.Test.YtmdacedmjbiekaaGreatDoorR0
import Derived.ProofKit
import Derived.OpenShut
import Derived.BigQuiet
import Derived.WalkSpells
namespace Go.Proofs.YtmdacedmjbiekaaGreatDoor
open Go.ChangeShapes Go.WideShapes Go.ChangeAt Go.RowKit
set_option linter.unusedVariables false
set_option maxRecDepth 20000 in
theorem pick_low (rb:Nat) (a:Option Addr) (len cap:Nat) (p n:Int) (w:World) (c0:w.cell? ⟨rb,0,none⟩=some (.slice a len cap)) (c1:w.cell? ⟨rb,1,none⟩=some (.int .i64 p)) (f1:w.frozen? ⟨rb,1,none⟩=false) (hp:0≤p) (hp2:p≤1000000) (hn:n<1):Calls Tryz.prog 44 #[.pointer (some ⟨rb,0,none⟩), .int .i64 n] w fun e w'=>e=.returned (.int .i64 0)∧w.setCell ⟨rb,1,none⟩ (.int .i64 (p+1))=w':=by
 go_enter Tryz.func44,Tryz.ntmps44
 go_wp2
 go_ret
 exact⟨rfl,rfl⟩
set_option maxRecDepth 20000 in
theorem pick_empty (rb:Nat) (a:Option Addr) (cap:Nat) (p n:Int) (w:World) (c0:w.cell? ⟨rb,0,none⟩=some (.slice a 0 cap)) (c1:w.cell? ⟨rb,1,none⟩=some (.int .i64 p)) (f1:w.frozen? ⟨rb,1,none⟩=false) (hp:0≤p) (hp2:p≤1000000) (hn:1≤n):Calls Tryz.prog 44 #[.pointer (some ⟨rb,0,none⟩), .int .i64 n] w fun e w'=>e=.returned (.int .i64 0)∧w.setCell ⟨rb,1,none⟩ (.int .i64 (p+1))=w':=by
 go_enter Tryz.func44,Tryz.ntmps44
 go_wp2
 go_ret
 exact⟨rfl,rfl⟩
set_option maxRecDepth 20000 in
theorem pick_in (rb b off:Nat) (len cap:Nat) (p n m:Int) (w:World) (c0:w.cell? ⟨rb,0,none⟩=some (.slice (some ⟨b,off,none⟩) len cap)) (c1:w.cell? ⟨rb,1,none⟩=some (.int .i64 p)) (f1:w.frozen? ⟨rb,1,none⟩=false) (hp:0≤p) (hp2:p≤1000000) (hn:1≤n)
  (hl:1≤len) (hl2:len≤2000) (hpl:p<len) (hb:b≠rb) (hm:0≤m) (hm2:m<256) (cb:w.cell? ⟨b,off+p.toNat,none⟩=some (.int .u8 m)):Calls Tryz.prog 44 #[.pointer (some ⟨rb,0,none⟩), .int .i64 n] w fun e w'=>e=.returned (.int .i64 (m % n))∧w.setCell ⟨rb,1,none⟩ (.int .i64 (p+1))=w':=by
 have e1:p+1-1=p:=by omega
 have t0:((len:Int)==0)=false:=by rw[beq_eq_false_iff_ne];omega
 have t1:(decide (n<1) || (len:Int)==0)=false:=by rw[t0,decide_eq_false (by omega)];rfl
 go_enter Tryz.func44,Tryz.ntmps44
 go_wp2
 go_ret
 exact⟨rfl,rfl⟩
set_option maxRecDepth 20000 in
theorem pick_mix (rb b off:Nat) (len cap:Nat) (p n m1 m2 q1 q2 q3:Int) (w:World) (c0:w.cell? ⟨rb,0,none⟩=some (.slice (some ⟨b,off,none⟩) len cap)) (c1:w.cell? ⟨rb,1,none⟩=some (.int .i64 p)) (f1:w.frozen? ⟨rb,1,none⟩=false) (hp:0≤p) (hp2:p≤1000000) (hn:1≤n) (hn2:n≤9223372036854775807)
  (hl:1≤len) (hl2:len≤2000) (hpl:¬ p<len) (hb:b≠rb) (hm:0≤m1) (hm2:m1<256) (hm3:0≤m2) (hm4:m2<256)
  (hq1:p.tmod len=q1) (hq2:(p * 7+3).tmod len=q2) (hq3:p.tdiv len=q3) (r1:0≤q1) (r2:q1<len) (r3:0≤q2) (r4:q2<len) (r5:0≤q3) (r6:q3≤1000000)
  (cb1:w.cell? ⟨b,off+q1.toNat,none⟩=some (.int .u8 m1)) (cb2:w.cell? ⟨b,off+q2.toNat,none⟩=some (.int .u8 m2)):Calls Tryz.prog 44 #[.pointer (some ⟨rb,0,none⟩), .int .i64 n] w fun e w'=>e=.returned (.int .i64 ((bits .xor .i64 (m1 * 131+m2 * 1117+p * 29+q3 * 53) ((m1 * 131+m2 * 1117+p * 29+q3 * 53) / 64)).tmod n))∧∃ k,w'=(w.setCell ⟨rb,1,none⟩ (.int .i64 (p+1))).drewN k:=by
 have e1:p+1-1=p:=by omega
 have t0:((len:Int)==0)=false:=by rw[beq_eq_false_iff_ne];omega
 have t1:(decide (n<1) || (len:Int)==0)=false:=by rw[t0,decide_eq_false (by omega)];rfl
 have z0:¬ (len:Int)=0:=by omega
 have z1:¬ len=0:=by omega
 go_enter Tryz.func44,Tryz.ntmps44
 go_wp2
 go_quiet (fail)
 go_wp2
 go_ret
 exact⟨rfl,_,rfl⟩
theorem wrap_nat_i64 (n:Nat) (h:n<4611686018427387904):IntKind.i64.wrap (n:Int)=n:=by
 simp[IntKind.wrap,IntKind.bits,IntKind.signed];omega
theorem xor_nonneg (x:Int) (h0:0≤x) (h1:x<4611686018427387904):0≤bits .xor .i64 x (x / 64):=by
 obtain⟨a,rfl⟩:=Int.eq_ofNat_of_zero_le h0
 obtain⟨b,hb⟩:∃ b:Nat,((a:Int) / 64)=b:=⟨a / 64,by omega⟩
 rw[hb]
 have hx:a ^^^ b<2 ^ 62:=Nat.xor_lt_two_pow (by omega) (by omega)
 have h1':(BitVec.ofInt 64 (a:Int)).toNat=a:=by
  rw[BitVec.ofInt_natCast,BitVec.toNat_ofNat];exact Nat.mod_eq_of_lt (by omega)
 have h2':(BitVec.ofInt 64 (b:Int)).toNat=b:=by
  rw[BitVec.ofInt_natCast,BitVec.toNat_ofNat];exact Nat.mod_eq_of_lt (by omega)
 have:bits .xor .i64 (a:Int) (b:Int)=((a ^^^ b:Nat):Int):=by
  show IntKind.i64.wrap ((BitVec.ofInt 64 (a:Int) ^^^ BitVec.ofInt 64 (b:Int)).toNat:Int)=_
  rw[BitVec.toNat_xor,h1',h2',wrap_nat_i64 _ (by omega)]
 rw[this];omega
structure Beside (rb:Nat) (w w':World):Prop where
 os:w'.os=w.os
 tape:w'.tape=w.tape
 output:w'.output=w.output
 size:w.heap.size≤w'.heap.size
 block:∀ k,k<w.heap.size→k≠rb→w'.heap[k]? = w.heap[k]?
theorem Beside.refl (rb:Nat) (w:World):Beside rb w w:=⟨rfl,rfl,rfl,Nat.le_refl _,fun _ _ _=>rfl⟩
theorem Beside.trans {rb:Nat} {a b c:World} (h:Beside rb a b) (k:Beside rb b c):Beside rb a c :=
 ⟨k.os.trans h.os,k.tape.trans h.tape,k.output.trans h.output,Nat.le_trans h.size k.size,fun i hi hr=>(k.block i (Nat.lt_of_lt_of_le hi h.size) hr).trans (h.block i hi hr)⟩
theorem Beside.of_below {rb B:Nat} {a b:World} (h:Below B a b) (hB:a.heap.size≤B):Beside rb a b:=⟨h.os,h.tape,h.output,h.size,fun k hk _=>h.block k (Nat.lt_of_lt_of_le hk hB)⟩
theorem Beside.below {rb B:Nat} {a w w':World} (h:Below B a w) (hB:B≤w.heap.size) (hr:B≤rb) (k:Beside rb w w'):Below B a w' :=
 ⟨k.os.trans h.os,k.tape.trans h.tape,k.output.trans h.output,Nat.le_trans h.size k.size,fun i hi=>(k.block i (by omega) (by omega)).trans (h.block i hi)⟩
theorem Beside.set (rb:Nat) (w:World) (o:Nat) (u:Value):Beside rb w (w.setCell ⟨rb,o,none⟩ u):=by
 have h:=Below.setCell (B:=rb) (Below.refl rb w) (p:=⟨rb,o,none⟩) (Nat.le_refl _) u
 exact⟨h.os,h.tape,h.output,h.size,fun k _ hr=>Below.heap_setCell w ⟨rb,o,none⟩ u k hr⟩
theorem Beside.drewN {rb:Nat} {a w:World} (h:Beside rb a w) (n:Nat):Beside rb a (w.drewN n):=h.trans ⟨rfl,rfl,rfl,Nat.le_refl _,fun _ _ _=>rfl⟩
theorem Beside.drew {rb:Nat} {a w:World} (h:Beside rb a w):Beside rb a w.drew:=h.trans ⟨rfl,rfl,rfl,Nat.le_refl _,fun _ _ _=>rfl⟩
theorem Beside.cell {rb:Nat} {w w':World} (h:Beside rb w w') {p:Addr} (hp:p.block<w.heap.size) (hr:p.block≠rb):w'.cell? p=w.cell? p:=World.cell?_of_block (w:=w) (h.block p.block hp hr)
theorem Beside.cell_some {rb:Nat} {w w':World} (h:Beside rb w w') {b o:Nat} {v:Value} (hc:w.cell? ⟨b,o,none⟩=some v) (hr:b≠rb):w'.cell? ⟨b,o,none⟩=some v:=by
 have hlt:b<w.heap.size:=by
  rcases Nat.lt_or_ge b w.heap.size with h|h
  ·exact h
  ·simp[World.cell?,Array.getElem?_eq_none h] at hc
 rw[h.cell (p:=⟨b,o,none⟩) hlt hr];exact hc
def Bytes (w:World) (rb:Nat) (a:Option Addr) (len cap:Nat):Prop :=
 len≤cap∧cap≤maxLen∧(len=0∨∃ b off,a=some ⟨b,off,none⟩∧b<rb∧∀ i,i<len→∃ m:Int,0≤m∧m<256∧w.cell? ⟨b,off+i,none⟩=some (.int .u8 m))
def Rd (w:World) (rb k:Nat):Prop:=∃ a len cap,∃ p:Int,Bytes w rb a len cap∧w.cell? ⟨rb,0,none⟩=some (.slice a len cap)∧w.cell? ⟨rb,1,none⟩=some (.int .i64 p)∧w.frozen? ⟨rb,1,none⟩=false∧0≤p∧p≤k∧len≤2000∧rb<w.heap.size
theorem Bytes.keep {w w':World} {rb:Nat} {a:Option Addr} {len cap:Nat} (h:Bytes w rb a len cap) (hk:∀ b o v,b<rb→w.cell? ⟨b,o,none⟩=some v→w'.cell? ⟨b,o,none⟩=some v):Bytes w' rb a len cap:=by
 obtain⟨h1,h2,h|⟨b,off,ha,hb,hc⟩⟩:=h
 ·exact⟨h1,h2, .inl h⟩
 ·refine⟨h1,h2, .inr ⟨b,off,ha,hb,fun i hi => ?_⟩⟩
  obtain⟨m,m1,m2,m3⟩:=hc i hi
  exact⟨m,m1,m2,hk _ _ _ hb m3⟩
theorem Rd.mono {w:World} {rb k k':Nat} (h:Rd w rb k) (hk:k≤k'):Rd w rb k':=by
 obtain⟨a,len,cap,p,h1,h2,h3,h4,h5,h6,h7,h8⟩:=h
 exact⟨a,len,cap,p,h1,h2,h3,h4,h5,by omega,h7,h8⟩
theorem Rd.below {w w':World} {rb k B:Nat} (h:Rd w rb k) (hb:Below B w w') (hB:rb<B):Rd w' rb k:=by
 obtain⟨a,len,cap,p,h1,h2,h3,h4,h5,h6,h7,h8⟩:=h
 refine⟨a,len,cap,p,h1.keep fun b o v hbr hc => ?_, ?_, ?_, ?_,h5,h6,h7,Nat.lt_of_lt_of_le h8 hb.size⟩
 ·rw[hb.cell (p:=⟨b,o,none⟩) (Nat.lt_trans hbr hB)];exact hc
 ·rw[hb.cell (p:=⟨rb,0,none⟩) hB];exact h2
 ·rw[hb.cell (p:=⟨rb,1,none⟩) hB];exact h3
 ·rw[hb.frozen (p:=⟨rb,1,none⟩) hB];exact h4
theorem Rd.drewN {w:World} {rb k:Nat} (h:Rd w rb k) (n:Nat):Rd (w.drewN n) rb k:=h.below (B:=rb+1) ⟨rfl,rfl,rfl,Nat.le_refl _,fun _ _=>rfl⟩ (by omega)
theorem Rd.step {w:World} {rb:Nat} {a:Option Addr} {len cap:Nat} {p:Int} {k:Nat} (h1:Bytes w rb a len cap) (h2:w.cell? ⟨rb,0,none⟩=some (.slice a len cap)) (h3:w.cell? ⟨rb,1,none⟩=some (.int .i64 p)) (h4:w.frozen? ⟨rb,1,none⟩=false) (h5:0≤p) (h6:p≤k) (h7:len≤2000) (h8:rb<w.heap.size):Rd (w.setCell ⟨rb,1,none⟩ (.int .i64 (p+1))) rb (k+1):=by
 have hbs:=Beside.set rb w 1 (.int .i64 (p+1))
 refine⟨a,len,cap,p+1,h1.keep fun b o v hbr hc=>hbs.cell_some hc (by omega), ?_, ?_, ?_,by omega,by omega,h7,Nat.lt_of_lt_of_le h8 hbs.size⟩
 ·exact(World.cell?_setCell_other w _ _ _ (by simp)).trans h2
 ·exact World.cell?_setCell_same w _ _ h3
 ·simp[h4]
theorem pick (rb k:Nat) (n:Int) (w:World) (H:Rd w rb k) (hk:k≤1000000) (hn:n≤9223372036854775807) :
  Calls Tryz.prog 44 #[.pointer (some ⟨rb,0,none⟩), .int .i64 n] w fun e w'=>∃ v:Int,e=.returned (.int .i64 v)∧(1≤n→0≤v∧v<n)∧(n<1→v=0)∧Rd w' rb (k+1)∧Beside rb w w':=by
 obtain⟨a,len,cap,p,h1,h2,h3,h4,h5,h6,h7,h8⟩:=H
 have R:=Rd.step h1 h2 h3 h4 h5 h6 h7 h8
 have Bs:=Beside.set rb w 1 (.int .i64 (p+1))
 rcases Int.lt_or_le n 1 with hn1|hn1
 ·refine(pick_low rb a len cap p n w h2 h3 h4 h5 (by omega) hn1).mono ?_
  rintro e w' ⟨rfl,rfl⟩
  exact⟨0,rfl,fun h=>by omega,fun _=>rfl,R,Bs⟩
 ·by_cases hl:len=0
  ·subst hl
   refine(pick_empty rb a cap p n w h2 h3 h4 h5 (by omega) hn1).mono ?_
   rintro e w' ⟨rfl,rfl⟩
   exact⟨0,rfl,fun h=>by omega,fun h=>by omega,R,Bs⟩
  ·obtain⟨l1,l2,h0|⟨b,off,rfl,hb,hc⟩⟩:=h1
   ·exact absurd h0 hl
   ·by_cases hpl:p<len
    ·obtain⟨m,m1,m2,m3⟩:=hc p.toNat (by omega)
     refine(pick_in rb b off len cap p n m w h2 h3 h4 h5 (by omega) hn1 (by omega) h7 hpl (by omega) m1 m2 m3).mono ?_
     rintro e w' ⟨rfl,rfl⟩
     exact⟨_,rfl,fun h=>⟨Int.emod_nonneg _ (by omega),Int.emod_lt_of_pos _ (by omega)⟩,fun h=>by omega,R,Bs⟩
    ·have hlp:(0:Int)<len:=by omega
     have q1:p.tmod len=p % len:=Int.tmod_eq_emod_of_nonneg h5
     have q2:(p * 7+3).tmod len=(p * 7+3) % len:=Int.tmod_eq_emod_of_nonneg (by omega)
     have q3:p.tdiv len=p / len:=Int.tdiv_eq_ediv_of_nonneg h5
     have a1:=Int.emod_nonneg p (b:=len) (by omega)
     have a2:=Int.emod_lt_of_pos p hlp
     have a3:=Int.emod_nonneg (p * 7+3) (b:=len) (by omega)
     have a4:=Int.emod_lt_of_pos (p * 7+3) hlp
     have a5:0≤p / len:=Int.ediv_nonneg h5 (by omega)
     have a6:p / len≤p:=Int.ediv_le_self _ h5
     obtain⟨m,m1,m2,m3⟩:=hc (p % len).toNat (by omega)
     obtain⟨m',m1',m2',m3'⟩:=hc ((p * 7+3) % len).toNat (by omega)
     refine(pick_mix rb b off len cap p n m m' (p % len) ((p * 7+3) % len) (p / len) w h2 h3 h4 h5 (by omega) hn1 hn (by omega) h7 hpl (by omega) m1 m2 m1' m2' q1 q2 q3 a1 a2 a3 a4 a5 (by omega) m3 m3').mono ?_
     rintro e w' ⟨rfl,k1,rfl⟩
     exact⟨_,rfl,fun h=>⟨Int.tmod_nonneg _ (xor_nonneg _ (by omega) (by omega)),Int.tmod_lt_of_pos _ (by omega)⟩,fun h=>by omega,R.drewN _,Bs.drewN _⟩
set_option maxRecDepth 20000 in
theorem open_small (w:World) (a:Option Addr) (len cap:Nat) (hl:len≤2000):Calls Tryz.prog 41 #[.slice a len cap] w fun e w'=>e=.returned (.pointer (some ⟨w.heap.size,0,none⟩))∧w.alloc (.cells #[.slice a len cap, .int .i64 0] 137)=w':=by
 go_enter Tryz.func41,Tryz.ntmps41
 go_wp2
 go_ret
 exact⟨rfl,rfl⟩
set_option maxRecDepth 20000 in
theorem open_big (w:World) (b off:Nat) (len cap:Nat) (hl:2000<len) (hl2:len≤cap) (hc:cap≤maxLen):Calls Tryz.prog 41 #[.slice (some ⟨b,off,none⟩) len cap] w fun e w'=>e=.returned (.pointer (some ⟨w.heap.size,0,none⟩))∧w.alloc (.cells #[.slice (some ⟨b,off,none⟩) 2000 cap, .int .i64 0] 137)=w':=by
 go_enter Tryz.func41,Tryz.ntmps41
 go_wp2
 go_ret
 exact⟨rfl,rfl⟩
theorem Rd.alloc {w:World} {rb k:Nat} (h:Rd w rb k) (o:Obj):Rd (w.alloc o) rb k:=by
 have h8:rb<w.heap.size:=by obtain⟨a,len,cap,p,h1,h2,h3,h4,h5,h6,h7,h8⟩:=h;exact h8
 exact h.below (B:=rb+1) (Below.alloc (Below.refl _ _) (by omega) o) (by omega)
theorem Rd.lt {w:World} {rb k:Nat} (h:Rd w rb k):rb<w.heap.size:=by obtain⟨a,len,cap,p,h1,h2,h3,h4,h5,h6,h7,h8⟩:=h;exact h8
theorem Beside.alloc {rb:Nat} {a w:World} (h:Beside rb a w) (o:Obj):Beside rb a (w.alloc o):=h.trans (Beside.of_below (B:=w.heap.size) (Below.alloc (Below.refl _ _) (Nat.le_refl _) o) (Nat.le_refl _))
theorem bytes_of {w:World} {a:Option Addr} {len cap:Nat} {zs:List Int} (h:(a=none∧len=0∧cap=0∧zs=[]) ∨
 ∃ x,a=some x∧len≤cap∧cap≤maxLen∧zs.length=cap∧(∀ i,i<zs.length→w.cell? (x.add i)=some (.int .u8 (zs.getD i 0)))∧∀ n∈zs,(Lit.int .u8 n).wf=true):Bytes w w.heap.size a len cap:=by
 rcases h with⟨rfl,rfl,rfl,_⟩|⟨x,rfl,h1,h2,h3,h4,h5⟩
 ·exact⟨Nat.le_refl _,by unfold maxLen;omega, .inl rfl⟩
 ·refine⟨h1,h2, ?_⟩
  rcases Nat.eq_zero_or_pos len with h0|h0
  ·exact .inl h0
  ·have hx:=h4 0 (by omega)
   simp only[Addr.add,if_true] at hx
   obtain⟨b,off,spot⟩:=x
   have hb:b<w.heap.size:=by
    rcases Nat.lt_or_ge b w.heap.size with h|h
    ·exact h
    ·simp[World.cell?,Array.getElem?_eq_none h] at hx
   have hs:spot=none:=by
    simp only[World.cell?] at hx
    split at hx
    ·cases spot with
     | none=>rfl
     | some y=>simp at hx
    ·cases hx
   subst hs
   refine .inr ⟨b,off,rfl,hb,fun i hi => ?_⟩
   have hc:=h4 i (by omega)
   have ha:(Addr.add ⟨b,off,none⟩ i)=⟨b,off+i,none⟩:=by simp[Addr.add];try (intro h;omega)
   rw[ha] at hc
   have hw:=h5 (zs.getD i 0) (by rw[List.getD_eq_getElem?_getD,List.getElem?_eq_getElem (show i<zs.length by omega),Option.getD_some];exact List.getElem_mem _)
   simp only[Lit.wf,Bool.and_eq_true,decide_eq_true_eq] at hw
   have hmin:IntKind.u8.min=0:=rfl
   have hmax:IntKind.u8.max=255:=rfl
   rw[hmin,hmax] at hw
   exact⟨_,hw.1,by omega,hc⟩
theorem Rd.fresh {w:World} {a:Option Addr} {len cap len':Nat} (h:Bytes w w.heap.size a len cap) (hl:len'≤len) (hl2:len'≤2000):Rd (w.alloc (.cells #[.slice a len' cap, .int .i64 0] 137)) w.heap.size 0:=by
 obtain⟨h1,h2,h3⟩:=h
 have hb:Bytes w w.heap.size a len' cap:=by
  refine⟨by omega,h2, ?_⟩
  rcases h3 with h3|⟨b,off,ha,hb,hc⟩
  ·exact .inl (by omega)
  ·exact .inr ⟨b,off,ha,hb,fun i hi=>hc i (by omega)⟩
 refine⟨a,len',cap,0,hb.keep fun b o v hbr hc => ?_, ?_, ?_, ?_,Int.le_refl _,by simp,hl2,by simp⟩
 ·rw[World.cell?_alloc_lt w _ _ hbr];exact hc
 ·simp
 ·simp
 ·simp
theorem openRd (w:World) (a:Option Addr) (len cap:Nat) (h:Bytes w w.heap.size a len cap):Calls Tryz.prog 41 #[.slice a len cap] w fun e w'=>∃ rb,e=.returned (.pointer (some ⟨rb,0,none⟩))∧w.heap.size≤rb∧Rd w' rb 0∧Below w.heap.size w w':=by
 rcases Nat.lt_or_ge 2000 len with hl|hl
 ·have h':=h
  obtain⟨h1,h2,h3|⟨b,off,rfl,hb,hc⟩⟩:=h
  ·omega
  ·refine(open_big w b off len cap hl h1 h2).mono ?_
   rintro e w' ⟨rfl,rfl⟩
   exact⟨_,rfl,Nat.le_refl _,Rd.fresh h' (by omega) (Nat.le_refl _),Below.alloc (Below.refl _ _) (Nat.le_refl _) _⟩
 ·refine(open_small w a len cap hl).mono ?_
  rintro e w' ⟨rfl,rfl⟩
  exact⟨_,rfl,Nat.le_refl _,Rd.fresh h (Nat.le_refl _) hl,Below.alloc (Below.refl _ _) (Nat.le_refl _) _⟩
end Go.Proofs.YtmdacedmjbiekaaGreatDoor
