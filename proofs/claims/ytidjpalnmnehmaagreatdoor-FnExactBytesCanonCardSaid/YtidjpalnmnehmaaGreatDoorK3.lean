/- Packed. -/
import Derived.WalkKit
import Derived.Lib.UnsafeStr
import Derived.Lib.Hide
import Derived.Test.YtidjpalnmnehmaaGreatDoorRows
import Derived.ProofKit
import Derived.OpenShut
import Derived.BigQuiet
import Derived.WalkSpells
import Derived.Shelf.Strings.SlTrimAscii
import Derived.Shelf.Strings.Prefix
import Derived.Shelf.Strings.Cut
import Derived.Shelf.Strings.Search3
import Derived.Shelf.Strings.Split
import Derived.Shelf.Strings.SplitShaped
import Derived.Shelf.Strings.Shaped
import Derived.Shelf.Small.Wraps
import Derived.Shelf.Strings.OnBuilder
import Derived.KernelRfl
import Derived.Below
import Derived.Test.YtidjpalnmnehmaaGreatDoorChecked
import Derived.Lib.SlTrimSet
import Derived.Test.YtidjpalnmnehmaaGreatDoorK0
set_option maxRecDepth 99999
set_option maxHeartbeats 40000000
set_option linter.all false
open Go Go.RowKit Go.Lib in theorem zaB {B:Nat} {w:World}:Below B w w:=Below.refl B w
open Go Go.RowKit Go.Lib in def zaZ:=@ByteArray.toList_eq
open Go Go.RowKit Go.Lib in def zbA:=@World.cell?_setCell_other
open Go Go.RowKit Go.Lib in def zbB:=@World.cell?_alloc_lt
open Go Go.RowKit Go.Lib in def zbC:=@World.cell?_setCell_same
open Go Go.RowKit Go.Lib in def zbD:=@bodyPost_ret
open Go Go.RowKit Go.Lib in def zbE:=@Below.drew
open Go Go.RowKit Go.Lib in def zbF:=@Below.setCell
open Go Go.RowKit Go.Lib in def zbG:=@Below.alloc
open Go Go.RowKit Go.Lib in def zbH:=@run_string_add_sum
open Go Go.RowKit Go.Lib in def zbI:=@IntWalk.i64_in
open Go Go.RowKit Go.Lib in def zbJ:=@World.cell?_of_block
namespace Go
open Go.RowKit
variable {P:Program}
theorem bcell {B:Nat} {W w1:World} (hb:Below B W w1):(∀ b o,b<B->w1.cell? ⟨b,o,none⟩=W.cell? ⟨b,o,none⟩)/\(∀ b o,b<B->w1.frozen? ⟨b,o,none⟩=W.frozen? ⟨b,o,none⟩) :=
 ⟨fun b o h=>hb.cell (p:=⟨b,o,none⟩) h,fun b o h=>hb.frozen (p:=⟨b,o,none⟩) h⟩
theorem run_convert_owned (w:World) (src dst e:TypeId) {base et:Nat} {v:Value} {l:List UInt8} (hs:P.underlying src=some (.slice e)) (he:P.underlying e=some (.int .u8)) (hd:P.underlying dst=some .string)
  (h:w.ownsRow base et 1 v l.length (Lib.byteCells l)):(convert src dst v).run P w=.ok (.string ⟨l.toArray⟩) w:=by
 obtain⟨h1,h2⟩:=h;rcases h2 with⟨rfl,h0⟩|⟨g,cap,cur,rfl,hg,hh,hn,hc,hsz,ht⟩
 ·have:l=[]:=List.eq_nil_of_length_eq_zero h0
  subst this;rw[run_convert_bytes_string w src dst e none 0 0 hs he hd];simp[Conv.bytesToString,Sem.run_pure];rfl
 ·refine run_convert_bytes_back w src dst e ⟨g,0,none⟩ cap l hs he hd fun j hj=>?_
  have ha:(Addr.add ⟨g,0,none⟩ j)=⟨g,j,none⟩:=by simp[Addr.add];intro h;exact h.symm
  rw[ha];simp only[World.cell?,hh];have hx:(cur.toList.take (l.length*1))[j]? = (Lib.byteCells l)[j]?:=by rw[ht]
  rw[List.getElem?_take,if_pos (by omega)] at hx;simp only[Lib.byteCells,List.getElem?_map,zaV hj,zaL] at hx;simpa using hx
theorem run_convert_one (src dst e:TypeId) (hs:P.underlying src=some (.slice e)) (he:P.underlying e=some (.int .u8)) (hd:P.underlying dst=some .string) (W:World) (a:Addr) (c:Nat) (m:Int)
  (h:W.cell? a=some (.int .u8 m)):(convert src dst (.slice (some a) 1 c)).run P W=.ok (.string ⟨#[UInt8.ofNat m.toNat]⟩) W:=by
 rw[run_convert_bytes_string W src dst e (some a) 1 c hs he hd];have hl:=run_loadCells_list (P:=P) W a ([m].map (Value.int .u8)) (fun j v hj=>by
  match j,hj with
  | 0,hj=>simp at hj;subst hj;simpa[Addr.add] using h)
 simp only[zaG,zaF,zaM] at hl;rw[run_bytesToString W a 1 c [m] hl];rfl
theorem run_convert_lit (src dst e:TypeId) (hs:P.underlying src=some (.slice e)) (he:P.underlying e=some (.int .u8)) (hd:P.underlying dst=some .string) (W:World) (m:Int) (et:TypeId) :
  (convert src dst (.slice (some ⟨W.heap.size,0,none⟩) 1 1)).run P (W.alloc (.cells #[.int .u8 m] et))=.ok (.string ⟨#[UInt8.ofNat m.toNat]⟩) (W.alloc (.cells #[.int .u8 m] et)) :=
 run_convert_one src dst e hs he hd _ _ 1 m (by simp)
theorem run_add_bytes (x y z:List UInt8) (h:x.length+y.length<=9223372036854775807) (hz:z=x++y) (W:World) :
  (Op.stringOp .add ⟨x.toArray⟩ ⟨y.toArray⟩).run P W=.ok (.string ⟨z.toArray⟩) W:=by
 subst hz;refine(zbH (P:=P) (w:=W) _ _ (by simpa[ByteArray.size] using h)).trans ?_;rw[ByteArray.mk_append_mk]
theorem below_grown {base:Nat} {w w':World} {e n:Nat} {size:Nat} {v:Value} {xs:List Value} (hown:w.ownsRow base e size v n xs) (hg:w.grownBy w' v.ownBlock) (hb:base<=w.heap.size):Below base w w':=by
 refine(Below.refl base w).grown hg hb fun k hk=>?_;obtain⟨_,h2⟩:=hown;rcases h2 with⟨rfl,_⟩|⟨g,cap,cur,rfl,hg,_⟩
 ·simp[Value.ownBlock] at hk
 ·simp[Value.ownBlock] at hk;omega
theorem wpList_append_one (w:World) {ops:Array Oper} {rest:List Oper} {o:Oper} {a:Act} {Q:Exit->Act->World->Prop} (hgd:o.guard=none) (s x:Operand) (t:TypeId)
  (ho:o.op=.call { callee:=.builtin .append,args:=#[s,x],argTypes:=#[t,t] })
  (base:Nat) (e:TypeId) (i:TypeInfo) (z:Value) (size bytes:Nat) (ht:P.underlying t=some (.slice e)) (hi:P.info? e=some i) (hz:i.zero=some z)
  (hsize:i.size=size) (hby:i.bytes=bytes) (hzs:z.cells.size=size) (hsz:0<size)
  (v:Value) (n:Nat) (xs:List Value) (hs:a.eval s=v) (hown:w.ownsRow base e size v n xs)
  (ad:Addr) (news:List Value) (hx:a.eval x=.slice (some ad) 1 1) (hl:news.length=size) (hnews:∀ j u,news[j]? = some u->w.cell? (ad.add j)=some u) (h1:∀ u∈news,u.oneCell'=true)
  (hbytes:(n+1)*bytes<=140737488355328) (h63:n+1<=140737488355328) (hbase:base<=w.heap.size)
  (h:∀ v' w',w'.ownsRow base e size v' (n+1) (xs++news)->Below base w w'->wpList P ops Q rest (a.put o.dst v') w'):wpList P ops Q (o::rest) a w :=
 wpList_append_own w hgd s x t ho base e i z size bytes ht hi hz hsize hby hzs hsz v n xs hs hown ad 1 1 news hx (by omega) hnews h1 (by unfold maxLen;omega) hbytes hbase
  fun v' w' g1 g2 _=>h v' w' g1 (below_grown hown g2 hbase)
theorem wpList_append_byte (w:World) {ops:Array Oper} {rest:List Oper} {o:Oper} {a:Act} {Q:Exit->Act->World->Prop} (hgd:o.guard=none) (s x:Operand) (t:TypeId)
  (ho:o.op=.call { callee:=.builtin .append,args:=#[s,x],argTypes:=#[t,t] })
  (base:Nat) (e:TypeId) (ht:P.underlying t=some (.slice e)) (hi:(P.info? e).map (fun i=>(i.zero,i.size,i.bytes))=some (some (.int .u8 0),1,1))
  (v:Value) (l:List UInt8) (hs:a.eval s=v) (hown:w.ownsRow base e 1 v l.length (Lib.byteCells l))
  (ad:Addr) (m:Int) (hx:a.eval x=.slice (some ad) 1 1) (hc:w.cell? ad=some (.int .u8 m)) (c:UInt8) (hm:m=c.toNat)
  (hn:l.length+1<=140737488355328) (hbase:base<=w.heap.size)
  (h:∀ v' w',w'.ownsRow base e 1 v' (l++[c]).length (Lib.byteCells (l++[c]))->Below base w w'->wpList P ops Q rest (a.put o.dst v') w'):wpList P ops Q (o::rest) a w:=by
 obtain⟨i0,hi0,hz0,hz1,hz2⟩:=info_parts hi;refine wpList_append_one w hgd s x t ho base e i0 (.int .u8 0) 1 1 ht hi0 hz0 hz1 hz2 rfl (by decide) v l.length _ hs hown ad [.int .u8 m] hx rfl ?_ ?_ (by omega) hn hbase ?_
 ·intro j u hj
  match j,hj with
  | 0,hj=>simp at hj;subst hj;simpa[Addr.add] using hc
 ·intro u hu;simp at hu;subst hu;rfl
 ·intro v' w' g1 g2
  refine h v' w' ?_ g2;have e1:(l++[c]).length=l.length+1:=by simp
  have e2:Lib.byteCells (l++[c])=Lib.byteCells l++[.int .u8 m]:=by simp[Lib.byteCells,hm]
  rw[e1,e2];exact g1
end Go

namespace Go.Proofs.YtidjpalnmnehmaaGreatDoor
open Go.ChangeShapes Go.WideShapes Go.ChangeAt Go.RowKit
theorem a3F (n:Nat) (h:n<4611686018427387904):IntKind.i64.wrap (n:Int)=n:=by
 simp[IntKind.wrap,IntKind.bits,IntKind.signed];omega
structure aA (rb:Nat) (w w':World):Prop where
 os:w'.os=w.os
 tape:w'.tape=w.tape
 output:w'.output=w.output
 size:w.heap.size<=w'.heap.size
 block:∀ k,k<w.heap.size->k≠rb->w'.heap[k]? = w.heap[k]?
theorem aA.refl (rb:Nat) (w:World):aA rb w w:=⟨rfl,rfl,rfl,zaA,fun _ _ _=>rfl⟩
theorem aA.trans {rb:Nat} {a b c:World} (h:aA rb a b) (k:aA rb b c):aA rb a c :=
 ⟨k.os.trans h.os,k.tape.trans h.tape,k.output.trans h.output,zaI h.size k.size,fun i hi hr=>(k.block i (zaC hi h.size) hr).trans (h.block i hi hr)⟩
theorem aA.aF {rb B:Nat} {a b:World} (h:Below B a b) (hB:a.heap.size<=B):aA rb a b:=⟨h.os,h.tape,h.output,h.size,fun k hk _=>h.block k (zaC hk hB)⟩
theorem aA.below {rb B:Nat} {a w w':World} (h:Below B a w) (hB:B<=w.heap.size) (hr:B<=rb) (k:aA rb w w'):Below B a w' :=
 ⟨k.os.trans h.os,k.tape.trans h.tape,k.output.trans h.output,zaI h.size k.size,fun i hi=>(k.block i (by omega) (by omega)).trans (h.block i hi)⟩
theorem aA.set (rb:Nat) (w:World) (o:Nat) (u:Value):aA rb w (w.setCell ⟨rb,o,none⟩ u):=by
 have h:=zbF (B:=rb) (Below.refl rb w) (p:=⟨rb,o,none⟩) (zaA) u;exact⟨h.os,h.tape,h.output,h.size,fun k _ hr=>Below.heap_setCell w ⟨rb,o,none⟩ u k hr⟩
theorem aA.drewN {rb:Nat} {a w:World} (h:aA rb a w) (n:Nat):aA rb a (w.drewN n):=h.trans ⟨rfl,rfl,rfl,zaA,fun _ _ _=>rfl⟩
theorem aA.drew {rb:Nat} {a w:World} (h:aA rb a w):aA rb a w.drew:=h.trans ⟨rfl,rfl,rfl,zaA,fun _ _ _=>rfl⟩
theorem aA.cell {rb:Nat} {w w':World} (h:aA rb w w') {p:Addr} (hp:p.block<w.heap.size) (hr:p.block≠rb):w'.cell? p=w.cell? p:=zbJ (w:=w) (h.block p.block hp hr)
theorem aA.wL {rb:Nat} {w w':World} (h:aA rb w w') {b o:Nat} {v:Value} (hc:w.cell? ⟨b,o,none⟩=some v) (hr:b≠rb):w'.cell? ⟨b,o,none⟩=some v:=by
 have hlt:b<w.heap.size:=by
  rcases Nat.lt_or_ge b w.heap.size with h|h
  ·exact h
  ·simp[World.cell?,Array.getElem?_eq_none h] at hc
 rw[h.cell (p:=⟨b,o,none⟩) hlt hr];exact hc
def Bytes (w:World) (rb:Nat) (a:Option Addr) (len cap:Nat):Prop :=
 len<=cap/\cap<=maxLen/\(len=0\/∃ b off,a=some ⟨b,off,none⟩/\b<rb/\∀ i,i<len->∃ m:Int,0<=m/\m<256/\w.cell? ⟨b,off+i,none⟩=some (.int .u8 m))
def Rd (w:World) (rb k:Nat):Prop:=∃ a len cap,∃ p:Int,Bytes w rb a len cap/\w.cell? ⟨rb,0,none⟩=some (.slice a len cap)/\w.cell? ⟨rb,1,none⟩=some (.int .i64 p)/\w.frozen? ⟨rb,1,none⟩=false/\0<=p/\p<=k/\len<=2000/\rb<w.heap.size
theorem Bytes.keep {w w':World} {rb:Nat} {a:Option Addr} {len cap:Nat} (h:Bytes w rb a len cap) (hk:∀ b o v,b<rb->w.cell? ⟨b,o,none⟩=some v->w'.cell? ⟨b,o,none⟩=some v):Bytes w' rb a len cap:=by
 obtain⟨h1,h2,h|⟨b,off,ha,hb,hc⟩⟩:=h
 ·exact⟨h1,h2,.inl h⟩
 ·refine⟨h1,h2,.inr ⟨b,off,ha,hb,fun i hi=>?_⟩⟩
  obtain⟨m,m1,m2,m3⟩:=hc i hi;exact⟨m,m1,m2,hk _ _ _ hb m3⟩
theorem Rd.mono {w:World} {rb k k':Nat} (h:Rd w rb k) (hk:k<=k'):Rd w rb k':=by
 obtain⟨a,len,cap,p,h1,h2,h3,h4,h5,h6,h7,h8⟩:=h;exact⟨a,len,cap,p,h1,h2,h3,h4,h5,by omega,h7,h8⟩
theorem Rd.below {w w':World} {rb k B:Nat} (h:Rd w rb k) (hb:Below B w w') (hB:rb<B):Rd w' rb k:=by
 obtain⟨a,len,cap,p,h1,h2,h3,h4,h5,h6,h7,h8⟩:=h;refine⟨a,len,cap,p,h1.keep fun b o v hbr hc=>?_,?_,?_,?_,h5,h6,h7,zaC h8 hb.size⟩
 ·rw[hb.cell (p:=⟨b,o,none⟩) (Nat.lt_trans hbr hB)];exact hc
 ·rw[hb.cell (p:=⟨rb,0,none⟩) hB];exact h2
 ·rw[hb.cell (p:=⟨rb,1,none⟩) hB];exact h3
 ·rw[hb.frozen (p:=⟨rb,1,none⟩) hB];exact h4
theorem Rd.drewN {w:World} {rb k:Nat} (h:Rd w rb k) (n:Nat):Rd (w.drewN n) rb k:=h.below (B:=rb+1) ⟨rfl,rfl,rfl,zaA,fun _ _=>rfl⟩ (by omega)
theorem Rd.step {w:World} {rb:Nat} {a:Option Addr} {len cap:Nat} {p:Int} {k:Nat} (h1:Bytes w rb a len cap) (h2:w.cell? ⟨rb,0,none⟩=some (.slice a len cap)) (h3:w.cell? ⟨rb,1,none⟩=some (.int .i64 p)) (h4:w.frozen? ⟨rb,1,none⟩=false) (h5:0<=p) (h6:p<=k) (h7:len<=2000) (h8:rb<w.heap.size):Rd (w.setCell ⟨rb,1,none⟩ (.int .i64 (p+1))) rb (k+1):=by
 have hbs:=aA.set rb w 1 (.int .i64 (p+1));refine⟨a,len,cap,p+1,h1.keep fun b o v hbr hc=>hbs.wL hc (by omega),?_,?_,?_,by omega,by omega,h7,zaC h8 hbs.size⟩
 ·exact(zbA w _ _ _ (by simp)).trans h2
 ·exact zbC w _ _ h3
 ·simp[h4]
theorem Rd.alloc {w:World} {rb k:Nat} (h:Rd w rb k) (o:Obj):Rd (w.alloc o) rb k:=by
 have h8:rb<w.heap.size:=by obtain⟨a,len,cap,p,h1,h2,h3,h4,h5,h6,h7,h8⟩:=h;exact h8
 exact h.below (B:=rb+1) (zbG (zaB) (by omega) o) (by omega)
theorem Rd.lt {w:World} {rb k:Nat} (h:Rd w rb k):rb<w.heap.size:=by obtain⟨a,len,cap,p,h1,h2,h3,h4,h5,h6,h7,h8⟩:=h;exact h8
theorem aA.alloc {rb:Nat} {a w:World} (h:aA rb a w) (o:Obj):aA rb a (w.alloc o):=h.trans (aA.aF (B:=w.heap.size) (zbG (zaB) (zaA) o) (zaA))
end Go.Proofs.YtidjpalnmnehmaaGreatDoor

namespace Go.Proofs
open Go.Shelf
def Tryz.lays169_ren:Go.Shelf.Ren:=⟨fun|169=>80|n=>n,fun|70=>133|9=>9|0=>0|72=>135|37=>22|127=>159|3=>3|5=>5|n=>n,fun|n=>n⟩
theorem Tryz.lays169:Go.Proofs.Lays.n169 Tryz.prog Tryz.lays169_ren:={
 mixed:=by kernel_rfl
 f169:=Tryz.func80.trans (congrArg some (by kernel_rfl))
 t0:=Tryz.underlying0
 a0:=Tryz.isAgg0
 z0:=Tryz.sizeOf0
 v0:=Tryz.zeroValue0
 t3:=Tryz.underlying3
 a3:=Tryz.isAgg3
 z3:=Tryz.sizeOf3
 v3:=Tryz.zeroValue3
 t9:=Tryz.underlying9
 a9:=Tryz.isAgg9
 z9:=Tryz.sizeOf9
 v9:=Tryz.zeroValue9
 t37:=Tryz.underlying22
 a37:=Tryz.isAgg22
 z37:=Tryz.sizeOf22
 v37:=Tryz.zeroValue22
 t70:=Tryz.underlying133
 a70:=Tryz.isAgg133
 z70:=Tryz.sizeOf133
 v70:=Tryz.zeroValue133
 t72:=Tryz.underlying135
 a72:=Tryz.isAgg135
 z72:=Tryz.sizeOf135
 v72:=Tryz.zeroValue135
 t127:=Tryz.underlying159
 a127:=Tryz.isAgg159
 z127:=Tryz.sizeOf159
 v127:=Tryz.zeroValue159 }
theorem Tryz.Builder_Extra_169:Builder.Extra Tryz.prog Tryz.lays169_ren:={
 sizeBuilder:=by kernel_rfl
 liesBuilder:=by kernel_rfl
 t5:=Tryz.underlying5
 a5:=Tryz.isAgg5
 z5:=Tryz.sizeOf5
 v5:=Tryz.zeroValue5
 infoByte:=by kernel_rfl
 cellsByte:=by kernel_rfl
 sizeByte:=by kernel_rfl
 neB5:=by decide }
open Go.RowKit in
theorem Tryz.Builder_String (B b:Nat) (l:List UInt8) (w:World) (h:Lib.IsBuilder 135 5 B b (Lib.byteCells l) w) (h0:l≠[]) :
 Calls Tryz.prog 80 #[.pointer (some ⟨b,0,none⟩)] w fun e w'=>e=.returned (.string ⟨l.toArray⟩)/\Below B w w':=Any.Builder_String Tryz.lays169 Tryz.Builder_Extra_169 B b l w h h0
def Tryz.lays156_ren:Go.Shelf.Ren:=⟨fun|156=>59|165=>101|166=>79|169=>80|240=>117|241=>134|276=>146|277=>157|n=>n,fun|31=>111|9=>9|3=>3|4=>4|0=>0|20=>20|72=>135|76=>138|70=>133|37=>22|75=>137|127=>159|164=>181|5=>5|80=>60|n=>n,fun|n=>n⟩
theorem Tryz.lays156:Go.Proofs.Lays.n156 Tryz.prog Tryz.lays156_ren:={
 mixed:=by kernel_rfl
 f156:=Tryz.func59.trans (congrArg some (by kernel_rfl))
 f165:=Tryz.func101.trans (congrArg some (by kernel_rfl))
 f166:=Tryz.func79.trans (congrArg some (by kernel_rfl))
 f169:=Tryz.func80.trans (congrArg some (by kernel_rfl))
 f240:=Tryz.func117.trans (congrArg some (by kernel_rfl))
 f241:=Tryz.func134.trans (congrArg some (by kernel_rfl))
 f276:=Tryz.func146.trans (congrArg some (by kernel_rfl))
 f277:=Tryz.func157.trans (congrArg some (by kernel_rfl))
 t0:=Tryz.underlying0
 a0:=Tryz.isAgg0
 z0:=Tryz.sizeOf0
 v0:=Tryz.zeroValue0
 t3:=Tryz.underlying3
 a3:=Tryz.isAgg3
 z3:=Tryz.sizeOf3
 v3:=Tryz.zeroValue3
 t4:=Tryz.underlying4
 a4:=Tryz.isAgg4
 z4:=Tryz.sizeOf4
 v4:=Tryz.zeroValue4
 t9:=Tryz.underlying9
 a9:=Tryz.isAgg9
 z9:=Tryz.sizeOf9
 v9:=Tryz.zeroValue9
 t20:=Tryz.underlying20
 a20:=Tryz.isAgg20
 z20:=Tryz.sizeOf20
 v20:=Tryz.zeroValue20
 t31:=Tryz.underlying111
 a31:=Tryz.isAgg111
 z31:=Tryz.sizeOf111
 v31:=Tryz.zeroValue111
 t37:=Tryz.underlying22
 a37:=Tryz.isAgg22
 z37:=Tryz.sizeOf22
 v37:=Tryz.zeroValue22
 t70:=Tryz.underlying133
 a70:=Tryz.isAgg133
 z70:=Tryz.sizeOf133
 v70:=Tryz.zeroValue133
 t72:=Tryz.underlying135
 a72:=Tryz.isAgg135
 z72:=Tryz.sizeOf135
 v72:=Tryz.zeroValue135
 t75:=Tryz.underlying137
 a75:=Tryz.isAgg137
 z75:=Tryz.sizeOf137
 v75:=Tryz.zeroValue137
 t76:=Tryz.underlying138
 a76:=Tryz.isAgg138
 z76:=Tryz.sizeOf138
 v76:=Tryz.zeroValue138
 t127:=Tryz.underlying159
 a127:=Tryz.isAgg159
 z127:=Tryz.sizeOf159
 v127:=Tryz.zeroValue159
 t164:=Tryz.underlying181
 a164:=Tryz.isAgg181
 z164:=Tryz.sizeOf181
 v164:=Tryz.zeroValue181 }
theorem Tryz.Builder_Extra_156:Builder.Extra Tryz.prog Tryz.lays156_ren:={
 sizeBuilder:=by kernel_rfl
 liesBuilder:=by kernel_rfl
 t5:=Tryz.underlying5
 a5:=Tryz.isAgg5
 z5:=Tryz.sizeOf5
 v5:=Tryz.zeroValue5
 infoByte:=by kernel_rfl
 cellsByte:=by kernel_rfl
 sizeByte:=by kernel_rfl
 neB5:=by decide }
open Go.RowKit in
theorem Tryz.strings_Join_none (a:Option Addr) (c:Nat) (sep:ByteArray) (w:World) :
 Calls Tryz.prog 59 #[.slice a 0 c,.string sep] w fun e w'=>e=.returned (.string ⟨#[]⟩)/\w'=w:=Any.strings_Join_none Tryz.lays156 Tryz.Builder_Extra_156 a c sep w
open Go.RowKit in
theorem Tryz.strings_Join (bk o c:Nat) (xs:List ByteArray) (sep:ByteArray) (w:World) (hcells:∀ (j:Nat) x,xs[j]? = some x->w.cell? ⟨bk,o+j,none⟩=some (.string x)) (hbk:bk<w.heap.size) (hN:xs.length<=140737488355328) (hcap:xs.length<=c) (hlen:(Lib.join (xs.map (·.data.toList)) sep.data.toList).length<=140737488355328) :
 Calls Tryz.prog 59 #[.slice (some ⟨bk,o,none⟩) xs.length c,.string sep] w fun e w'=>e=.returned (.string ⟨(Lib.join (xs.map (·.data.toList)) sep.data.toList).toArray⟩)/\Below w.heap.size w w':=Any.strings_Join Tryz.lays156 Tryz.Builder_Extra_156 bk o c xs sep w hcells hbk hN hcap hlen
def Tryz.lays161_ren:Go.Shelf.Ren:=⟨fun|161=>90|231=>127|227=>128|233=>129|235=>130|228=>151|197=>152|151=>153|260=>168|152=>169|137=>176|119=>177|224=>161|225=>160|217=>159|266=>172|n=>n,fun|9=>9|4=>4|3=>3|5=>5|117=>170|116=>169|0=>0|124=>173|105=>189|21=>21|119=>200|46=>194|139=>203|138=>202|n=>n,fun|3=>1|4=>2|n=>n⟩
theorem Tryz.lays161:Go.Proofs.Lays.n161 Tryz.prog Tryz.lays161_ren:={
 mixed:=by kernel_rfl
 f119:=Tryz.func177.trans (congrArg some (by kernel_rfl))
 f137:=Tryz.func176.trans (congrArg some (by kernel_rfl))
 f151:=Tryz.func153.trans (congrArg some (by kernel_rfl))
 f152:=Tryz.func169.trans (congrArg some (by kernel_rfl))
 f161:=Tryz.func90.trans (congrArg some (by kernel_rfl))
 f197:=Tryz.func152.trans (congrArg some (by kernel_rfl))
 f217:=Tryz.func159.trans (congrArg some (by kernel_rfl))
 f224:=Tryz.func161.trans (congrArg some (by kernel_rfl))
 f225:=Tryz.func160.trans (congrArg some (by kernel_rfl))
 f227:=Tryz.func128.trans (congrArg some (by kernel_rfl))
 f228:=Tryz.func151.trans (congrArg some (by kernel_rfl))
 f231:=Tryz.func127.trans (congrArg some (by kernel_rfl))
 f233:=Tryz.func129.trans (congrArg some (by kernel_rfl))
 f235:=Tryz.func130.trans (congrArg some (by kernel_rfl))
 f260:=Tryz.func168.trans (congrArg some (by kernel_rfl))
 f266:=Tryz.func172.trans (congrArg some (by kernel_rfl))
 t0:=Tryz.underlying0
 a0:=Tryz.isAgg0
 z0:=Tryz.sizeOf0
 v0:=Tryz.zeroValue0
 t3:=Tryz.underlying3
 a3:=Tryz.isAgg3
 z3:=Tryz.sizeOf3
 v3:=Tryz.zeroValue3
 t4:=Tryz.underlying4
 a4:=Tryz.isAgg4
 z4:=Tryz.sizeOf4
 v4:=Tryz.zeroValue4
 t5:=Tryz.underlying5
 a5:=Tryz.isAgg5
 z5:=Tryz.sizeOf5
 v5:=Tryz.zeroValue5
 t9:=Tryz.underlying9
 a9:=Tryz.isAgg9
 z9:=Tryz.sizeOf9
 v9:=Tryz.zeroValue9
 t21:=Tryz.underlying21
 a21:=Tryz.isAgg21
 z21:=Tryz.sizeOf21
 v21:=Tryz.zeroValue21
 t46:=Tryz.underlying194
 a46:=Tryz.isAgg194
 z46:=Tryz.sizeOf194
 v46:=Tryz.zeroValue194
 t105:=Tryz.underlying189
 a105:=Tryz.isAgg189
 z105:=Tryz.sizeOf189
 v105:=Tryz.zeroValue189
 t116:=Tryz.underlying169
 a116:=Tryz.isAgg169
 z116:=Tryz.sizeOf169
 t117:=Tryz.underlying170
 a117:=Tryz.isAgg170
 z117:=Tryz.sizeOf170
 v117:=Tryz.zeroValue170
 t119:=Tryz.underlying200
 a119:=Tryz.isAgg200
 z119:=Tryz.sizeOf200
 t124:=Tryz.underlying173
 a124:=Tryz.isAgg173
 z124:=Tryz.sizeOf173
 v124:=Tryz.zeroValue173
 t138:=Tryz.underlying202
 a138:=Tryz.isAgg202
 z138:=Tryz.sizeOf202
 v138:=Tryz.zeroValue202
 t139:=Tryz.underlying203
 a139:=Tryz.isAgg203
 z139:=Tryz.sizeOf203
 v139:=Tryz.zeroValue203
 g3:=by kernel_rfl
 g4:=by kernel_rfl }
def Tryz.lays160_ren:Go.Shelf.Ren:=⟨fun|160=>133|232=>154|231=>127|227=>128|234=>155|233=>129|236=>156|235=>130|228=>151|271=>170|151=>153|197=>152|120=>178|152=>169|260=>168|137=>176|119=>177|224=>161|225=>160|217=>159|266=>172|n=>n,fun|9=>9|4=>4|3=>3|5=>5|117=>170|116=>169|0=>0|124=>173|21=>21|105=>189|46=>194|119=>200|139=>203|138=>202|n=>n,fun|3=>1|4=>2|n=>n⟩
theorem Tryz.lays160:Go.Proofs.Lays.n160 Tryz.prog Tryz.lays160_ren:={
 mixed:=by kernel_rfl
 f119:=Tryz.func177.trans (congrArg some (by kernel_rfl))
 f120:=Tryz.func178.trans (congrArg some (by kernel_rfl))
 f137:=Tryz.func176.trans (congrArg some (by kernel_rfl))
 f151:=Tryz.func153.trans (congrArg some (by kernel_rfl))
 f152:=Tryz.func169.trans (congrArg some (by kernel_rfl))
 f160:=Tryz.func133.trans (congrArg some (by kernel_rfl))
 f197:=Tryz.func152.trans (congrArg some (by kernel_rfl))
 f217:=Tryz.func159.trans (congrArg some (by kernel_rfl))
 f224:=Tryz.func161.trans (congrArg some (by kernel_rfl))
 f225:=Tryz.func160.trans (congrArg some (by kernel_rfl))
 f227:=Tryz.func128.trans (congrArg some (by kernel_rfl))
 f228:=Tryz.func151.trans (congrArg some (by kernel_rfl))
 f231:=Tryz.func127.trans (congrArg some (by kernel_rfl))
 f232:=Tryz.func154.trans (congrArg some (by kernel_rfl))
 f233:=Tryz.func129.trans (congrArg some (by kernel_rfl))
 f234:=Tryz.func155.trans (congrArg some (by kernel_rfl))
 f235:=Tryz.func130.trans (congrArg some (by kernel_rfl))
 f236:=Tryz.func156.trans (congrArg some (by kernel_rfl))
 f260:=Tryz.func168.trans (congrArg some (by kernel_rfl))
 f266:=Tryz.func172.trans (congrArg some (by kernel_rfl))
 f271:=Tryz.func170.trans (congrArg some (by kernel_rfl))
 t0:=Tryz.underlying0
 a0:=Tryz.isAgg0
 z0:=Tryz.sizeOf0
 v0:=Tryz.zeroValue0
 t3:=Tryz.underlying3
 a3:=Tryz.isAgg3
 z3:=Tryz.sizeOf3
 v3:=Tryz.zeroValue3
 t4:=Tryz.underlying4
 a4:=Tryz.isAgg4
 z4:=Tryz.sizeOf4
 v4:=Tryz.zeroValue4
 t5:=Tryz.underlying5
 a5:=Tryz.isAgg5
 z5:=Tryz.sizeOf5
 v5:=Tryz.zeroValue5
 t9:=Tryz.underlying9
 a9:=Tryz.isAgg9
 z9:=Tryz.sizeOf9
 v9:=Tryz.zeroValue9
 t21:=Tryz.underlying21
 a21:=Tryz.isAgg21
 z21:=Tryz.sizeOf21
 v21:=Tryz.zeroValue21
 t46:=Tryz.underlying194
 a46:=Tryz.isAgg194
 z46:=Tryz.sizeOf194
 v46:=Tryz.zeroValue194
 t105:=Tryz.underlying189
 a105:=Tryz.isAgg189
 z105:=Tryz.sizeOf189
 v105:=Tryz.zeroValue189
 t116:=Tryz.underlying169
 a116:=Tryz.isAgg169
 z116:=Tryz.sizeOf169
 t117:=Tryz.underlying170
 a117:=Tryz.isAgg170
 z117:=Tryz.sizeOf170
 v117:=Tryz.zeroValue170
 t119:=Tryz.underlying200
 a119:=Tryz.isAgg200
 z119:=Tryz.sizeOf200
 t124:=Tryz.underlying173
 a124:=Tryz.isAgg173
 z124:=Tryz.sizeOf173
 v124:=Tryz.zeroValue173
 t138:=Tryz.underlying202
 a138:=Tryz.isAgg202
 z138:=Tryz.sizeOf202
 v138:=Tryz.zeroValue202
 t139:=Tryz.underlying203
 a139:=Tryz.isAgg203
 z139:=Tryz.sizeOf203
 v139:=Tryz.zeroValue203
 g3:=by kernel_rfl
 g4:=by kernel_rfl }
def Tryz.lays103_ren:Go.Shelf.Ren:=⟨fun|103=>144|210=>166|206=>131|n=>n,fun|9=>9|4=>4|24=>25|3=>3|n=>n,fun|n=>n⟩
theorem Tryz.lays103:Go.Proofs.Lays.n103 Tryz.prog Tryz.lays103_ren:={
 mixed:=by kernel_rfl
 f103:=Tryz.func144.trans (congrArg some (by kernel_rfl))
 f206:=Tryz.func131.trans (congrArg some (by kernel_rfl))
 f210:=Tryz.func166.trans (congrArg some (by kernel_rfl))
 t3:=Tryz.underlying3
 a3:=Tryz.isAgg3
 z3:=Tryz.sizeOf3
 v3:=Tryz.zeroValue3
 t4:=Tryz.underlying4
 a4:=Tryz.isAgg4
 z4:=Tryz.sizeOf4
 v4:=Tryz.zeroValue4
 t9:=Tryz.underlying9
 a9:=Tryz.isAgg9
 z9:=Tryz.sizeOf9
 v9:=Tryz.zeroValue9
 t24:=Tryz.underlying25
 a24:=Tryz.isAgg25
 z24:=Tryz.sizeOf25
 v24:=Tryz.zeroValue25 }
open Go.RowKit in
theorem Tryz.strings_CutPrefix (s p:ByteArray) (w:World) :
 Calls Tryz.prog 144 #[.string s,.string p] w fun e w'=>e=.returned (.tuple #[.string ⟨(Lib.trimPrefix s.data.toList p.data.toList).toArray⟩,.bool (Lib.hasPrefix s.data.toList p.data.toList)])/\w'=w:=Any.strings_CutPrefix Tryz.lays103 s p w
def Tryz.lays144_ren:Go.Shelf.Ren:=⟨fun|144=>107|143=>137|219=>136|217=>159|225=>160|224=>161|267=>162|266=>172|314=>173|n=>n,fun|9=>9|4=>4|3=>3|5=>5|46=>194|146=>198|51=>197|n=>n,fun|1=>0|n=>n⟩
theorem Tryz.lays144:Go.Proofs.Lays.n144 Tryz.prog Tryz.lays144_ren:={
 mixed:=by kernel_rfl
 f143:=Tryz.func137.trans (congrArg some (by kernel_rfl))
 f144:=Tryz.func107.trans (congrArg some (by kernel_rfl))
 f217:=Tryz.func159.trans (congrArg some (by kernel_rfl))
 f219:=Tryz.func136.trans (congrArg some (by kernel_rfl))
 f224:=Tryz.func161.trans (congrArg some (by kernel_rfl))
 f225:=Tryz.func160.trans (congrArg some (by kernel_rfl))
 f266:=Tryz.func172.trans (congrArg some (by kernel_rfl))
 f267:=Tryz.func162.trans (congrArg some (by kernel_rfl))
 f314:=Tryz.func173.trans (congrArg some (by kernel_rfl))
 t3:=Tryz.underlying3
 a3:=Tryz.isAgg3
 z3:=Tryz.sizeOf3
 v3:=Tryz.zeroValue3
 t4:=Tryz.underlying4
 a4:=Tryz.isAgg4
 z4:=Tryz.sizeOf4
 v4:=Tryz.zeroValue4
 t5:=Tryz.underlying5
 a5:=Tryz.isAgg5
 z5:=Tryz.sizeOf5
 v5:=Tryz.zeroValue5
 t9:=Tryz.underlying9
 a9:=Tryz.isAgg9
 z9:=Tryz.sizeOf9
 v9:=Tryz.zeroValue9
 t46:=Tryz.underlying194
 a46:=Tryz.isAgg194
 z46:=Tryz.sizeOf194
 v46:=Tryz.zeroValue194
 t51:=Tryz.underlying197
 a51:=Tryz.isAgg197
 z51:=Tryz.sizeOf197
 v51:=Tryz.zeroValue197
 t146:=Tryz.underlying198
 a146:=Tryz.isAgg198
 z146:=Tryz.sizeOf198
 v146:=Tryz.zeroValue198
 g1:=by kernel_rfl }
open Go.RowKit Go.Lib in
theorem Tryz.strings_Contains_one (s:ByteArray) (c:UInt8) (w:World) :
 Calls Tryz.prog 107 #[.string s,.string ⟨#[c]⟩] w fun e w'=>e=.returned (.bool (decide (0<=Lib.indexByte s.data.toList c)))/\w'=w:=Any.strings_Contains_one Tryz.lays144 s c w
open Go.RowKit Go.Lib in
theorem Tryz.strings_Contains (s sub:ByteArray) (m:Int) (w:World) (hs:s.size<4294967281) (hm:w.cell? ⟨0,0,none⟩=some (.int .i64 m)) :
 Calls Tryz.prog 107 #[.string s,.string sub] w fun e w'=>e=.returned (.bool (Lib.contains s.data.toList sub.data.toList))/\w'=w:=Any.strings_Contains Tryz.lays144 s sub m w hs hm
def Tryz.lays145_ren:Go.Shelf.Ren:=⟨fun|145=>68|220=>106|219=>136|217=>159|225=>160|224=>161|267=>162|266=>172|314=>173|n=>n,fun|9=>9|4=>4|59=>121|3=>3|5=>5|46=>194|146=>198|51=>197|n=>n,fun|1=>0|n=>n⟩
theorem Tryz.lays145:Go.Proofs.Lays.n145 Tryz.prog Tryz.lays145_ren:={
 mixed:=by kernel_rfl
 f145:=Tryz.func68.trans (congrArg some (by kernel_rfl))
 f217:=Tryz.func159.trans (congrArg some (by kernel_rfl))
 f219:=Tryz.func136.trans (congrArg some (by kernel_rfl))
 f220:=Tryz.func106.trans (congrArg some (by kernel_rfl))
 f224:=Tryz.func161.trans (congrArg some (by kernel_rfl))
 f225:=Tryz.func160.trans (congrArg some (by kernel_rfl))
 f266:=Tryz.func172.trans (congrArg some (by kernel_rfl))
 f267:=Tryz.func162.trans (congrArg some (by kernel_rfl))
 f314:=Tryz.func173.trans (congrArg some (by kernel_rfl))
 t3:=Tryz.underlying3
 a3:=Tryz.isAgg3
 z3:=Tryz.sizeOf3
 v3:=Tryz.zeroValue3
 t4:=Tryz.underlying4
 a4:=Tryz.isAgg4
 z4:=Tryz.sizeOf4
 v4:=Tryz.zeroValue4
 t5:=Tryz.underlying5
 a5:=Tryz.isAgg5
 z5:=Tryz.sizeOf5
 v5:=Tryz.zeroValue5
 t9:=Tryz.underlying9
 a9:=Tryz.isAgg9
 z9:=Tryz.sizeOf9
 v9:=Tryz.zeroValue9
 t46:=Tryz.underlying194
 a46:=Tryz.isAgg194
 z46:=Tryz.sizeOf194
 v46:=Tryz.zeroValue194
 t51:=Tryz.underlying197
 a51:=Tryz.isAgg197
 z51:=Tryz.sizeOf197
 v51:=Tryz.zeroValue197
 t59:=Tryz.underlying121
 a59:=Tryz.isAgg121
 z59:=Tryz.sizeOf121
 v59:=Tryz.zeroValue121
 t146:=Tryz.underlying198
 a146:=Tryz.isAgg198
 z146:=Tryz.sizeOf198
 v146:=Tryz.zeroValue198
 g1:=by kernel_rfl }
open Go.RowKit Go.Lib in
theorem Tryz.strings_Cut (s sep:ByteArray) (m:Int) (w:World) (hs:s.size<4294967281) (hm:w.cell? ⟨0,0,none⟩=some (.int .i64 m)) :
 Calls Tryz.prog 68 #[.string s,.string sep] w fun e w'=>e=.returned (.tuple #[.string ⟨(Lib.cut s.data.toList sep.data.toList).1.toArray⟩,.string ⟨(Lib.cut s.data.toList sep.data.toList).2.1.toArray⟩,.bool (Lib.cut s.data.toList sep.data.toList).2.2])/\∃ n,w'=w.drewN n:=Any.strings_Cut Tryz.lays145 s sep m w hs hm
def Tryz.laysM144_ren:Go.Shelf.Ren:=⟨fun|144=>107|143=>137|219=>136|217=>159|225=>160|224=>161|267=>162|266=>172|314=>173|n=>n,fun|9=>9|4=>4|3=>3|5=>5|46=>194|146=>198|51=>197|n=>n,fun|1=>0|n=>n⟩
theorem Tryz.laysM144:Go.Proofs.LaysM.n144 Tryz.prog Tryz.laysM144_ren:={
 mixed:=by kernel_rfl
 f143:=Tryz.func137.trans (congrArg some (by kernel_rfl))
 f144:=Tryz.func107.trans (congrArg some (by kernel_rfl))
 f217:=Tryz.func159.trans (congrArg some (by kernel_rfl))
 f219:=Tryz.func136.trans (congrArg some (by kernel_rfl))
 f224:=Tryz.func161.trans (congrArg some (by kernel_rfl))
 f225:=Tryz.func160.trans (congrArg some (by kernel_rfl))
 f266:=Tryz.func172.trans (congrArg some (by kernel_rfl))
 f267:=Tryz.func162.trans (congrArg some (by kernel_rfl))
 f314:=Tryz.func173.trans (congrArg some (by kernel_rfl))
 t3:=Tryz.underlying3
 a3:=Tryz.isAgg3
 z3:=Tryz.sizeOf3
 v3:=Tryz.zeroValue3
 t4:=Tryz.underlying4
 a4:=Tryz.isAgg4
 z4:=Tryz.sizeOf4
 v4:=Tryz.zeroValue4
 t5:=Tryz.underlying5
 a5:=Tryz.isAgg5
 z5:=Tryz.sizeOf5
 v5:=Tryz.zeroValue5
 t9:=Tryz.underlying9
 a9:=Tryz.isAgg9
 z9:=Tryz.sizeOf9
 v9:=Tryz.zeroValue9
 t46:=Tryz.underlying194
 a46:=Tryz.isAgg194
 z46:=Tryz.sizeOf194
 v46:=Tryz.zeroValue194
 t51:=Tryz.underlying197
 a51:=Tryz.isAgg197
 z51:=Tryz.sizeOf197
 v51:=Tryz.zeroValue197
 t146:=Tryz.underlying198
 a146:=Tryz.isAgg198
 z146:=Tryz.sizeOf198
 v146:=Tryz.zeroValue198
 g1:=by kernel_rfl
 i3:=by kernel_rfl
 i4:=by kernel_rfl
 i5:=by kernel_rfl
 i9:=by kernel_rfl
 i46:=by kernel_rfl
 i51:=by kernel_rfl
 i146:=by kernel_rfl
 m1:=by kernel_rfl
 s1_3:=fun w h=>Go.Proofs.cell_of_shapedOpen_int (zero:=#[.int .i64 0]) (t:=3) h (of_decide_eq_true (by kernel_rfl)) (by kernel_rfl) rfl (by kernel_rfl) (by kernel_rfl) Tryz.underlying3 }
def Tryz.laysM145_ren:Go.Shelf.Ren:=⟨fun|145=>68|220=>106|219=>136|217=>159|225=>160|224=>161|267=>162|266=>172|314=>173|n=>n,fun|9=>9|4=>4|59=>121|3=>3|5=>5|46=>194|146=>198|51=>197|n=>n,fun|1=>0|n=>n⟩
theorem Tryz.laysM145:Go.Proofs.LaysM.n145 Tryz.prog Tryz.laysM145_ren:={
 mixed:=by kernel_rfl
 f145:=Tryz.func68.trans (congrArg some (by kernel_rfl))
 f217:=Tryz.func159.trans (congrArg some (by kernel_rfl))
 f219:=Tryz.func136.trans (congrArg some (by kernel_rfl))
 f220:=Tryz.func106.trans (congrArg some (by kernel_rfl))
 f224:=Tryz.func161.trans (congrArg some (by kernel_rfl))
 f225:=Tryz.func160.trans (congrArg some (by kernel_rfl))
 f266:=Tryz.func172.trans (congrArg some (by kernel_rfl))
 f267:=Tryz.func162.trans (congrArg some (by kernel_rfl))
 f314:=Tryz.func173.trans (congrArg some (by kernel_rfl))
 t3:=Tryz.underlying3
 a3:=Tryz.isAgg3
 z3:=Tryz.sizeOf3
 v3:=Tryz.zeroValue3
 t4:=Tryz.underlying4
 a4:=Tryz.isAgg4
 z4:=Tryz.sizeOf4
 v4:=Tryz.zeroValue4
 t5:=Tryz.underlying5
 a5:=Tryz.isAgg5
 z5:=Tryz.sizeOf5
 v5:=Tryz.zeroValue5
 t9:=Tryz.underlying9
 a9:=Tryz.isAgg9
 z9:=Tryz.sizeOf9
 v9:=Tryz.zeroValue9
 t46:=Tryz.underlying194
 a46:=Tryz.isAgg194
 z46:=Tryz.sizeOf194
 v46:=Tryz.zeroValue194
 t51:=Tryz.underlying197
 a51:=Tryz.isAgg197
 z51:=Tryz.sizeOf197
 v51:=Tryz.zeroValue197
 t59:=Tryz.underlying121
 a59:=Tryz.isAgg121
 z59:=Tryz.sizeOf121
 v59:=Tryz.zeroValue121
 t146:=Tryz.underlying198
 a146:=Tryz.isAgg198
 z146:=Tryz.sizeOf198
 v146:=Tryz.zeroValue198
 g1:=by kernel_rfl
 i3:=by kernel_rfl
 i4:=by kernel_rfl
 i5:=by kernel_rfl
 i9:=by kernel_rfl
 i46:=by kernel_rfl
 i51:=by kernel_rfl
 i59:=by kernel_rfl
 i146:=by kernel_rfl
 m1:=by kernel_rfl
 s1_3:=fun w h=>Go.Proofs.cell_of_shapedOpen_int (zero:=#[.int .i64 0]) (t:=3) h (of_decide_eq_true (by kernel_rfl)) (by kernel_rfl) rfl (by kernel_rfl) (by kernel_rfl) Tryz.underlying3 }
open Go.RowKit Go.Lib in
theorem Tryz.strings_Cut_shaped (s sep:ByteArray) (w:World) (h:w.ShapedOpen Tryz.prog) (hs:s.size<4294967281) :
 Calls Tryz.prog 68 #[.string s,.string sep] w fun e w'=>e=.returned (.tuple #[.string ⟨(Lib.cut s.data.toList sep.data.toList).1.toArray⟩,.string ⟨(Lib.cut s.data.toList sep.data.toList).2.1.toArray⟩,.bool (Lib.cut s.data.toList sep.data.toList).2.2])/\∃ n,w'=w.drewN n:=Any.strings_Cut_shaped Tryz.laysM145 s sep w h hs
def Tryz.lays99_ren:Go.Shelf.Ren:=⟨fun|99=>91|206=>131|n=>n,fun|9=>9|4=>4|3=>3|n=>n,fun|n=>n⟩
theorem Tryz.lays99:Go.Proofs.Lays.n99 Tryz.prog Tryz.lays99_ren:={
 mixed:=by kernel_rfl
 f99:=Tryz.func91.trans (congrArg some (by kernel_rfl))
 f206:=Tryz.func131.trans (congrArg some (by kernel_rfl))
 t3:=Tryz.underlying3
 a3:=Tryz.isAgg3
 z3:=Tryz.sizeOf3
 v3:=Tryz.zeroValue3
 t4:=Tryz.underlying4
 a4:=Tryz.isAgg4
 z4:=Tryz.sizeOf4
 v4:=Tryz.zeroValue4
 t9:=Tryz.underlying9
 a9:=Tryz.isAgg9
 z9:=Tryz.sizeOf9
 v9:=Tryz.zeroValue9 }
open Go.RowKit Go.Lib in
theorem Tryz.strings_HasPrefix (s p:ByteArray) (w:World) :
 Calls Tryz.prog 91 #[.string s,.string p] w fun e w'=>e=.returned (.bool (Lib.hasPrefix s.data.toList p.data.toList))/\w'=w:=Any.strings_HasPrefix Tryz.lays99 s p w
def Tryz.lays100_ren:Go.Shelf.Ren:=⟨fun|100=>92|207=>132|n=>n,fun|9=>9|4=>4|3=>3|n=>n,fun|n=>n⟩
theorem Tryz.lays100:Go.Proofs.Lays.n100 Tryz.prog Tryz.lays100_ren:={
 mixed:=by kernel_rfl
 f100:=Tryz.func92.trans (congrArg some (by kernel_rfl))
 f207:=Tryz.func132.trans (congrArg some (by kernel_rfl))
 t3:=Tryz.underlying3
 a3:=Tryz.isAgg3
 z3:=Tryz.sizeOf3
 v3:=Tryz.zeroValue3
 t4:=Tryz.underlying4
 a4:=Tryz.isAgg4
 z4:=Tryz.sizeOf4
 v4:=Tryz.zeroValue4
 t9:=Tryz.underlying9
 a9:=Tryz.isAgg9
 z9:=Tryz.sizeOf9
 v9:=Tryz.zeroValue9 }
open Go.RowKit Go.Lib in
theorem Tryz.strings_HasSuffix (s p:ByteArray) (w:World) (hs:s.size<=9223372036854775807) :
 Calls Tryz.prog 92 #[.string s,.string p] w fun e w'=>e=.returned (.bool (Lib.hasSuffix s.data.toList p.data.toList))/\w'=w:=Any.strings_HasSuffix Tryz.lays100 s p w hs
def Tryz.lays146_ren:Go.Shelf.Ren:=⟨fun|146=>108|221=>138|268=>163|138=>164|143=>137|195=>174|197=>152|218=>175|219=>136|260=>168|217=>159|225=>160|224=>161|267=>162|266=>172|314=>173|n=>n,fun|9=>9|31=>111|3=>3|4=>4|0=>0|105=>189|21=>21|5=>5|46=>194|119=>200|139=>203|138=>202|146=>198|51=>197|n=>n,fun|1=>0|3=>1|4=>2|n=>n⟩
theorem Tryz.lays146:Go.Proofs.Lays.n146 Tryz.prog Tryz.lays146_ren:={
 mixed:=by kernel_rfl
 f138:=Tryz.func164.trans (congrArg some (by kernel_rfl))
 f143:=Tryz.func137.trans (congrArg some (by kernel_rfl))
 f146:=Tryz.func108.trans (congrArg some (by kernel_rfl))
 f195:=Tryz.func174.trans (congrArg some (by kernel_rfl))
 f197:=Tryz.func152.trans (congrArg some (by kernel_rfl))
 f217:=Tryz.func159.trans (congrArg some (by kernel_rfl))
 f218:=Tryz.func175.trans (congrArg some (by kernel_rfl))
 f219:=Tryz.func136.trans (congrArg some (by kernel_rfl))
 f221:=Tryz.func138.trans (congrArg some (by kernel_rfl))
 f224:=Tryz.func161.trans (congrArg some (by kernel_rfl))
 f225:=Tryz.func160.trans (congrArg some (by kernel_rfl))
 f260:=Tryz.func168.trans (congrArg some (by kernel_rfl))
 f266:=Tryz.func172.trans (congrArg some (by kernel_rfl))
 f267:=Tryz.func162.trans (congrArg some (by kernel_rfl))
 f268:=Tryz.func163.trans (congrArg some (by kernel_rfl))
 f314:=Tryz.func173.trans (congrArg some (by kernel_rfl))
 t0:=Tryz.underlying0
 a0:=Tryz.isAgg0
 z0:=Tryz.sizeOf0
 v0:=Tryz.zeroValue0
 t3:=Tryz.underlying3
 a3:=Tryz.isAgg3
 z3:=Tryz.sizeOf3
 v3:=Tryz.zeroValue3
 t4:=Tryz.underlying4
 a4:=Tryz.isAgg4
 z4:=Tryz.sizeOf4
 v4:=Tryz.zeroValue4
 t5:=Tryz.underlying5
 a5:=Tryz.isAgg5
 z5:=Tryz.sizeOf5
 v5:=Tryz.zeroValue5
 t9:=Tryz.underlying9
 a9:=Tryz.isAgg9
 z9:=Tryz.sizeOf9
 v9:=Tryz.zeroValue9
 t21:=Tryz.underlying21
 a21:=Tryz.isAgg21
 z21:=Tryz.sizeOf21
 v21:=Tryz.zeroValue21
 t31:=Tryz.underlying111
 a31:=Tryz.isAgg111
 z31:=Tryz.sizeOf111
 v31:=Tryz.zeroValue111
 t46:=Tryz.underlying194
 a46:=Tryz.isAgg194
 z46:=Tryz.sizeOf194
 v46:=Tryz.zeroValue194
 t51:=Tryz.underlying197
 a51:=Tryz.isAgg197
 z51:=Tryz.sizeOf197
 v51:=Tryz.zeroValue197
 t105:=Tryz.underlying189
 a105:=Tryz.isAgg189
 z105:=Tryz.sizeOf189
 v105:=Tryz.zeroValue189
 t119:=Tryz.underlying200
 a119:=Tryz.isAgg200
 z119:=Tryz.sizeOf200
 t138:=Tryz.underlying202
 a138:=Tryz.isAgg202
 z138:=Tryz.sizeOf202
 v138:=Tryz.zeroValue202
 t139:=Tryz.underlying203
 a139:=Tryz.isAgg203
 z139:=Tryz.sizeOf203
 v139:=Tryz.zeroValue203
 t146:=Tryz.underlying198
 a146:=Tryz.isAgg198
 z146:=Tryz.sizeOf198
 v146:=Tryz.zeroValue198
 g1:=by kernel_rfl
 g3:=by kernel_rfl
 g4:=by kernel_rfl }
open Go.RowKit Go.Lib in
theorem Tryz.strings_Split (s sep:ByteArray) (m:Int) (w:World) (hs:s.size<4294967281) (hm:w.cell? ⟨0,0,none⟩=some (.int .i64 m)) (h1:1<=sep.size) :
 Calls Tryz.prog 108 #[.string s,.string sep] w fun e w' =>
  e=.returned (.slice (some ⟨w.heap.size,0,none⟩) (Lib.countB s sep+1) (Lib.countB s sep+1))/\w'=w.alloc (.cells ((Lib.splitB sep 0 (Lib.countB s sep) s).map Value.string).toArray 9):=Any.strings_Split Tryz.lays146 (by kernel_rfl) s sep m w hs hm h1
def Tryz.laysM146_ren:Go.Shelf.Ren:=⟨fun|146=>108|221=>138|268=>163|138=>164|143=>137|195=>174|197=>152|218=>175|219=>136|260=>168|217=>159|225=>160|224=>161|267=>162|266=>172|314=>173|n=>n,fun|9=>9|31=>111|3=>3|4=>4|0=>0|105=>189|21=>21|5=>5|46=>194|119=>200|139=>203|138=>202|146=>198|51=>197|n=>n,fun|1=>0|3=>1|4=>2|n=>n⟩
theorem Tryz.laysM146:Go.Proofs.LaysM.n146 Tryz.prog Tryz.laysM146_ren:={
 mixed:=by kernel_rfl
 f138:=Tryz.func164.trans (congrArg some (by kernel_rfl))
 f143:=Tryz.func137.trans (congrArg some (by kernel_rfl))
 f146:=Tryz.func108.trans (congrArg some (by kernel_rfl))
 f195:=Tryz.func174.trans (congrArg some (by kernel_rfl))
 f197:=Tryz.func152.trans (congrArg some (by kernel_rfl))
 f217:=Tryz.func159.trans (congrArg some (by kernel_rfl))
 f218:=Tryz.func175.trans (congrArg some (by kernel_rfl))
 f219:=Tryz.func136.trans (congrArg some (by kernel_rfl))
 f221:=Tryz.func138.trans (congrArg some (by kernel_rfl))
 f224:=Tryz.func161.trans (congrArg some (by kernel_rfl))
 f225:=Tryz.func160.trans (congrArg some (by kernel_rfl))
 f260:=Tryz.func168.trans (congrArg some (by kernel_rfl))
 f266:=Tryz.func172.trans (congrArg some (by kernel_rfl))
 f267:=Tryz.func162.trans (congrArg some (by kernel_rfl))
 f268:=Tryz.func163.trans (congrArg some (by kernel_rfl))
 f314:=Tryz.func173.trans (congrArg some (by kernel_rfl))
 t0:=Tryz.underlying0
 a0:=Tryz.isAgg0
 z0:=Tryz.sizeOf0
 v0:=Tryz.zeroValue0
 t3:=Tryz.underlying3
 a3:=Tryz.isAgg3
 z3:=Tryz.sizeOf3
 v3:=Tryz.zeroValue3
 t4:=Tryz.underlying4
 a4:=Tryz.isAgg4
 z4:=Tryz.sizeOf4
 v4:=Tryz.zeroValue4
 t5:=Tryz.underlying5
 a5:=Tryz.isAgg5
 z5:=Tryz.sizeOf5
 v5:=Tryz.zeroValue5
 t9:=Tryz.underlying9
 a9:=Tryz.isAgg9
 z9:=Tryz.sizeOf9
 v9:=Tryz.zeroValue9
 t21:=Tryz.underlying21
 a21:=Tryz.isAgg21
 z21:=Tryz.sizeOf21
 v21:=Tryz.zeroValue21
 t31:=Tryz.underlying111
 a31:=Tryz.isAgg111
 z31:=Tryz.sizeOf111
 v31:=Tryz.zeroValue111
 t46:=Tryz.underlying194
 a46:=Tryz.isAgg194
 z46:=Tryz.sizeOf194
 v46:=Tryz.zeroValue194
 t51:=Tryz.underlying197
 a51:=Tryz.isAgg197
 z51:=Tryz.sizeOf197
 v51:=Tryz.zeroValue197
 t105:=Tryz.underlying189
 a105:=Tryz.isAgg189
 z105:=Tryz.sizeOf189
 v105:=Tryz.zeroValue189
 t119:=Tryz.underlying200
 a119:=Tryz.isAgg200
 z119:=Tryz.sizeOf200
 t138:=Tryz.underlying202
 a138:=Tryz.isAgg202
 z138:=Tryz.sizeOf202
 v138:=Tryz.zeroValue202
 t139:=Tryz.underlying203
 a139:=Tryz.isAgg203
 z139:=Tryz.sizeOf203
 v139:=Tryz.zeroValue203
 t146:=Tryz.underlying198
 a146:=Tryz.isAgg198
 z146:=Tryz.sizeOf198
 v146:=Tryz.zeroValue198
 g1:=by kernel_rfl
 g3:=by kernel_rfl
 g4:=by kernel_rfl
 i0:=by kernel_rfl
 i3:=by kernel_rfl
 i4:=by kernel_rfl
 i5:=by kernel_rfl
 i9:=by kernel_rfl
 i21:=by kernel_rfl
 i31:=by kernel_rfl
 i46:=by kernel_rfl
 i51:=by kernel_rfl
 i105:=by kernel_rfl
 i138:=by kernel_rfl
 i139:=by kernel_rfl
 i146:=by kernel_rfl
 m1:=by kernel_rfl
 s1_3:=fun w h=>Go.Proofs.cell_of_shapedOpen_int (zero:=#[.int .i64 0]) (t:=3) h (of_decide_eq_true (by kernel_rfl)) (by kernel_rfl) rfl (by kernel_rfl) (by kernel_rfl) Tryz.underlying3
 m3:=by kernel_rfl
 m4:=by kernel_rfl }
open Go.RowKit Go.Lib in
theorem Tryz.strings_Split_shaped (s sep:ByteArray) (w:World) (h:w.ShapedOpen Tryz.prog) (hs:s.size<4294967281) (h1:1<=sep.size) :
 Calls Tryz.prog 108 #[.string s,.string sep] w fun e w' =>
  e=.returned (.slice (some ⟨w.heap.size,0,none⟩) (Lib.countB s sep+1) (Lib.countB s sep+1))/\w'=w.alloc (.cells ((Lib.splitB sep 0 (Lib.countB s sep) s).map Value.string).toArray 9):=Any.strings_Split_shaped Tryz.laysM146 s sep w h hs h1
end Go.Proofs

namespace Go.Proofs.YtidjpalnmnehmaaGreatDoor
open Go.RowKit
theorem a0I (s:ByteArray) (w:World):Calls Tryz.prog 90 #[.string s,.string ⟨#[91,63]⟩] w fun e w'=>e=.returned (.string ⟨(Lib.trimLeftS s.data.toList [91,63]).toArray⟩)/\Go.RowKit.Below w.heap.size w w' :=
 Any.strings_TrimLeft_laid Tryz.lays161 (by kernel_rfl) s ⟨#[91,63]⟩ w (by decide) (ascii_of_all (by decide))
theorem a0W (s:ByteArray) (w:World) (hs:s.size<=9223372036854775807):Calls Tryz.prog 133 #[.string s,.string ⟨#[97,98,99,100,101,102,103,104,105,106,107,108,109,110,111,112,113,114,115,116,117,118,119,120,121,122]⟩] w fun e w'=>e=.returned (.string ⟨(Lib.trimS s.data.toList [97,98,99,100,101,102,103,104,105,106,107,108,109,110,111,112,113,114,115,116,117,118,119,120,121,122]).toArray⟩)/\Go.RowKit.Below w.heap.size w w' :=
 Any.strings_Trim_laid Tryz.lays160 (by kernel_rfl) s ⟨#[97,98,99,100,101,102,103,104,105,106,107,108,109,110,111,112,113,114,115,116,117,118,119,120,121,122]⟩ w hs (by decide) (ascii_of_all (by decide))
end Go.Proofs.YtidjpalnmnehmaaGreatDoor

namespace Go.Proofs.YtidjpalnmnehmaaGreatDoor
def gK:List UInt8:=[97,98,99,100,101,102,103,104,105,106,107,108,109,110,111,112,113,114,115,116,117,118,119,120,121,122]
theorem yE (c:UInt8):gK.contains c=Wf.bO c:=by
 have h:∀ n:Fin 256,gK.contains (UInt8.ofNat n.val)=Wf.bO (UInt8.ofNat n.val):=by decide +kernel
 have:=h ⟨c.toNat,c.toNat_lt⟩;simpa using this
theorem drop_nil {α:Type} (p:α->Bool) (l:List α):l.dropWhile p=[]↔l.all p=true:=by
 induction l with
 | nil=>simp
 | cons a l ih=>by_cases h:p a=true <;> simp[h,ih]
theorem a2C (l:List UInt8):Lib.trimS l gK=[]↔l.all Wf.bO=true:=by
 have hp:(fun x=>gK.contains x)=Wf.bO:=funext yE;unfold Lib.trimS Lib.trimLeftS Lib.trimRightS;rw[hp,drop_nil];constructor
 ·intro h
  have h2:l.reverse.all Wf.bO=true:=by
   rw[<-List.takeWhile_append_dropWhile (p:=Wf.bO) (l:=l.reverse),List.all_append,List.all_takeWhile,Bool.true_and];simpa using h
  simpa using h2
 ·intro h
  have:l.reverse.dropWhile Wf.bO=[]:=(drop_nil _ _).2 (by simpa using h);rw[this];rfl
end Go.Proofs.YtidjpalnmnehmaaGreatDoor

namespace Go.Proofs.YtidjpalnmnehmaaGreatDoor
open Go.ChangeShapes Go.WideShapes Go.ChangeAt Go.RowKit Go.Lib
theorem zO (n a b:Int) (w:World) (h1:a<=n) (h2:n<=b):Calls Tryz.prog 149 #[.int .i64 n,.int .i64 a,.int .i64 b] w fun e w'=>e=.returned (.bool true)/\w=w':=by
 go_enter Tryz.func149,Tryz.ntmps149;go_wp2;go_ret
 exact⟨rfl,rfl⟩
theorem aN {x y:Bool} (h2:x=y):Ending.returned (.bool x)=.returned (.bool y):=by rw[h2]
theorem pR (n a b:Int) (w:World) (h:n<a\/b<n):Calls Tryz.prog 149 #[.int .i64 n,.int .i64 a,.int .i64 b] w fun e w'=>e=.returned (.bool false)/\w=w':=by
 by_cases h1:a<=n
 ·have h2:b<n:=by omega
  clear h;go_enter Tryz.func149,Tryz.ntmps149;go_wp2;go_ret
  exact⟨aN (decide_eq_false (by omega)),rfl⟩
 ·have h2:n<a:=by omega
  clear h;go_enter Tryz.func149,Tryz.ntmps149;go_wp2;go_ret
  exact⟨aN rfl,rfl⟩
theorem byte_at (s:ByteArray) (i:Nat) (h:i<s.size):∃ c:UInt8,s.data.toList[i]? = some c/\∀ h,(s[i]'h).toNat=c.toNat:=by
 refine⟨s[i]'h,?_,fun _=>rfl⟩;rw[Array.getElem?_toList,Array.getElem?_eq_getElem (by exact h)];rfl
theorem aE (s:ByteArray):s.data.toList.length=s.size:=by rw[Array.length_toList];rfl
theorem rS {s:ByteArray} {i:Nat} {c:UInt8} (h:s.data.toList[i]? = some c) (hc:Wf.bO c=false):Wf.isName s.data.toList=false:=by
 unfold Wf.isName;have hm:c∈s.data.toList:=List.mem_of_getElem? h;have:s.data.toList.all Wf.bO=false:=by
  rw[List.all_eq_false];exact⟨c,hm,by rw[hc];decide⟩
 rw[this,Bool.and_false]
theorem a1B {l:List UInt8} {i:Nat} {c:UInt8} (h:(l.take i).all Wf.bO=true) (hc:l[i]? = some c) (hl:Wf.bO c=true):(l.take (i+1)).all Wf.bO=true:=by
 rw[List.take_add_one,hc,List.all_append,h];simp[hl]
theorem nA {c:UInt8} (h:c.toNat<97\/122<c.toNat):Wf.bO c=false:=by
 unfold Wf.bO;rcases h with h|h
 ·rw[decide_eq_false (by omega),Bool.false_and]
 ·rw[decide_eq_false (p:=c.toNat<=122) (by omega),Bool.and_false]
theorem yZ {c:UInt8} (h:97<=c.toNat) (h2:c.toNat<=122):Wf.bO c=true:=by simp[Wf.bO];omega
theorem kE {s:ByteArray} {i:Int} {b:Bool} (hi:i=s.size) (h:(s.data.toList.take i.toNat).all Wf.bO=true) (hb:decide (1<=s.size/\s.size<=3)=b):b=Wf.isName s.data.toList:=by
 have hl:=aE s;rw[zaS (by omega)] at h;unfold Wf.isName;rw[h,Bool.and_true,hl,<-hb];by_cases h1:1<=s.size <;> by_cases h2:s.size<=3 <;> simp[h1,h2]
theorem iS (s:ByteArray) (w:World) (hs:s.size<=9223372036854775807):Calls Tryz.prog 121 #[.string s] w fun e w'=>e=.returned (.bool (Wf.isName s.data.toList))/\w=w':=by
 go_enter Tryz.func121,Tryz.ntmps121;go_wp2;go_loopw [3] (fun v wr=>∃ i:Int,0<=i/\i<=s.size/\v=.int .i64 i/\Hid ((s.data.toList.take i.toNat).all Wf.bO=true)/\w=wr)
  (fun v _=>s.size-(RowKit.intOf v).toNat)
 case atStart=>exact⟨0,Int.le_refl _,by omega,rfl,hid (show _=true by simp),rfl⟩
 case round =>
  obtain⟨i,hi0,hi1,rfl,hall,rfl⟩:=hrel;by_cases hlt:i<s.size
  ·obtain⟨c,hc,e0⟩:=byte_at s i.toNat (by omega)
   have HC:=hid hc;clear hc;obtain⟨a,ha⟩:∃ a,c.toNat=a:=⟨_,rfl⟩;have HA:=hid ha;rw[ha] at e0;clear ha;by_cases h1:a<97
   ·go_wp2
    go_ret
    exact⟨aN (rS HC.out (nA (by rw[HA.out];omega))).symm,rfl⟩
   ·by_cases h2:122<a
    ·go_wp2
     go_ret
     exact⟨aN (rS HC.out (nA (by rw[HA.out];omega))).symm,rfl⟩
    ·go_wp2
     go_roundw
     case rel=>exact⟨_,by omega,by omega,rfl,hid (show _=true by rw[show(i+1).toNat=i.toNat+1 by omega];exact a1B hall.out HC.out (yZ (by rw[HA.out];omega) (by rw[HA.out];omega))),trivial⟩
     case measure=>simp[RowKit.intOf];omega
  ·have hi:i=s.size:=by omega
   by_cases h3:1<=s.size
   ·by_cases h4:s.size<=3
    ·go_wp2_with (go_at_call 149;refine(zO _ _ _ _ (by omega) (by omega)).mono ?_;rintro e w1 ⟨rfl,rfl⟩)
     go_ret
     exact⟨aN (kE hi hall.out (decide_eq_true ⟨h3,h4⟩)),rfl⟩
    ·go_wp2_with (go_at_call 149;refine(pR _ _ _ _ (by omega)).mono ?_;rintro e w1 ⟨rfl,rfl⟩)
     go_ret
     exact⟨aN (kE hi hall.out (decide_eq_false (by omega))),rfl⟩
   ·go_wp2_with (go_at_call 149;refine(pR _ _ _ _ (by omega)).mono ?_;rintro e w1 ⟨rfl,rfl⟩)
    go_ret
    exact⟨aN (kE hi hall.out (decide_eq_false (by omega))),rfl⟩
theorem gD {s:ByteArray} (h:1<=s.size):s.toList.isEmpty=false:=by
 rw[zaZ];have:=aE s;cases h':s.data.toList with
 | nil=>rw[h'] at this;simp at this;omega
 | cons a l=>rfl
theorem wJ (s:ByteArray) (w:World) (hs:s.size<=12) (h1:1<=s.size) (a:Nat) (e0:∀ h,(s[0]'h).toNat=a) (ha:a=91) (b:Bool) (hr:Calls Tryz.prog 82 #[.string (s.extract 1 s.size)] w fun e w'=>e=.returned (.bool b)/\w=w'):Calls Tryz.prog 82 #[.string s] w fun e w'=>e=.returned (.bool b)/\w=w':=by
 subst ha;have HR:=hid hr;clear hr;have t0:s.toList.isEmpty=false:=gD h1;go_enter Tryz.func82,Tryz.ntmps82;go_wp2_with (go_at_call 82;refine HR.out.mono ?_;rintro e w1 ⟨rfl,rfl⟩)
 go_ret
 exact⟨rfl,rfl⟩
theorem tI (s:ByteArray) (w:World) (hs:s.size<=12) (h1:1<=s.size) (h2:2<=s.size) (a z:Nat) (e0:∀ h,(s[0]'h).toNat=a) (ha:a=64) (el:∀ h,(s[s.size-1]'h).toNat=z) (hz:z=59):Calls Tryz.prog 82 #[.string s] w fun e w'=>e=.returned (.bool (Wf.isName (s.extract 1 (s.size-1)).data.toList))/\w=w':=by
 subst ha hz;obtain⟨b,hb⟩:∃ b,Wf.isName (s.extract 1 (s.size-1)).data.toList=b:=⟨_,rfl⟩;have HL:=hid (iS (s.extract 1 (s.size-1)) w (by rw[zaY];omega));rw[hb] at HL ⊢;clear hb;have t0:s.toList.isEmpty=false:=gD h1;go_enter Tryz.func82,Tryz.ntmps82;go_wp2_with (go_at_call 121;refine HL.out.mono ?_;rintro e w1 ⟨rfl,rfl⟩)
 go_ret
 exact⟨rfl,rfl⟩
theorem aQ (s:ByteArray) (l:List UInt8):(s=⟨l.toArray⟩)↔s.data.toList=l:=by
 constructor
 ·rintro rfl;rfl
 ·intro h;rw[<-h]
theorem qK (s:ByteArray) (w:World) (hs:s.size<=12) (h1:1<=s.size) (a z:Nat) (e0:∀ h,(s[0]'h).toNat=a) (ha:a=64) (el:∀ h,(s[s.size-1]'h).toNat=z) (hz:z≠59):Calls Tryz.prog 82 #[.string s] w fun e w'=>e=.returned (.bool false)/\w=w':=by
 subst ha;have t0:s.toList.isEmpty=false:=gD h1;have t1:((z:Int)==59)=false:=by rw[zaJ];omega
 go_enter Tryz.func82,Tryz.ntmps82;go_wp2;go_ret
 exact⟨rfl,rfl⟩
theorem a2G (s:ByteArray) (w:World) (hs:s.size<=12) (h1:1<=s.size) (a:Nat) (e0:∀ h,(s[0]'h).toNat=a) (ha:a≠64) (ha2:a≠91) (ha3:a≠63):Calls Tryz.prog 82 #[.string s] w fun e w'=>e=.returned (.bool (s.toList==[110] || s.toList==[116] || s.toList==[102]))/\w=w':=by
 have t0:s.toList.isEmpty=false:=gD h1;have t1:((a:Int)==64)=false:=by rw[zaJ];omega
 have t2:((a:Int)==91)=false:=by rw[zaJ];omega
 have t3:((a:Int)==63)=false:=by rw[zaJ];omega
 cases g1:(s.toList==[110]) <;> cases g2:(s.toList==[116]) <;> cases g3:(s.toList==[102]);all_goals (go_enter Tryz.func82,Tryz.ntmps82;go_wp2)
 all_goals go_ret
 all_goals exact⟨rfl,rfl⟩
theorem a1Z (s:ByteArray) (w:World) (hs:s.size<=12) (h1:1<=s.size) (a:Nat) (e0:∀ h,(s[0]'h).toNat=a) (ha:a=63) (b:Bool) (hr:Calls Tryz.prog 82 #[.string (s.extract 1 s.size)] w fun e w'=>e=.returned (.bool b)/\w=w'):Calls Tryz.prog 82 #[.string s] w fun e w'=>e=.returned (.bool b)/\w=w':=by
 subst ha;have HR:=hid hr;clear hr;have t0:s.toList.isEmpty=false:=gD h1;go_enter Tryz.func82,Tryz.ntmps82;go_wp2_with (go_at_call 82;refine HR.out.mono ?_;rintro e w1 ⟨rfl,rfl⟩)
 go_ret
 exact⟨rfl,rfl⟩
theorem zY (s:ByteArray) (w:World) (hs:12<s.size):Calls Tryz.prog 82 #[.string s] w fun e w'=>e=.returned (.bool false)/\w=w':=by
 go_enter Tryz.func82,Tryz.ntmps82;go_wp2;go_ret
 exact⟨rfl,rfl⟩
theorem pH (s:ByteArray) (w:World) (hs:s.size<=12) (t0:s.toList.isEmpty=true):Calls Tryz.prog 82 #[.string s] w fun e w'=>e=.returned (.bool false)/\w=w':=by
 go_enter Tryz.func82,Tryz.ntmps82;go_wp2;go_ret
 exact⟨rfl,rfl⟩
theorem bH (s:ByteArray) (i j:Nat):(s.extract i j).data.toList=(s.data.toList.drop i).take (j-i):=by
 rw[ByteArray.data_extract,Array.toList_extract,List.extract_eq_take_drop]
def okB (l:List UInt8):Bool:=(Wf.aM l).isSome
theorem qH (n:Nat):∀ (s:ByteArray) (w:World),s.size<=n->Calls Tryz.prog 82 #[.string s] w fun e w'=>e=.returned (.bool (okB s.data.toList))/\w=w':=by
 induction n with
 | zero =>
  intro s w hn;have hl:=aE s;have h0:s.data.toList=[]:=List.eq_nil_of_length_eq_zero (by omega);have:=pH s w (by omega) (by rw[zaZ,h0];rfl);rw[h0];exact this
 | succ n ih =>
  intro s w hn;have hl:=aE s;by_cases hs:s.size<=12
  ·cases hd:s.data.toList with
   | nil=>exact pH s w hs (by rw[zaZ,hd];rfl)
   | cons c r =>
    have hlr:r.length+1=s.size:=(by rw[<-hl,hd];rfl);obtain⟨c',hc',e0⟩:=byte_at s 0 (by omega);have hcc:c'=c:=(by rw[hd] at hc';simpa using hc'.symm);subst hcc;have hpk:okB (c'::r)=(Wf.kindIn (c'::r)).isSome:=by
     unfold okB Wf.aM;rw[if_pos (by rw[zaF];omega)]
    have hpr:okB r=(Wf.kindIn r).isSome:=by
     unfold okB Wf.aM;rw[if_pos (by omega)]
    have hx:(s.extract 1 s.size).data.toList=r:=by
     rw[bH,hd,List.drop_one,List.tail_cons,zaS (by omega)]
    have hrec:=ih (s.extract 1 s.size) w (by rw[zaY];omega);rw[hx,hpr] at hrec;rw[hpk];by_cases h1:c'=91
    ·subst h1
     have:=wJ s w hs (by omega) _ e0 rfl _ hrec;simpa[Wf.kindIn] using this
    ·by_cases h2:c'=63
     ·subst h2
      have:=a1Z s w hs (by omega) _ e0 rfl _ hrec;simpa[Wf.kindIn] using this
     ·have hne:∀ x:UInt8,c'≠x->c'.toNat≠x.toNat:=fun x hx h=>hx (UInt8.toNat_inj.1 h)
      by_cases h3:c'=64
      ·subst h3
       obtain⟨z,hz,el⟩:=byte_at s (s.size-1) (by omega);rcases List.eq_nil_or_concat r with hr|⟨q,y,hr⟩
       ·subst hr
        have h1s:s.size=1:=(by rw[<-hlr];rfl);have hz':z=64:=(by rw[hd,h1s] at hz;simpa using hz.symm);subst hz';have:=qK s w hs (by omega) _ _ e0 rfl el (by decide);simpa[Wf.kindIn] using this
       ·have hq:r=q++[y]:=by rw[hr];simp
        subst hq;have hlq:q.length+2=s.size:=(by rw[<-hlr];simp);have hzy:z=y:=by
         rw[hd] at hz;rw[show s.size-1=(64::q).length by simp;omega,<-zaN,List.getElem?_append_right (zaA)] at hz;simpa using hz.symm
        subst hzy;have hx2:(s.extract 1 (s.size-1)).data.toList=q:=by
         rw[bH,hd,List.drop_one,List.tail_cons,show s.size-1-1=q.length by omega,List.take_left'];rfl
        by_cases h59:z=59
        ·subst h59
         have:=tI s w hs (by omega) (by omega) _ _ e0 rfl el rfl;rw[hx2] at this;cases hn2:Wf.isName q <;> simpa[Wf.kindIn,hn2] using this
        ·have:=qK s w hs (by omega) _ _ e0 rfl el (fun h=>h59 (UInt8.toNat_inj.1 (by rw[h];rfl)))
         simpa[Wf.kindIn,h59] using this
      ·have:=a2G s w hs (by omega) _ e0 (hne 64 h3) (hne 91 h1) (hne 63 h2)
       rw[zaZ,hd] at this;have hb:(Wf.kindIn (c'::r)).isSome=((c'::r)==[110] || (c'::r)==[116] || (c'::r)==[102]):=by
        simp only[Wf.kindIn,if_neg h1,if_neg h2,if_neg h3];by_cases i1:c'=110/\r=[]
        ·obtain⟨rfl,rfl⟩:=i1;rfl
        ·rw[if_neg i1]
         by_cases i2:c'=116/\r=[]
         ·obtain⟨rfl,rfl⟩:=i2;rfl
         ·rw[if_neg i2]
          by_cases i3:c'=102/\r=[]
          ·obtain⟨rfl,rfl⟩:=i3;rfl
          ·rw[if_neg i3]
           have e1:((c'::r)==[110])=false:=(by rw[zaJ];simpa using i1);have e2:((c'::r)==[116])=false:=(by rw[zaJ];simpa using i2);have e3:((c'::r)==[102])=false:=(by rw[zaJ];simpa using i3);rw[e1,e2,e3];rfl
       rw[hb];exact this
  ·have:okB s.data.toList=false:=by unfold okB Wf.aM;rw[if_neg (by omega)];rfl
   rw[this];exact zY s w (by omega)

theorem zJ (s:ByteArray) (h1:1<=s.size) (h3:s.size<=3):(Lib.trimS s.data.toList gK).isEmpty=Wf.isName s.data.toList:=by
 have hl:=aE s;have h:=a2C s.data.toList;unfold Wf.isName;rw[hl,decide_eq_true h1,decide_eq_true h3,Bool.true_and,Bool.true_and,Bool.eq_iff_iff,List.isEmpty_iff];exact h
theorem qB (s:ByteArray) (h:s.size<1\/3<s.size):false=Wf.isName s.data.toList:=by
 have hl:=aE s;unfold Wf.isName;rw[hl];rcases h with h|h
 ·rw[decide_eq_false (by omega),Bool.false_and,Bool.false_and]
 ·rw[decide_eq_false (p:=s.size<=3) (by omega),Bool.and_false,Bool.false_and]
theorem iU (s:ByteArray) (w:World) (hs:s.size<=1048576):Calls Tryz.prog 93 #[.string s] w fun e w'=>e=.returned (.bool (Wf.isName s.data.toList))/\Below w.heap.size w w':=by
 have HT:=hid (a0W s w (by omega));by_cases h1:1<=s.size
 ·by_cases h3:s.size<=3
  ·have HN:=hid (zJ s h1 h3)
   go_enter Tryz.func93,Tryz.ntmps93;go_wp2_with (go_at_call 133;refine HT.out.mono ?_;rintro e w1 ⟨rfl,hb⟩)
   go_ret
   exact⟨aN HN.out,hb⟩
  ·have HN:=hid (qB s (by omega))
   go_enter Tryz.func93,Tryz.ntmps93;go_wp2;go_ret
   exact⟨aN HN.out,zaB⟩
 ·have HN:=hid (qB s (by omega))
  go_enter Tryz.func93,Tryz.ntmps93;go_wp2;go_ret
  exact⟨aN HN.out,zaB⟩
