/- Packed by pack.py: Aid Rd Shelf Tr Plain0 PlainB PlainB2 Tn. -/
import Derived.WalkKit
import Derived.Lib.UnsafeStr
import Derived.Lib.Hide
import Derived.Test.YtmdacedmjbiekaaGreatDoorRows
import Derived.ProofKit
import Derived.OpenShut
import Derived.BigQuiet
import Derived.WalkSpells
import Derived.Shelf.Strings.SlTrimAscii
import Derived.Shelf.Strings.Prefix
import Derived.Shelf.Strings.Cut
import Derived.Shelf.Strings.Search3
import Derived.Shelf.Strings.Split
import Derived.Shelf.Strings.SplitShaped
import Derived.Shelf.Strings.Shaped
import Derived.Shelf.Small.Wraps
import Derived.Shelf.Strings.OnBuilder
import Derived.KernelRfl
import Derived.Below
import Derived.Test.YtmdacedmjbiekaaGreatDoorChecked
import Derived.Lib.SlTrimSet
namespace Go
open Go.RowKit
variable {P:Program}
theorem bcell {B:Nat} {W w1:World} (hb:Below B W w1):(∀ b o,b<B→w1.cell? ⟨b,o,none⟩=W.cell? ⟨b,o,none⟩)∧(∀ b o,b<B→w1.frozen? ⟨b,o,none⟩=W.frozen? ⟨b,o,none⟩) :=
 ⟨fun b o h=>hb.cell (p:=⟨b,o,none⟩) h,fun b o h=>hb.frozen (p:=⟨b,o,none⟩) h⟩
theorem run_convert_one (src dst e:TypeId) (hs:P.underlying src=some (.slice e)) (he:P.underlying e=some (.int .u8)) (hd:P.underlying dst=some .string) (W:World) (a:Addr) (c:Nat) (m:Int)
  (h:W.cell? a=some (.int .u8 m)):(convert src dst (.slice (some a) 1 c)).run P W=.ok (.string ⟨#[UInt8.ofNat m.toNat]⟩) W:=by
 rw[run_convert_bytes_string W src dst e (some a) 1 c hs he hd]
 have hl:=run_loadCells_list (P:=P) W a ([m].map (Value.int .u8)) (fun j v hj=>by
  match j,hj with
  | 0,hj=>simp at hj;subst hj;simpa[Addr.add] using h)
 simp only[List.length_map,List.length_cons,List.length_nil] at hl
 rw[run_bytesToString W a 1 c [m] hl]
 rfl
theorem run_convert_lit (src dst e:TypeId) (hs:P.underlying src=some (.slice e)) (he:P.underlying e=some (.int .u8)) (hd:P.underlying dst=some .string) (W:World) (m:Int) (et:TypeId) :
  (convert src dst (.slice (some ⟨W.heap.size,0,none⟩) 1 1)).run P (W.alloc (.cells #[.int .u8 m] et))=.ok (.string ⟨#[UInt8.ofNat m.toNat]⟩) (W.alloc (.cells #[.int .u8 m] et)) :=
 run_convert_one src dst e hs he hd _ _ 1 m (by simp)
theorem below_grown {base:Nat} {w w':World} {e n:Nat} {size:Nat} {v:Value} {xs:List Value} (hown:w.ownsRow base e size v n xs) (hg:w.grownBy w' v.ownBlock) (hb:base≤w.heap.size):Below base w w':=by
 refine(Below.refl base w).grown hg hb fun k hk => ?_
 obtain⟨_,h2⟩:=hown
 rcases h2 with⟨rfl,_⟩|⟨g,cap,cur,rfl,hg,_⟩
 ·simp[Value.ownBlock] at hk
 ·simp[Value.ownBlock] at hk;omega
theorem wpList_append_one (w:World) {ops:Array Oper} {rest:List Oper} {o:Oper} {a:Act} {Q:Exit→Act→World→Prop} (hgd:o.guard=none) (s x:Operand) (t:TypeId)
  (ho:o.op=.call { callee:=.builtin .append,args:=#[s,x],argTypes:=#[t,t] })
  (base:Nat) (e:TypeId) (i:TypeInfo) (z:Value) (size bytes:Nat) (ht:P.underlying t=some (.slice e)) (hi:P.info? e=some i) (hz:i.zero=some z)
  (hsize:i.size=size) (hby:i.bytes=bytes) (hzs:z.cells.size=size) (hsz:0<size)
  (v:Value) (n:Nat) (xs:List Value) (hs:a.eval s=v) (hown:w.ownsRow base e size v n xs)
  (ad:Addr) (news:List Value) (hx:a.eval x=.slice (some ad) 1 1) (hl:news.length=size) (hnews:∀ j u,news[j]? = some u→w.cell? (ad.add j)=some u) (h1:∀ u∈news,u.oneCell'=true)
  (hbytes:(n+1) * bytes≤140737488355328) (h63:n+1≤140737488355328) (hbase:base≤w.heap.size)
  (h:∀ v' w',w'.ownsRow base e size v' (n+1) (xs++news)→Below base w w'→wpList P ops Q rest (a.put o.dst v') w'):wpList P ops Q (o::rest) a w :=
 wpList_append_own w hgd s x t ho base e i z size bytes ht hi hz hsize hby hzs hsz v n xs hs hown ad 1 1 news hx (by omega) hnews h1 (by unfold maxLen;omega) hbytes hbase
  fun v' w' g1 g2 _=>h v' w' g1 (below_grown hown g2 hbase)
end Go

namespace Go.Proofs.YtmdacedmjbiekaaGreatDoor
open Go.ChangeShapes Go.WideShapes Go.ChangeAt Go.RowKit
set_option linter.unusedVariables false
theorem wrap_nat_i64 (n:Nat) (h:n<4611686018427387904):IntKind.i64.wrap (n:Int)=n:=by
 simp[IntKind.wrap,IntKind.bits,IntKind.signed];omega
structure Beside (rb:Nat) (w w':World):Prop where
 os:w'.os=w.os
 tape:w'.tape=w.tape
 output:w'.output=w.output
 size:w.heap.size≤w'.heap.size
 block:∀ k,k<w.heap.size→k≠rb→w'.heap[k]? = w.heap[k]?
theorem Beside.refl (rb:Nat) (w:World):Beside rb w w:=⟨rfl,rfl,rfl,Nat.le_refl _,fun _ _ _=>rfl⟩
theorem Beside.trans {rb:Nat} {a b c:World} (h:Beside rb a b) (k:Beside rb b c):Beside rb a c :=
 ⟨k.os.trans h.os,k.tape.trans h.tape,k.output.trans h.output,Nat.le_trans h.size k.size,fun i hi hr=>(k.block i (Nat.lt_of_lt_of_le hi h.size) hr).trans (h.block i hi hr)⟩
theorem Beside.of_below {rb B:Nat} {a b:World} (h:Below B a b) (hB:a.heap.size≤B):Beside rb a b:=⟨h.os,h.tape,h.output,h.size,fun k hk _=>h.block k (Nat.lt_of_lt_of_le hk hB)⟩
theorem Beside.below {rb B:Nat} {a w w':World} (h:Below B a w) (hB:B≤w.heap.size) (hr:B≤rb) (k:Beside rb w w'):Below B a w' :=
 ⟨k.os.trans h.os,k.tape.trans h.tape,k.output.trans h.output,Nat.le_trans h.size k.size,fun i hi=>(k.block i (by omega) (by omega)).trans (h.block i hi)⟩
theorem Beside.set (rb:Nat) (w:World) (o:Nat) (u:Value):Beside rb w (w.setCell ⟨rb,o,none⟩ u):=by
 have h:=Below.setCell (B:=rb) (Below.refl rb w) (p:=⟨rb,o,none⟩) (Nat.le_refl _) u
 exact⟨h.os,h.tape,h.output,h.size,fun k _ hr=>Below.heap_setCell w ⟨rb,o,none⟩ u k hr⟩
theorem Beside.drewN {rb:Nat} {a w:World} (h:Beside rb a w) (n:Nat):Beside rb a (w.drewN n):=h.trans ⟨rfl,rfl,rfl,Nat.le_refl _,fun _ _ _=>rfl⟩
theorem Beside.drew {rb:Nat} {a w:World} (h:Beside rb a w):Beside rb a w.drew:=h.trans ⟨rfl,rfl,rfl,Nat.le_refl _,fun _ _ _=>rfl⟩
theorem Beside.cell {rb:Nat} {w w':World} (h:Beside rb w w') {p:Addr} (hp:p.block<w.heap.size) (hr:p.block≠rb):w'.cell? p=w.cell? p:=World.cell?_of_block (w:=w) (h.block p.block hp hr)
theorem Beside.cell_some {rb:Nat} {w w':World} (h:Beside rb w w') {b o:Nat} {v:Value} (hc:w.cell? ⟨b,o,none⟩=some v) (hr:b≠rb):w'.cell? ⟨b,o,none⟩=some v:=by
 have hlt:b<w.heap.size:=by
  rcases Nat.lt_or_ge b w.heap.size with h|h
  ·exact h
  ·simp[World.cell?,Array.getElem?_eq_none h] at hc
 rw[h.cell (p:=⟨b,o,none⟩) hlt hr];exact hc
def Bytes (w:World) (rb:Nat) (a:Option Addr) (len cap:Nat):Prop :=
 len≤cap∧cap≤maxLen∧(len=0∨∃ b off,a=some ⟨b,off,none⟩∧b<rb∧∀ i,i<len→∃ m:Int,0≤m∧m<256∧w.cell? ⟨b,off+i,none⟩=some (.int .u8 m))
def Rd (w:World) (rb k:Nat):Prop:=∃ a len cap,∃ p:Int,Bytes w rb a len cap∧w.cell? ⟨rb,0,none⟩=some (.slice a len cap)∧w.cell? ⟨rb,1,none⟩=some (.int .i64 p)∧w.frozen? ⟨rb,1,none⟩=false∧0≤p∧p≤k∧len≤2000∧rb<w.heap.size
theorem Bytes.keep {w w':World} {rb:Nat} {a:Option Addr} {len cap:Nat} (h:Bytes w rb a len cap) (hk:∀ b o v,b<rb→w.cell? ⟨b,o,none⟩=some v→w'.cell? ⟨b,o,none⟩=some v):Bytes w' rb a len cap:=by
 obtain⟨h1,h2,h|⟨b,off,ha,hb,hc⟩⟩:=h
 ·exact⟨h1,h2, .inl h⟩
 ·refine⟨h1,h2, .inr ⟨b,off,ha,hb,fun i hi => ?_⟩⟩
  obtain⟨m,m1,m2,m3⟩:=hc i hi
  exact⟨m,m1,m2,hk _ _ _ hb m3⟩
theorem Rd.mono {w:World} {rb k k':Nat} (h:Rd w rb k) (hk:k≤k'):Rd w rb k':=by
 obtain⟨a,len,cap,p,h1,h2,h3,h4,h5,h6,h7,h8⟩:=h
 exact⟨a,len,cap,p,h1,h2,h3,h4,h5,by omega,h7,h8⟩
theorem Rd.below {w w':World} {rb k B:Nat} (h:Rd w rb k) (hb:Below B w w') (hB:rb<B):Rd w' rb k:=by
 obtain⟨a,len,cap,p,h1,h2,h3,h4,h5,h6,h7,h8⟩:=h
 refine⟨a,len,cap,p,h1.keep fun b o v hbr hc => ?_, ?_, ?_, ?_,h5,h6,h7,Nat.lt_of_lt_of_le h8 hb.size⟩
 ·rw[hb.cell (p:=⟨b,o,none⟩) (Nat.lt_trans hbr hB)];exact hc
 ·rw[hb.cell (p:=⟨rb,0,none⟩) hB];exact h2
 ·rw[hb.cell (p:=⟨rb,1,none⟩) hB];exact h3
 ·rw[hb.frozen (p:=⟨rb,1,none⟩) hB];exact h4
theorem Rd.drewN {w:World} {rb k:Nat} (h:Rd w rb k) (n:Nat):Rd (w.drewN n) rb k:=h.below (B:=rb+1) ⟨rfl,rfl,rfl,Nat.le_refl _,fun _ _=>rfl⟩ (by omega)
theorem Rd.step {w:World} {rb:Nat} {a:Option Addr} {len cap:Nat} {p:Int} {k:Nat} (h1:Bytes w rb a len cap) (h2:w.cell? ⟨rb,0,none⟩=some (.slice a len cap)) (h3:w.cell? ⟨rb,1,none⟩=some (.int .i64 p)) (h4:w.frozen? ⟨rb,1,none⟩=false) (h5:0≤p) (h6:p≤k) (h7:len≤2000) (h8:rb<w.heap.size):Rd (w.setCell ⟨rb,1,none⟩ (.int .i64 (p+1))) rb (k+1):=by
 have hbs:=Beside.set rb w 1 (.int .i64 (p+1))
 refine⟨a,len,cap,p+1,h1.keep fun b o v hbr hc=>hbs.cell_some hc (by omega), ?_, ?_, ?_,by omega,by omega,h7,Nat.lt_of_lt_of_le h8 hbs.size⟩
 ·exact(World.cell?_setCell_other w _ _ _ (by simp)).trans h2
 ·exact World.cell?_setCell_same w _ _ h3
 ·simp[h4]
theorem Rd.alloc {w:World} {rb k:Nat} (h:Rd w rb k) (o:Obj):Rd (w.alloc o) rb k:=by
 have h8:rb<w.heap.size:=by obtain⟨a,len,cap,p,h1,h2,h3,h4,h5,h6,h7,h8⟩:=h;exact h8
 exact h.below (B:=rb+1) (Below.alloc (Below.refl _ _) (by omega) o) (by omega)
theorem Rd.lt {w:World} {rb k:Nat} (h:Rd w rb k):rb<w.heap.size:=by obtain⟨a,len,cap,p,h1,h2,h3,h4,h5,h6,h7,h8⟩:=h;exact h8
theorem Beside.alloc {rb:Nat} {a w:World} (h:Beside rb a w) (o:Obj):Beside rb a (w.alloc o):=h.trans (Beside.of_below (B:=w.heap.size) (Below.alloc (Below.refl _ _) (Nat.le_refl _) o) (Nat.le_refl _))
end Go.Proofs.YtmdacedmjbiekaaGreatDoor

namespace Go.Proofs
open Go.Shelf
def Tryz.lays156_ren:Go.Shelf.Ren:=⟨fun|156=>93|165=>129|166=>130|169=>131|240=>167|241=>168|276=>186|277=>187|n=>n,fun|31=>22|9=>9|3=>3|4=>4|0=>0|20=>20|72=>178|76=>182|70=>176|37=>28|75=>181|127=>210|164=>223|5=>5|80=>78|n=>n,fun|n=>n⟩
theorem Tryz.lays156:Go.Proofs.Lays.n156 Tryz.prog Tryz.lays156_ren:={
 mixed:=by kernel_rfl
 f156:=Tryz.func93.trans (congrArg some (by kernel_rfl))
 f165:=Tryz.func129.trans (congrArg some (by kernel_rfl))
 f166:=Tryz.func130.trans (congrArg some (by kernel_rfl))
 f169:=Tryz.func131.trans (congrArg some (by kernel_rfl))
 f240:=Tryz.func167.trans (congrArg some (by kernel_rfl))
 f241:=Tryz.func168.trans (congrArg some (by kernel_rfl))
 f276:=Tryz.func186.trans (congrArg some (by kernel_rfl))
 f277:=Tryz.func187.trans (congrArg some (by kernel_rfl))
 t0:=Tryz.underlying0
 a0:=Tryz.isAgg0
 z0:=Tryz.sizeOf0
 v0:=Tryz.zeroValue0
 t3:=Tryz.underlying3
 a3:=Tryz.isAgg3
 z3:=Tryz.sizeOf3
 v3:=Tryz.zeroValue3
 t4:=Tryz.underlying4
 a4:=Tryz.isAgg4
 z4:=Tryz.sizeOf4
 v4:=Tryz.zeroValue4
 t9:=Tryz.underlying9
 a9:=Tryz.isAgg9
 z9:=Tryz.sizeOf9
 v9:=Tryz.zeroValue9
 t20:=Tryz.underlying20
 a20:=Tryz.isAgg20
 z20:=Tryz.sizeOf20
 v20:=Tryz.zeroValue20
 t31:=Tryz.underlying22
 a31:=Tryz.isAgg22
 z31:=Tryz.sizeOf22
 v31:=Tryz.zeroValue22
 t37:=Tryz.underlying28
 a37:=Tryz.isAgg28
 z37:=Tryz.sizeOf28
 v37:=Tryz.zeroValue28
 t70:=Tryz.underlying176
 a70:=Tryz.isAgg176
 z70:=Tryz.sizeOf176
 v70:=Tryz.zeroValue176
 t72:=Tryz.underlying178
 a72:=Tryz.isAgg178
 z72:=Tryz.sizeOf178
 v72:=Tryz.zeroValue178
 t75:=Tryz.underlying181
 a75:=Tryz.isAgg181
 z75:=Tryz.sizeOf181
 v75:=Tryz.zeroValue181
 t76:=Tryz.underlying182
 a76:=Tryz.isAgg182
 z76:=Tryz.sizeOf182
 v76:=Tryz.zeroValue182
 t127:=Tryz.underlying210
 a127:=Tryz.isAgg210
 z127:=Tryz.sizeOf210
 v127:=Tryz.zeroValue210
 t164:=Tryz.underlying223
 a164:=Tryz.isAgg223
 z164:=Tryz.sizeOf223
 v164:=Tryz.zeroValue223 }
theorem Tryz.Builder_Extra_156:Builder.Extra Tryz.prog Tryz.lays156_ren:={
 sizeBuilder:=by kernel_rfl
 liesBuilder:=by kernel_rfl
 t5:=Tryz.underlying5
 a5:=Tryz.isAgg5
 z5:=Tryz.sizeOf5
 v5:=Tryz.zeroValue5
 infoByte:=by kernel_rfl
 cellsByte:=by kernel_rfl
 sizeByte:=by kernel_rfl
 neB5:=by decide }
open Go.RowKit in
theorem Tryz.strings_Join_none (a:Option Addr) (c:Nat) (sep:ByteArray) (w:World) :
  Calls Tryz.prog 93 #[.slice a 0 c, .string sep] w fun e w'=>e=.returned (.string ⟨#[]⟩)∧w'=w:=Any.strings_Join_none Tryz.lays156 Tryz.Builder_Extra_156 a c sep w
open Go.RowKit in
theorem Tryz.strings_Join (bk o c:Nat) (xs:List ByteArray) (sep:ByteArray) (w:World) (hcells:∀ (j:Nat) x,xs[j]? = some x→w.cell? ⟨bk,o+j,none⟩=some (.string x)) (hbk:bk<w.heap.size) (hN:xs.length≤140737488355328) (hcap:xs.length≤c) (hlen:(Lib.join (xs.map (·.data.toList)) sep.data.toList).length≤140737488355328) :
  Calls Tryz.prog 93 #[.slice (some ⟨bk,o,none⟩) xs.length c, .string sep] w fun e w'=>e=.returned (.string ⟨(Lib.join (xs.map (·.data.toList)) sep.data.toList).toArray⟩)∧Below w.heap.size w w':=Any.strings_Join Tryz.lays156 Tryz.Builder_Extra_156 bk o c xs sep w hcells hbk hN hcap hlen
def Tryz.lays161_ren:Go.Shelf.Ren:=⟨fun|161=>105|231=>149|227=>150|233=>151|235=>152|228=>172|197=>173|151=>174|260=>189|152=>190|137=>196|119=>197|224=>181|225=>180|217=>179|266=>192|n=>n,fun|9=>9|4=>4|3=>3|5=>5|117=>198|116=>197|0=>0|124=>201|105=>215|21=>21|119=>229|46=>135|139=>232|138=>231|n=>n,fun|3=>1|4=>2|n=>n⟩
theorem Tryz.lays161:Go.Proofs.Lays.n161 Tryz.prog Tryz.lays161_ren:={
 mixed:=by kernel_rfl
 f119:=Tryz.func197.trans (congrArg some (by kernel_rfl))
 f137:=Tryz.func196.trans (congrArg some (by kernel_rfl))
 f151:=Tryz.func174.trans (congrArg some (by kernel_rfl))
 f152:=Tryz.func190.trans (congrArg some (by kernel_rfl))
 f161:=Tryz.func105.trans (congrArg some (by kernel_rfl))
 f197:=Tryz.func173.trans (congrArg some (by kernel_rfl))
 f217:=Tryz.func179.trans (congrArg some (by kernel_rfl))
 f224:=Tryz.func181.trans (congrArg some (by kernel_rfl))
 f225:=Tryz.func180.trans (congrArg some (by kernel_rfl))
 f227:=Tryz.func150.trans (congrArg some (by kernel_rfl))
 f228:=Tryz.func172.trans (congrArg some (by kernel_rfl))
 f231:=Tryz.func149.trans (congrArg some (by kernel_rfl))
 f233:=Tryz.func151.trans (congrArg some (by kernel_rfl))
 f235:=Tryz.func152.trans (congrArg some (by kernel_rfl))
 f260:=Tryz.func189.trans (congrArg some (by kernel_rfl))
 f266:=Tryz.func192.trans (congrArg some (by kernel_rfl))
 t0:=Tryz.underlying0
 a0:=Tryz.isAgg0
 z0:=Tryz.sizeOf0
 v0:=Tryz.zeroValue0
 t3:=Tryz.underlying3
 a3:=Tryz.isAgg3
 z3:=Tryz.sizeOf3
 v3:=Tryz.zeroValue3
 t4:=Tryz.underlying4
 a4:=Tryz.isAgg4
 z4:=Tryz.sizeOf4
 v4:=Tryz.zeroValue4
 t5:=Tryz.underlying5
 a5:=Tryz.isAgg5
 z5:=Tryz.sizeOf5
 v5:=Tryz.zeroValue5
 t9:=Tryz.underlying9
 a9:=Tryz.isAgg9
 z9:=Tryz.sizeOf9
 v9:=Tryz.zeroValue9
 t21:=Tryz.underlying21
 a21:=Tryz.isAgg21
 z21:=Tryz.sizeOf21
 v21:=Tryz.zeroValue21
 t46:=Tryz.underlying135
 a46:=Tryz.isAgg135
 z46:=Tryz.sizeOf135
 v46:=Tryz.zeroValue135
 t105:=Tryz.underlying215
 a105:=Tryz.isAgg215
 z105:=Tryz.sizeOf215
 v105:=Tryz.zeroValue215
 t116:=Tryz.underlying197
 a116:=Tryz.isAgg197
 z116:=Tryz.sizeOf197
 t117:=Tryz.underlying198
 a117:=Tryz.isAgg198
 z117:=Tryz.sizeOf198
 v117:=Tryz.zeroValue198
 t119:=Tryz.underlying229
 a119:=Tryz.isAgg229
 z119:=Tryz.sizeOf229
 t124:=Tryz.underlying201
 a124:=Tryz.isAgg201
 z124:=Tryz.sizeOf201
 v124:=Tryz.zeroValue201
 t138:=Tryz.underlying231
 a138:=Tryz.isAgg231
 z138:=Tryz.sizeOf231
 v138:=Tryz.zeroValue231
 t139:=Tryz.underlying232
 a139:=Tryz.isAgg232
 z139:=Tryz.sizeOf232
 v139:=Tryz.zeroValue232
 g3:=by kernel_rfl
 g4:=by kernel_rfl }
def Tryz.lays160_ren:Go.Shelf.Ren:=⟨fun|160=>155|232=>175|231=>149|227=>150|234=>176|233=>151|236=>177|235=>152|228=>172|271=>191|151=>174|197=>173|120=>198|152=>190|260=>189|137=>196|119=>197|224=>181|225=>180|217=>179|266=>192|n=>n,fun|9=>9|4=>4|3=>3|5=>5|117=>198|116=>197|0=>0|124=>201|21=>21|105=>215|46=>135|119=>229|139=>232|138=>231|n=>n,fun|3=>1|4=>2|n=>n⟩
theorem Tryz.lays160:Go.Proofs.Lays.n160 Tryz.prog Tryz.lays160_ren:={
 mixed:=by kernel_rfl
 f119:=Tryz.func197.trans (congrArg some (by kernel_rfl))
 f120:=Tryz.func198.trans (congrArg some (by kernel_rfl))
 f137:=Tryz.func196.trans (congrArg some (by kernel_rfl))
 f151:=Tryz.func174.trans (congrArg some (by kernel_rfl))
 f152:=Tryz.func190.trans (congrArg some (by kernel_rfl))
 f160:=Tryz.func155.trans (congrArg some (by kernel_rfl))
 f197:=Tryz.func173.trans (congrArg some (by kernel_rfl))
 f217:=Tryz.func179.trans (congrArg some (by kernel_rfl))
 f224:=Tryz.func181.trans (congrArg some (by kernel_rfl))
 f225:=Tryz.func180.trans (congrArg some (by kernel_rfl))
 f227:=Tryz.func150.trans (congrArg some (by kernel_rfl))
 f228:=Tryz.func172.trans (congrArg some (by kernel_rfl))
 f231:=Tryz.func149.trans (congrArg some (by kernel_rfl))
 f232:=Tryz.func175.trans (congrArg some (by kernel_rfl))
 f233:=Tryz.func151.trans (congrArg some (by kernel_rfl))
 f234:=Tryz.func176.trans (congrArg some (by kernel_rfl))
 f235:=Tryz.func152.trans (congrArg some (by kernel_rfl))
 f236:=Tryz.func177.trans (congrArg some (by kernel_rfl))
 f260:=Tryz.func189.trans (congrArg some (by kernel_rfl))
 f266:=Tryz.func192.trans (congrArg some (by kernel_rfl))
 f271:=Tryz.func191.trans (congrArg some (by kernel_rfl))
 t0:=Tryz.underlying0
 a0:=Tryz.isAgg0
 z0:=Tryz.sizeOf0
 v0:=Tryz.zeroValue0
 t3:=Tryz.underlying3
 a3:=Tryz.isAgg3
 z3:=Tryz.sizeOf3
 v3:=Tryz.zeroValue3
 t4:=Tryz.underlying4
 a4:=Tryz.isAgg4
 z4:=Tryz.sizeOf4
 v4:=Tryz.zeroValue4
 t5:=Tryz.underlying5
 a5:=Tryz.isAgg5
 z5:=Tryz.sizeOf5
 v5:=Tryz.zeroValue5
 t9:=Tryz.underlying9
 a9:=Tryz.isAgg9
 z9:=Tryz.sizeOf9
 v9:=Tryz.zeroValue9
 t21:=Tryz.underlying21
 a21:=Tryz.isAgg21
 z21:=Tryz.sizeOf21
 v21:=Tryz.zeroValue21
 t46:=Tryz.underlying135
 a46:=Tryz.isAgg135
 z46:=Tryz.sizeOf135
 v46:=Tryz.zeroValue135
 t105:=Tryz.underlying215
 a105:=Tryz.isAgg215
 z105:=Tryz.sizeOf215
 v105:=Tryz.zeroValue215
 t116:=Tryz.underlying197
 a116:=Tryz.isAgg197
 z116:=Tryz.sizeOf197
 t117:=Tryz.underlying198
 a117:=Tryz.isAgg198
 z117:=Tryz.sizeOf198
 v117:=Tryz.zeroValue198
 t119:=Tryz.underlying229
 a119:=Tryz.isAgg229
 z119:=Tryz.sizeOf229
 t124:=Tryz.underlying201
 a124:=Tryz.isAgg201
 z124:=Tryz.sizeOf201
 v124:=Tryz.zeroValue201
 t138:=Tryz.underlying231
 a138:=Tryz.isAgg231
 z138:=Tryz.sizeOf231
 v138:=Tryz.zeroValue231
 t139:=Tryz.underlying232
 a139:=Tryz.isAgg232
 z139:=Tryz.sizeOf232
 v139:=Tryz.zeroValue232
 g3:=by kernel_rfl
 g4:=by kernel_rfl }
def Tryz.lays103_ren:Go.Shelf.Ren:=⟨fun|103=>169|210=>188|206=>153|n=>n,fun|9=>9|4=>4|24=>38|3=>3|n=>n,fun|n=>n⟩
theorem Tryz.lays103:Go.Proofs.Lays.n103 Tryz.prog Tryz.lays103_ren:={
 mixed:=by kernel_rfl
 f103:=Tryz.func169.trans (congrArg some (by kernel_rfl))
 f206:=Tryz.func153.trans (congrArg some (by kernel_rfl))
 f210:=Tryz.func188.trans (congrArg some (by kernel_rfl))
 t3:=Tryz.underlying3
 a3:=Tryz.isAgg3
 z3:=Tryz.sizeOf3
 v3:=Tryz.zeroValue3
 t4:=Tryz.underlying4
 a4:=Tryz.isAgg4
 z4:=Tryz.sizeOf4
 v4:=Tryz.zeroValue4
 t9:=Tryz.underlying9
 a9:=Tryz.isAgg9
 z9:=Tryz.sizeOf9
 v9:=Tryz.zeroValue9
 t24:=Tryz.underlying38
 a24:=Tryz.isAgg38
 z24:=Tryz.sizeOf38
 v24:=Tryz.zeroValue38 }
open Go.RowKit in
theorem Tryz.strings_CutPrefix (s p:ByteArray) (w:World) :
  Calls Tryz.prog 169 #[.string s, .string p] w fun e w'=>e=.returned (.tuple #[.string ⟨(Lib.trimPrefix s.data.toList p.data.toList).toArray⟩, .bool (Lib.hasPrefix s.data.toList p.data.toList)])∧w'=w:=Any.strings_CutPrefix Tryz.lays103 s p w
def Tryz.lays144_ren:Go.Shelf.Ren:=⟨fun|144=>126|143=>163|219=>162|217=>179|225=>180|224=>181|267=>182|266=>192|314=>193|n=>n,fun|9=>9|4=>4|3=>3|5=>5|46=>135|146=>227|51=>168|n=>n,fun|1=>0|n=>n⟩
theorem Tryz.lays144:Go.Proofs.Lays.n144 Tryz.prog Tryz.lays144_ren:={
 mixed:=by kernel_rfl
 f143:=Tryz.func163.trans (congrArg some (by kernel_rfl))
 f144:=Tryz.func126.trans (congrArg some (by kernel_rfl))
 f217:=Tryz.func179.trans (congrArg some (by kernel_rfl))
 f219:=Tryz.func162.trans (congrArg some (by kernel_rfl))
 f224:=Tryz.func181.trans (congrArg some (by kernel_rfl))
 f225:=Tryz.func180.trans (congrArg some (by kernel_rfl))
 f266:=Tryz.func192.trans (congrArg some (by kernel_rfl))
 f267:=Tryz.func182.trans (congrArg some (by kernel_rfl))
 f314:=Tryz.func193.trans (congrArg some (by kernel_rfl))
 t3:=Tryz.underlying3
 a3:=Tryz.isAgg3
 z3:=Tryz.sizeOf3
 v3:=Tryz.zeroValue3
 t4:=Tryz.underlying4
 a4:=Tryz.isAgg4
 z4:=Tryz.sizeOf4
 v4:=Tryz.zeroValue4
 t5:=Tryz.underlying5
 a5:=Tryz.isAgg5
 z5:=Tryz.sizeOf5
 v5:=Tryz.zeroValue5
 t9:=Tryz.underlying9
 a9:=Tryz.isAgg9
 z9:=Tryz.sizeOf9
 v9:=Tryz.zeroValue9
 t46:=Tryz.underlying135
 a46:=Tryz.isAgg135
 z46:=Tryz.sizeOf135
 v46:=Tryz.zeroValue135
 t51:=Tryz.underlying168
 a51:=Tryz.isAgg168
 z51:=Tryz.sizeOf168
 v51:=Tryz.zeroValue168
 t146:=Tryz.underlying227
 a146:=Tryz.isAgg227
 z146:=Tryz.sizeOf227
 v146:=Tryz.zeroValue227
 g1:=by kernel_rfl }
open Go.RowKit Go.Lib in
theorem Tryz.strings_Contains_one (s:ByteArray) (c:UInt8) (w:World) :
  Calls Tryz.prog 126 #[.string s, .string ⟨#[c]⟩] w fun e w'=>e=.returned (.bool (decide (0≤Lib.indexByte s.data.toList c)))∧w'=w:=Any.strings_Contains_one Tryz.lays144 s c w
open Go.RowKit Go.Lib in
theorem Tryz.strings_Contains (s sub:ByteArray) (m:Int) (w:World) (hs:s.size<4294967281) (hm:w.cell? ⟨0,0,none⟩=some (.int .i64 m)) :
  Calls Tryz.prog 126 #[.string s, .string sub] w fun e w'=>e=.returned (.bool (Lib.contains s.data.toList sub.data.toList))∧w'=w:=Any.strings_Contains Tryz.lays144 s sub m w hs hm
def Tryz.lays145_ren:Go.Shelf.Ren:=⟨fun|145=>90|220=>125|219=>162|217=>179|225=>180|224=>181|267=>182|266=>192|314=>193|n=>n,fun|9=>9|4=>4|59=>145|3=>3|5=>5|46=>135|146=>227|51=>168|n=>n,fun|1=>0|n=>n⟩
theorem Tryz.lays145:Go.Proofs.Lays.n145 Tryz.prog Tryz.lays145_ren:={
 mixed:=by kernel_rfl
 f145:=Tryz.func90.trans (congrArg some (by kernel_rfl))
 f217:=Tryz.func179.trans (congrArg some (by kernel_rfl))
 f219:=Tryz.func162.trans (congrArg some (by kernel_rfl))
 f220:=Tryz.func125.trans (congrArg some (by kernel_rfl))
 f224:=Tryz.func181.trans (congrArg some (by kernel_rfl))
 f225:=Tryz.func180.trans (congrArg some (by kernel_rfl))
 f266:=Tryz.func192.trans (congrArg some (by kernel_rfl))
 f267:=Tryz.func182.trans (congrArg some (by kernel_rfl))
 f314:=Tryz.func193.trans (congrArg some (by kernel_rfl))
 t3:=Tryz.underlying3
 a3:=Tryz.isAgg3
 z3:=Tryz.sizeOf3
 v3:=Tryz.zeroValue3
 t4:=Tryz.underlying4
 a4:=Tryz.isAgg4
 z4:=Tryz.sizeOf4
 v4:=Tryz.zeroValue4
 t5:=Tryz.underlying5
 a5:=Tryz.isAgg5
 z5:=Tryz.sizeOf5
 v5:=Tryz.zeroValue5
 t9:=Tryz.underlying9
 a9:=Tryz.isAgg9
 z9:=Tryz.sizeOf9
 v9:=Tryz.zeroValue9
 t46:=Tryz.underlying135
 a46:=Tryz.isAgg135
 z46:=Tryz.sizeOf135
 v46:=Tryz.zeroValue135
 t51:=Tryz.underlying168
 a51:=Tryz.isAgg168
 z51:=Tryz.sizeOf168
 v51:=Tryz.zeroValue168
 t59:=Tryz.underlying145
 a59:=Tryz.isAgg145
 z59:=Tryz.sizeOf145
 v59:=Tryz.zeroValue145
 t146:=Tryz.underlying227
 a146:=Tryz.isAgg227
 z146:=Tryz.sizeOf227
 v146:=Tryz.zeroValue227
 g1:=by kernel_rfl }
open Go.RowKit Go.Lib in
theorem Tryz.strings_Cut (s sep:ByteArray) (m:Int) (w:World) (hs:s.size<4294967281) (hm:w.cell? ⟨0,0,none⟩=some (.int .i64 m)) :
  Calls Tryz.prog 90 #[.string s, .string sep] w fun e w'=>e=.returned (.tuple #[.string ⟨(Lib.cut s.data.toList sep.data.toList).1.toArray⟩, .string ⟨(Lib.cut s.data.toList sep.data.toList).2.1.toArray⟩, .bool (Lib.cut s.data.toList sep.data.toList).2.2])∧∃ n,w'=w.drewN n:=Any.strings_Cut Tryz.lays145 s sep m w hs hm
def Tryz.laysM144_ren:Go.Shelf.Ren:=⟨fun|144=>126|143=>163|219=>162|217=>179|225=>180|224=>181|267=>182|266=>192|314=>193|n=>n,fun|9=>9|4=>4|3=>3|5=>5|46=>135|146=>227|51=>168|n=>n,fun|1=>0|n=>n⟩
theorem Tryz.laysM144:Go.Proofs.LaysM.n144 Tryz.prog Tryz.laysM144_ren:={
 mixed:=by kernel_rfl
 f143:=Tryz.func163.trans (congrArg some (by kernel_rfl))
 f144:=Tryz.func126.trans (congrArg some (by kernel_rfl))
 f217:=Tryz.func179.trans (congrArg some (by kernel_rfl))
 f219:=Tryz.func162.trans (congrArg some (by kernel_rfl))
 f224:=Tryz.func181.trans (congrArg some (by kernel_rfl))
 f225:=Tryz.func180.trans (congrArg some (by kernel_rfl))
 f266:=Tryz.func192.trans (congrArg some (by kernel_rfl))
 f267:=Tryz.func182.trans (congrArg some (by kernel_rfl))
 f314:=Tryz.func193.trans (congrArg some (by kernel_rfl))
 t3:=Tryz.underlying3
 a3:=Tryz.isAgg3
 z3:=Tryz.sizeOf3
 v3:=Tryz.zeroValue3
 t4:=Tryz.underlying4
 a4:=Tryz.isAgg4
 z4:=Tryz.sizeOf4
 v4:=Tryz.zeroValue4
 t5:=Tryz.underlying5
 a5:=Tryz.isAgg5
 z5:=Tryz.sizeOf5
 v5:=Tryz.zeroValue5
 t9:=Tryz.underlying9
 a9:=Tryz.isAgg9
 z9:=Tryz.sizeOf9
 v9:=Tryz.zeroValue9
 t46:=Tryz.underlying135
 a46:=Tryz.isAgg135
 z46:=Tryz.sizeOf135
 v46:=Tryz.zeroValue135
 t51:=Tryz.underlying168
 a51:=Tryz.isAgg168
 z51:=Tryz.sizeOf168
 v51:=Tryz.zeroValue168
 t146:=Tryz.underlying227
 a146:=Tryz.isAgg227
 z146:=Tryz.sizeOf227
 v146:=Tryz.zeroValue227
 g1:=by kernel_rfl
 i3:=by kernel_rfl
 i4:=by kernel_rfl
 i5:=by kernel_rfl
 i9:=by kernel_rfl
 i46:=by kernel_rfl
 i51:=by kernel_rfl
 i146:=by kernel_rfl
 m1:=by kernel_rfl
 s1_3:=fun w h=>Go.Proofs.cell_of_shapedOpen_int (zero:=#[.int .i64 0]) (t:=3) h (of_decide_eq_true (by kernel_rfl)) (by kernel_rfl) rfl (by kernel_rfl) (by kernel_rfl) Tryz.underlying3 }
def Tryz.laysM145_ren:Go.Shelf.Ren:=⟨fun|145=>90|220=>125|219=>162|217=>179|225=>180|224=>181|267=>182|266=>192|314=>193|n=>n,fun|9=>9|4=>4|59=>145|3=>3|5=>5|46=>135|146=>227|51=>168|n=>n,fun|1=>0|n=>n⟩
theorem Tryz.laysM145:Go.Proofs.LaysM.n145 Tryz.prog Tryz.laysM145_ren:={
 mixed:=by kernel_rfl
 f145:=Tryz.func90.trans (congrArg some (by kernel_rfl))
 f217:=Tryz.func179.trans (congrArg some (by kernel_rfl))
 f219:=Tryz.func162.trans (congrArg some (by kernel_rfl))
 f220:=Tryz.func125.trans (congrArg some (by kernel_rfl))
 f224:=Tryz.func181.trans (congrArg some (by kernel_rfl))
 f225:=Tryz.func180.trans (congrArg some (by kernel_rfl))
 f266:=Tryz.func192.trans (congrArg some (by kernel_rfl))
 f267:=Tryz.func182.trans (congrArg some (by kernel_rfl))
 f314:=Tryz.func193.trans (congrArg some (by kernel_rfl))
 t3:=Tryz.underlying3
 a3:=Tryz.isAgg3
 z3:=Tryz.sizeOf3
 v3:=Tryz.zeroValue3
 t4:=Tryz.underlying4
 a4:=Tryz.isAgg4
 z4:=Tryz.sizeOf4
 v4:=Tryz.zeroValue4
 t5:=Tryz.underlying5
 a5:=Tryz.isAgg5
 z5:=Tryz.sizeOf5
 v5:=Tryz.zeroValue5
 t9:=Tryz.underlying9
 a9:=Tryz.isAgg9
 z9:=Tryz.sizeOf9
 v9:=Tryz.zeroValue9
 t46:=Tryz.underlying135
 a46:=Tryz.isAgg135
 z46:=Tryz.sizeOf135
 v46:=Tryz.zeroValue135
 t51:=Tryz.underlying168
 a51:=Tryz.isAgg168
 z51:=Tryz.sizeOf168
 v51:=Tryz.zeroValue168
 t59:=Tryz.underlying145
 a59:=Tryz.isAgg145
 z59:=Tryz.sizeOf145
 v59:=Tryz.zeroValue145
 t146:=Tryz.underlying227
 a146:=Tryz.isAgg227
 z146:=Tryz.sizeOf227
 v146:=Tryz.zeroValue227
 g1:=by kernel_rfl
 i3:=by kernel_rfl
 i4:=by kernel_rfl
 i5:=by kernel_rfl
 i9:=by kernel_rfl
 i46:=by kernel_rfl
 i51:=by kernel_rfl
 i59:=by kernel_rfl
 i146:=by kernel_rfl
 m1:=by kernel_rfl
 s1_3:=fun w h=>Go.Proofs.cell_of_shapedOpen_int (zero:=#[.int .i64 0]) (t:=3) h (of_decide_eq_true (by kernel_rfl)) (by kernel_rfl) rfl (by kernel_rfl) (by kernel_rfl) Tryz.underlying3 }
open Go.RowKit Go.Lib in
theorem Tryz.strings_Cut_shaped (s sep:ByteArray) (w:World) (h:w.ShapedOpen Tryz.prog) (hs:s.size<4294967281) :
  Calls Tryz.prog 90 #[.string s, .string sep] w fun e w'=>e=.returned (.tuple #[.string ⟨(Lib.cut s.data.toList sep.data.toList).1.toArray⟩, .string ⟨(Lib.cut s.data.toList sep.data.toList).2.1.toArray⟩, .bool (Lib.cut s.data.toList sep.data.toList).2.2])∧∃ n,w'=w.drewN n:=Any.strings_Cut_shaped Tryz.laysM145 s sep w h hs
def Tryz.lays99_ren:Go.Shelf.Ren:=⟨fun|99=>106|206=>153|n=>n,fun|9=>9|4=>4|3=>3|n=>n,fun|n=>n⟩
theorem Tryz.lays99:Go.Proofs.Lays.n99 Tryz.prog Tryz.lays99_ren:={
 mixed:=by kernel_rfl
 f99:=Tryz.func106.trans (congrArg some (by kernel_rfl))
 f206:=Tryz.func153.trans (congrArg some (by kernel_rfl))
 t3:=Tryz.underlying3
 a3:=Tryz.isAgg3
 z3:=Tryz.sizeOf3
 v3:=Tryz.zeroValue3
 t4:=Tryz.underlying4
 a4:=Tryz.isAgg4
 z4:=Tryz.sizeOf4
 v4:=Tryz.zeroValue4
 t9:=Tryz.underlying9
 a9:=Tryz.isAgg9
 z9:=Tryz.sizeOf9
 v9:=Tryz.zeroValue9 }
open Go.RowKit Go.Lib in
theorem Tryz.strings_HasPrefix (s p:ByteArray) (w:World) :
  Calls Tryz.prog 106 #[.string s, .string p] w fun e w'=>e=.returned (.bool (Lib.hasPrefix s.data.toList p.data.toList))∧w'=w:=Any.strings_HasPrefix Tryz.lays99 s p w
def Tryz.lays100_ren:Go.Shelf.Ren:=⟨fun|100=>107|207=>154|n=>n,fun|9=>9|4=>4|3=>3|n=>n,fun|n=>n⟩
theorem Tryz.lays100:Go.Proofs.Lays.n100 Tryz.prog Tryz.lays100_ren:={
 mixed:=by kernel_rfl
 f100:=Tryz.func107.trans (congrArg some (by kernel_rfl))
 f207:=Tryz.func154.trans (congrArg some (by kernel_rfl))
 t3:=Tryz.underlying3
 a3:=Tryz.isAgg3
 z3:=Tryz.sizeOf3
 v3:=Tryz.zeroValue3
 t4:=Tryz.underlying4
 a4:=Tryz.isAgg4
 z4:=Tryz.sizeOf4
 v4:=Tryz.zeroValue4
 t9:=Tryz.underlying9
 a9:=Tryz.isAgg9
 z9:=Tryz.sizeOf9
 v9:=Tryz.zeroValue9 }
open Go.RowKit Go.Lib in
theorem Tryz.strings_HasSuffix (s p:ByteArray) (w:World) (hs:s.size≤9223372036854775807) :
  Calls Tryz.prog 107 #[.string s, .string p] w fun e w'=>e=.returned (.bool (Lib.hasSuffix s.data.toList p.data.toList))∧w'=w:=Any.strings_HasSuffix Tryz.lays100 s p w hs
def Tryz.lays146_ren:Go.Shelf.Ren:=⟨fun|146=>127|221=>164|268=>183|138=>184|143=>163|195=>194|197=>173|218=>195|219=>162|260=>189|217=>179|225=>180|224=>181|267=>182|266=>192|314=>193|n=>n,fun|9=>9|31=>22|3=>3|4=>4|0=>0|105=>215|21=>21|5=>5|46=>135|119=>229|139=>232|138=>231|146=>227|51=>168|n=>n,fun|1=>0|3=>1|4=>2|n=>n⟩
theorem Tryz.lays146:Go.Proofs.Lays.n146 Tryz.prog Tryz.lays146_ren:={
 mixed:=by kernel_rfl
 f138:=Tryz.func184.trans (congrArg some (by kernel_rfl))
 f143:=Tryz.func163.trans (congrArg some (by kernel_rfl))
 f146:=Tryz.func127.trans (congrArg some (by kernel_rfl))
 f195:=Tryz.func194.trans (congrArg some (by kernel_rfl))
 f197:=Tryz.func173.trans (congrArg some (by kernel_rfl))
 f217:=Tryz.func179.trans (congrArg some (by kernel_rfl))
 f218:=Tryz.func195.trans (congrArg some (by kernel_rfl))
 f219:=Tryz.func162.trans (congrArg some (by kernel_rfl))
 f221:=Tryz.func164.trans (congrArg some (by kernel_rfl))
 f224:=Tryz.func181.trans (congrArg some (by kernel_rfl))
 f225:=Tryz.func180.trans (congrArg some (by kernel_rfl))
 f260:=Tryz.func189.trans (congrArg some (by kernel_rfl))
 f266:=Tryz.func192.trans (congrArg some (by kernel_rfl))
 f267:=Tryz.func182.trans (congrArg some (by kernel_rfl))
 f268:=Tryz.func183.trans (congrArg some (by kernel_rfl))
 f314:=Tryz.func193.trans (congrArg some (by kernel_rfl))
 t0:=Tryz.underlying0
 a0:=Tryz.isAgg0
 z0:=Tryz.sizeOf0
 v0:=Tryz.zeroValue0
 t3:=Tryz.underlying3
 a3:=Tryz.isAgg3
 z3:=Tryz.sizeOf3
 v3:=Tryz.zeroValue3
 t4:=Tryz.underlying4
 a4:=Tryz.isAgg4
 z4:=Tryz.sizeOf4
 v4:=Tryz.zeroValue4
 t5:=Tryz.underlying5
 a5:=Tryz.isAgg5
 z5:=Tryz.sizeOf5
 v5:=Tryz.zeroValue5
 t9:=Tryz.underlying9
 a9:=Tryz.isAgg9
 z9:=Tryz.sizeOf9
 v9:=Tryz.zeroValue9
 t21:=Tryz.underlying21
 a21:=Tryz.isAgg21
 z21:=Tryz.sizeOf21
 v21:=Tryz.zeroValue21
 t31:=Tryz.underlying22
 a31:=Tryz.isAgg22
 z31:=Tryz.sizeOf22
 v31:=Tryz.zeroValue22
 t46:=Tryz.underlying135
 a46:=Tryz.isAgg135
 z46:=Tryz.sizeOf135
 v46:=Tryz.zeroValue135
 t51:=Tryz.underlying168
 a51:=Tryz.isAgg168
 z51:=Tryz.sizeOf168
 v51:=Tryz.zeroValue168
 t105:=Tryz.underlying215
 a105:=Tryz.isAgg215
 z105:=Tryz.sizeOf215
 v105:=Tryz.zeroValue215
 t119:=Tryz.underlying229
 a119:=Tryz.isAgg229
 z119:=Tryz.sizeOf229
 t138:=Tryz.underlying231
 a138:=Tryz.isAgg231
 z138:=Tryz.sizeOf231
 v138:=Tryz.zeroValue231
 t139:=Tryz.underlying232
 a139:=Tryz.isAgg232
 z139:=Tryz.sizeOf232
 v139:=Tryz.zeroValue232
 t146:=Tryz.underlying227
 a146:=Tryz.isAgg227
 z146:=Tryz.sizeOf227
 v146:=Tryz.zeroValue227
 g1:=by kernel_rfl
 g3:=by kernel_rfl
 g4:=by kernel_rfl }
open Go.RowKit Go.Lib in
theorem Tryz.strings_Split (s sep:ByteArray) (m:Int) (w:World) (hs:s.size<4294967281) (hm:w.cell? ⟨0,0,none⟩=some (.int .i64 m)) (h1:1≤sep.size) :
  Calls Tryz.prog 127 #[.string s, .string sep] w fun e w' =>
   e=.returned (.slice (some ⟨w.heap.size,0,none⟩) (Lib.countB s sep+1) (Lib.countB s sep+1))∧w'=w.alloc (.cells ((Lib.splitB sep 0 (Lib.countB s sep) s).map Value.string).toArray 9):=Any.strings_Split Tryz.lays146 (by kernel_rfl) s sep m w hs hm h1
def Tryz.laysM146_ren:Go.Shelf.Ren:=⟨fun|146=>127|221=>164|268=>183|138=>184|143=>163|195=>194|197=>173|218=>195|219=>162|260=>189|217=>179|225=>180|224=>181|267=>182|266=>192|314=>193|n=>n,fun|9=>9|31=>22|3=>3|4=>4|0=>0|105=>215|21=>21|5=>5|46=>135|119=>229|139=>232|138=>231|146=>227|51=>168|n=>n,fun|1=>0|3=>1|4=>2|n=>n⟩
theorem Tryz.laysM146:Go.Proofs.LaysM.n146 Tryz.prog Tryz.laysM146_ren:={
 mixed:=by kernel_rfl
 f138:=Tryz.func184.trans (congrArg some (by kernel_rfl))
 f143:=Tryz.func163.trans (congrArg some (by kernel_rfl))
 f146:=Tryz.func127.trans (congrArg some (by kernel_rfl))
 f195:=Tryz.func194.trans (congrArg some (by kernel_rfl))
 f197:=Tryz.func173.trans (congrArg some (by kernel_rfl))
 f217:=Tryz.func179.trans (congrArg some (by kernel_rfl))
 f218:=Tryz.func195.trans (congrArg some (by kernel_rfl))
 f219:=Tryz.func162.trans (congrArg some (by kernel_rfl))
 f221:=Tryz.func164.trans (congrArg some (by kernel_rfl))
 f224:=Tryz.func181.trans (congrArg some (by kernel_rfl))
 f225:=Tryz.func180.trans (congrArg some (by kernel_rfl))
 f260:=Tryz.func189.trans (congrArg some (by kernel_rfl))
 f266:=Tryz.func192.trans (congrArg some (by kernel_rfl))
 f267:=Tryz.func182.trans (congrArg some (by kernel_rfl))
 f268:=Tryz.func183.trans (congrArg some (by kernel_rfl))
 f314:=Tryz.func193.trans (congrArg some (by kernel_rfl))
 t0:=Tryz.underlying0
 a0:=Tryz.isAgg0
 z0:=Tryz.sizeOf0
 v0:=Tryz.zeroValue0
 t3:=Tryz.underlying3
 a3:=Tryz.isAgg3
 z3:=Tryz.sizeOf3
 v3:=Tryz.zeroValue3
 t4:=Tryz.underlying4
 a4:=Tryz.isAgg4
 z4:=Tryz.sizeOf4
 v4:=Tryz.zeroValue4
 t5:=Tryz.underlying5
 a5:=Tryz.isAgg5
 z5:=Tryz.sizeOf5
 v5:=Tryz.zeroValue5
 t9:=Tryz.underlying9
 a9:=Tryz.isAgg9
 z9:=Tryz.sizeOf9
 v9:=Tryz.zeroValue9
 t21:=Tryz.underlying21
 a21:=Tryz.isAgg21
 z21:=Tryz.sizeOf21
 v21:=Tryz.zeroValue21
 t31:=Tryz.underlying22
 a31:=Tryz.isAgg22
 z31:=Tryz.sizeOf22
 v31:=Tryz.zeroValue22
 t46:=Tryz.underlying135
 a46:=Tryz.isAgg135
 z46:=Tryz.sizeOf135
 v46:=Tryz.zeroValue135
 t51:=Tryz.underlying168
 a51:=Tryz.isAgg168
 z51:=Tryz.sizeOf168
 v51:=Tryz.zeroValue168
 t105:=Tryz.underlying215
 a105:=Tryz.isAgg215
 z105:=Tryz.sizeOf215
 v105:=Tryz.zeroValue215
 t119:=Tryz.underlying229
 a119:=Tryz.isAgg229
 z119:=Tryz.sizeOf229
 t138:=Tryz.underlying231
 a138:=Tryz.isAgg231
 z138:=Tryz.sizeOf231
 v138:=Tryz.zeroValue231
 t139:=Tryz.underlying232
 a139:=Tryz.isAgg232
 z139:=Tryz.sizeOf232
 v139:=Tryz.zeroValue232
 t146:=Tryz.underlying227
 a146:=Tryz.isAgg227
 z146:=Tryz.sizeOf227
 v146:=Tryz.zeroValue227
 g1:=by kernel_rfl
 g3:=by kernel_rfl
 g4:=by kernel_rfl
 i0:=by kernel_rfl
 i3:=by kernel_rfl
 i4:=by kernel_rfl
 i5:=by kernel_rfl
 i9:=by kernel_rfl
 i21:=by kernel_rfl
 i31:=by kernel_rfl
 i46:=by kernel_rfl
 i51:=by kernel_rfl
 i105:=by kernel_rfl
 i138:=by kernel_rfl
 i139:=by kernel_rfl
 i146:=by kernel_rfl
 m1:=by kernel_rfl
 s1_3:=fun w h=>Go.Proofs.cell_of_shapedOpen_int (zero:=#[.int .i64 0]) (t:=3) h (of_decide_eq_true (by kernel_rfl)) (by kernel_rfl) rfl (by kernel_rfl) (by kernel_rfl) Tryz.underlying3
 m3:=by kernel_rfl
 m4:=by kernel_rfl }
open Go.RowKit Go.Lib in
theorem Tryz.strings_Split_shaped (s sep:ByteArray) (w:World) (h:w.ShapedOpen Tryz.prog) (hs:s.size<4294967281) (h1:1≤sep.size) :
  Calls Tryz.prog 127 #[.string s, .string sep] w fun e w' =>
   e=.returned (.slice (some ⟨w.heap.size,0,none⟩) (Lib.countB s sep+1) (Lib.countB s sep+1))∧w'=w.alloc (.cells ((Lib.splitB sep 0 (Lib.countB s sep) s).map Value.string).toArray 9):=Any.strings_Split_shaped Tryz.laysM146 s sep w h hs h1
end Go.Proofs

namespace Go.Proofs.YtmdacedmjbiekaaGreatDoor
open Go.RowKit
theorem signs_left (s:ByteArray) (w:World):Calls Tryz.prog 105 #[.string s, .string ⟨#[91,63]⟩] w fun e w'=>e=.returned (.string ⟨(Lib.trimLeftS s.data.toList [91,63]).toArray⟩)∧Go.RowKit.Below w.heap.size w w' :=
 Any.strings_TrimLeft_laid Tryz.lays161 (by kernel_rfl) s ⟨#[91,63]⟩ w (by decide) (ascii_of_all (by decide))
theorem letters_off (s:ByteArray) (w:World) (hs:s.size≤9223372036854775807):Calls Tryz.prog 155 #[.string s, .string ⟨#[97,98,99,100,101,102,103,104,105,106,107,108,109,110,111,112,113,114,115,116,117,118,119,120,121,122]⟩] w fun e w'=>e=.returned (.string ⟨(Lib.trimS s.data.toList [97,98,99,100,101,102,103,104,105,106,107,108,109,110,111,112,113,114,115,116,117,118,119,120,121,122]).toArray⟩)∧Go.RowKit.Below w.heap.size w w' :=
 Any.strings_Trim_laid Tryz.lays160 (by kernel_rfl) s ⟨#[97,98,99,100,101,102,103,104,105,106,107,108,109,110,111,112,113,114,115,116,117,118,119,120,121,122]⟩ w hs (by decide) (ascii_of_all (by decide))
end Go.Proofs.YtmdacedmjbiekaaGreatDoor

namespace Wf
set_option linter.unusedVariables false
set_option linter.unusedSimpArgs false
abbrev Bs:=List UInt8
end Wf

namespace Wf
set_option linter.unusedVariables false
set_option linter.unusedSimpArgs false
inductive K where
 | num|txt|flag
 | ref (name:Bs)
 | list (k:K)
 | opt (k:K)
deriving DecidableEq,Repr,Inhabited
def K.text:K→Bs
 | .num=>[110]
 | .txt=>[116]
 | .flag=>[102]
 | .ref n=>64::(n++[59])
 | .list k=>91::k.text
 | .opt k=>63::k.text
def K.signs:K→Bs
 | .list k=>91::k.signs
 | .opt k=>63::k.signs
 | _=>[]
def K.core:K→K
 | .list k=>k.core
 | .opt k=>k.core
 | k=>k
def K.base:K→Bs
 | .num=>[110]
 | .txt=>[116]
 | .flag=>[102]
 | .ref _=>[64]
 | .list k=>k.base
 | .opt k=>k.base
def K.name:K→Bs
 | .ref n=>n
 | .list k=>k.name
 | .opt k=>k.name
 | _=>[]
def isLow (c:UInt8):Bool:=97≤c.toNat&&c.toNat≤122
def isName (s:Bs):Bool:=decide (1≤s.length)&&decide (s.length≤3)&&s.all isLow
def kindIn:Bs→Option K
 | []=>none
 | c::r =>
  if c=91 then (kindIn r).map .list
  else if c=63 then (kindIn r).map .opt
  else if c=64 then (if r≠[]∧r.getLast? = some 59∧isName r.dropLast=true then some (.ref r.dropLast) else none)
  else if c=110∧r=[] then some .num
  else if c=116∧r=[] then some .txt
  else if c=102∧r=[] then some .flag
  else none
def parseK (s:Bs):Option K:=if s.length≤12 then kindIn s else none
theorem kindIn_text {s:Bs} {k:K} (h:kindIn s=some k):k.text=s:=by
 induction s generalizing k with
 | nil=>simp[kindIn] at h
 | cons c r ih =>
  simp only[kindIn] at h
  split at h
  ·rename_i hc
   cases hr:kindIn r with
   | none=>rw[hr] at h;simp at h
   | some k'=>rw[hr] at h;simp at h;subst h;simp[K.text,ih hr,hc]
  ·split at h
   ·rename_i hc
    cases hr:kindIn r with
    | none=>rw[hr] at h;simp at h
    | some k'=>rw[hr] at h;simp at h;subst h;simp[K.text,ih hr,hc]
   ·split at h
    ·rename_i hc
     split at h
     ·rename_i hx
      simp at h;subst h
      obtain⟨h1,h2,h3⟩:=hx
      simp only[K.text,hc]
      rw[List.getLast?_eq_some_getLast h1] at h2
      simp at h2
      rw[← h2,List.dropLast_concat_getLast h1]
     ·simp at h
    ·repeat (first|(split at h;· rename_i hx;simp at h;subst h;simp[K.text,hx])|simp at h)
theorem K.text_ne (k:K):k.text≠[]:=by cases k <;> simp[K.text]
end Wf

namespace Wf
set_option linter.unusedVariables false
set_option linter.unusedSimpArgs false
def isSgn (c:UInt8):Bool:=c==91 || c==63
def wrap:Bs→K→K
 | [],k=>k
 | c::r,k=>if c=91 then .list (wrap r k) else .opt (wrap r k)
def coreIn (r:Bs):Option K :=
 if r=[110] then some .num else if r=[116] then some .txt else if r=[102] then some .flag
 else if r.head? = some 64∧r.getLast? = some 59∧isName (r.tail.dropLast)=true then some (.ref r.tail.dropLast) else none
theorem coreIn_kindIn {c:UInt8} {r:Bs} (h1:c≠91) (h2:c≠63):kindIn (c::r)=coreIn (c::r):=by
 simp only[kindIn,if_neg h1,if_neg h2,coreIn,List.cons.injEq]
 by_cases h3:c=64
 ·subst h3
  simp only[if_true,List.head?_cons,List.tail_cons,true_and]
  by_cases hr:r=[]
  ·subst hr;simp
  ·obtain⟨d,q,rfl⟩:=List.exists_cons_of_ne_nil hr
   simp[List.getLast?_cons_cons]
 ·simp[h3]
theorem kindIn_split (s:Bs):kindIn s=(coreIn (s.dropWhile isSgn)).map (wrap (s.takeWhile isSgn)):=by
 induction s with
 | nil=>simp[kindIn,coreIn]
 | cons c r ih =>
  by_cases h1:c=91
  ·subst h1
   have:isSgn 91=true:=by decide
   simp[kindIn,this,ih,wrap,Option.map_map,Function.comp_def]
  ·by_cases h2:c=63
   ·subst h2
    have:isSgn 63=true:=by decide
    simp[kindIn,this,ih,wrap,Option.map_map,Function.comp_def]
   ·have:isSgn c=false:=by simp[isSgn,h1,h2]
    have e:wrap []=id:=funext fun _=>rfl
    simp only[List.dropWhile_cons,List.takeWhile_cons,this]
    rw[coreIn_kindIn h1 h2]
    simp[e]
theorem wrap_signs {l:Bs} (h:l.all isSgn=true) (k:K):(wrap l k).signs=l++k.signs:=by
 induction l with
 | nil=>rfl
 | cons c r ih =>
  simp only[List.all_cons,Bool.and_eq_true] at h
  have hc:=h.1
  simp only[isSgn,Bool.or_eq_true,beq_iff_eq] at hc
  simp only[wrap]
  rcases hc with rfl|rfl
  ·simp[K.signs,ih h.2]
  ·rw[if_neg (by decide)];simp[K.signs,ih h.2]
theorem wrap_base (l:Bs) (k:K):(wrap l k).base=k.base:=by
 induction l with
 | nil=>rfl
 | cons c r ih=>simp only[wrap];split <;> simp[K.base,ih]
theorem wrap_name (l:Bs) (k:K):(wrap l k).name=k.name:=by
 induction l with
 | nil=>rfl
 | cons c r ih=>simp only[wrap];split <;> simp[K.name,ih]
end Wf

namespace Go.Proofs.YtmdacedmjbiekaaGreatDoor
def letters:List UInt8:=[97,98,99,100,101,102,103,104,105,106,107,108,109,110,111,112,113,114,115,116,117,118,119,120,121,122]
theorem letters_low (c:UInt8):letters.contains c=Wf.isLow c:=by
 have h:∀ n:Fin 256,letters.contains (UInt8.ofNat n.val)=Wf.isLow (UInt8.ofNat n.val):=by decide +kernel
 have:=h ⟨c.toNat,c.toNat_lt⟩
 simpa using this
theorem drop_nil {α:Type} (p:α→Bool) (l:List α):l.dropWhile p=[]↔l.all p=true:=by
 induction l with
 | nil=>simp
 | cons a l ih=>by_cases h:p a=true <;> simp[h,ih]
theorem trim_nil (l:List UInt8):Lib.trimS l letters=[]↔l.all Wf.isLow=true:=by
 have hp:(fun x=>letters.contains x)=Wf.isLow:=funext letters_low
 unfold Lib.trimS Lib.trimLeftS Lib.trimRightS
 rw[hp,drop_nil]
 constructor
 ·intro h
  have h2:l.reverse.all Wf.isLow=true:=by
   rw[← List.takeWhile_append_dropWhile (p:=Wf.isLow) (l:=l.reverse),List.all_append,List.all_takeWhile,Bool.true_and]
   simpa using h
  simpa using h2
 ·intro h
  have:l.reverse.dropWhile Wf.isLow=[]:=(drop_nil _ _).2 (by simpa using h)
  rw[this];rfl
end Go.Proofs.YtmdacedmjbiekaaGreatDoor
