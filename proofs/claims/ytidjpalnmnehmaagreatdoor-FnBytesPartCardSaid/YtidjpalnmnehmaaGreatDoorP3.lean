/- Packed. -/
import Derived.WalkKit
import Derived.Lib.UnsafeStr
import Derived.Lib.Hide
import Derived.Test.YtidjpalnmnehmaaGreatDoorRows
import Derived.Test.YtidjpalnmnehmaaGreatDoorP0
import Derived.ProofKit
import Derived.OpenShut
import Derived.BigQuiet
import Derived.WalkSpells
import Derived.WalkSmall
import Derived.Lib.PathFns
import Derived.Shelf.Strings.SlTrimAscii
import Derived.Shelf.Strings.Prefix
import Derived.Shelf.Strings.Cut
import Derived.Shelf.Strings.Search3
import Derived.Shelf.Strings.Split
import Derived.Shelf.Strings.SplitShaped
import Derived.Shelf.Strings.Shaped
import Derived.Shelf.Small.Wraps
import Derived.Shelf.Strings.OnBuilder
import Derived.KernelRfl
import Derived.Below
import Derived.Test.YtidjpalnmnehmaaGreatDoorChecked
import Derived.Lib.SlTrimSet
set_option maxRecDepth 99999
set_option maxHeartbeats 40000000
set_option linter.all false
namespace Go
open Go.RowKit
variable {P:Program}
theorem bcell {B:Nat} {W w1:World} (hb:Below B W w1):(∀ b o,b<B->w1.cell? ⟨b,o,none⟩=W.cell? ⟨b,o,none⟩)/\(∀ b o,b<B->w1.frozen? ⟨b,o,none⟩=W.frozen? ⟨b,o,none⟩) :=
 ⟨fun b o h=>hb.cell (p:=⟨b,o,none⟩) h,fun b o h=>hb.frozen (p:=⟨b,o,none⟩) h⟩
theorem run_convert_owned (w:World) (src dst e:TypeId) {base et:Nat} {v:Value} {l:List UInt8} (hs:P.underlying src=some (.slice e)) (he:P.underlying e=some (.int .u8)) (hd:P.underlying dst=some .string)
  (h:w.ownsRow base et 1 v l.length (Lib.byteCells l)):(convert src dst v).run P w=.ok (.string ⟨l.toArray⟩) w:=by
 obtain⟨h1,h2⟩:=h;rcases h2 with⟨rfl,h0⟩|⟨g,cap,cur,rfl,hg,hh,hn,hc,hsz,ht⟩
 ·have:l=[]:=List.eq_nil_of_length_eq_zero h0
  subst this;rw[run_convert_bytes_string w src dst e none 0 0 hs he hd];simp[Conv.bytesToString,Sem.run_pure];rfl
 ·refine run_convert_bytes_back w src dst e ⟨g,0,none⟩ cap l hs he hd fun j hj=>?_
  have ha:(Addr.add ⟨g,0,none⟩ j)=⟨g,j,none⟩:=by simp[Addr.add];intro h;exact h.symm
  rw[ha];simp only[World.cell?,hh];have hx:(cur.toList.take (l.length*1))[j]? = (Lib.byteCells l)[j]?:=by rw[ht]
  rw[List.getElem?_take,if_pos (by omega)] at hx;simp only[Lib.byteCells,List.getElem?_map,List.getElem?_eq_getElem hj,Option.map_some] at hx;simpa using hx
theorem run_convert_one (src dst e:TypeId) (hs:P.underlying src=some (.slice e)) (he:P.underlying e=some (.int .u8)) (hd:P.underlying dst=some .string) (W:World) (a:Addr) (c:Nat) (m:Int)
  (h:W.cell? a=some (.int .u8 m)):(convert src dst (.slice (some a) 1 c)).run P W=.ok (.string ⟨#[UInt8.ofNat m.toNat]⟩) W:=by
 rw[run_convert_bytes_string W src dst e (some a) 1 c hs he hd];have hl:=run_loadCells_list (P:=P) W a ([m].map (Value.int .u8)) (fun j v hj=>by
  match j,hj with
  | 0,hj=>simp at hj;subst hj;simpa[Addr.add] using h)
 simp only[List.length_map,List.length_cons,List.length_nil] at hl;rw[run_bytesToString W a 1 c [m] hl];rfl
theorem run_convert_lit (src dst e:TypeId) (hs:P.underlying src=some (.slice e)) (he:P.underlying e=some (.int .u8)) (hd:P.underlying dst=some .string) (W:World) (m:Int) (et:TypeId) :
  (convert src dst (.slice (some ⟨W.heap.size,0,none⟩) 1 1)).run P (W.alloc (.cells #[.int .u8 m] et))=.ok (.string ⟨#[UInt8.ofNat m.toNat]⟩) (W.alloc (.cells #[.int .u8 m] et)) :=
 run_convert_one src dst e hs he hd _ _ 1 m (by simp)
theorem run_add_bytes (x y z:List UInt8) (h:x.length+y.length<=9223372036854775807) (hz:z=x++y) (W:World) :
  (Op.stringOp .add ⟨x.toArray⟩ ⟨y.toArray⟩).run P W=.ok (.string ⟨z.toArray⟩) W:=by
 subst hz;refine(run_string_add_sum (P:=P) (w:=W) _ _ (by simpa[ByteArray.size] using h)).trans ?_;rw[ByteArray.mk_append_mk]
theorem below_grown {base:Nat} {w w':World} {e n:Nat} {size:Nat} {v:Value} {xs:List Value} (hown:w.ownsRow base e size v n xs) (hg:w.grownBy w' v.ownBlock) (hb:base<=w.heap.size):Below base w w':=by
 refine(Below.refl base w).grown hg hb fun k hk=>?_;obtain⟨_,h2⟩:=hown;rcases h2 with⟨rfl,_⟩|⟨g,cap,cur,rfl,hg,_⟩
 ·simp[Value.ownBlock] at hk
 ·simp[Value.ownBlock] at hk;omega
theorem wpList_append_one (w:World) {ops:Array Oper} {rest:List Oper} {o:Oper} {a:Act} {Q:Exit->Act->World->Prop} (hgd:o.guard=none) (s x:Operand) (t:TypeId)
  (ho:o.op=.call { callee:=.builtin .append,args:=#[s,x],argTypes:=#[t,t] })
  (base:Nat) (e:TypeId) (i:TypeInfo) (z:Value) (size bytes:Nat) (ht:P.underlying t=some (.slice e)) (hi:P.info? e=some i) (hz:i.zero=some z)
  (hsize:i.size=size) (hby:i.bytes=bytes) (hzs:z.cells.size=size) (hsz:0<size)
  (v:Value) (n:Nat) (xs:List Value) (hs:a.eval s=v) (hown:w.ownsRow base e size v n xs)
  (ad:Addr) (news:List Value) (hx:a.eval x=.slice (some ad) 1 1) (hl:news.length=size) (hnews:∀ j u,news[j]? = some u->w.cell? (ad.add j)=some u) (h1:∀ u∈news,u.oneCell'=true)
  (hbytes:(n+1)*bytes<=140737488355328) (h63:n+1<=140737488355328) (hbase:base<=w.heap.size)
  (h:∀ v' w',w'.ownsRow base e size v' (n+1) (xs++news)->Below base w w'->wpList P ops Q rest (a.put o.dst v') w'):wpList P ops Q (o::rest) a w :=
 wpList_append_own w hgd s x t ho base e i z size bytes ht hi hz hsize hby hzs hsz v n xs hs hown ad 1 1 news hx (by omega) hnews h1 (by unfold maxLen;omega) hbytes hbase
  fun v' w' g1 g2 _=>h v' w' g1 (below_grown hown g2 hbase)
theorem wpList_append_byte (w:World) {ops:Array Oper} {rest:List Oper} {o:Oper} {a:Act} {Q:Exit->Act->World->Prop} (hgd:o.guard=none) (s x:Operand) (t:TypeId)
  (ho:o.op=.call { callee:=.builtin .append,args:=#[s,x],argTypes:=#[t,t] })
  (base:Nat) (e:TypeId) (ht:P.underlying t=some (.slice e)) (hi:(P.info? e).map (fun i=>(i.zero,i.size,i.bytes))=some (some (.int .u8 0),1,1))
  (v:Value) (l:List UInt8) (hs:a.eval s=v) (hown:w.ownsRow base e 1 v l.length (Lib.byteCells l))
  (ad:Addr) (m:Int) (hx:a.eval x=.slice (some ad) 1 1) (hc:w.cell? ad=some (.int .u8 m)) (c:UInt8) (hm:m=c.toNat)
  (hn:l.length+1<=140737488355328) (hbase:base<=w.heap.size)
  (h:∀ v' w',w'.ownsRow base e 1 v' (l++[c]).length (Lib.byteCells (l++[c]))->Below base w w'->wpList P ops Q rest (a.put o.dst v') w'):wpList P ops Q (o::rest) a w:=by
 obtain⟨i0,hi0,hz0,hz1,hz2⟩:=info_parts hi;refine wpList_append_one w hgd s x t ho base e i0 (.int .u8 0) 1 1 ht hi0 hz0 hz1 hz2 rfl (by decide) v l.length _ hs hown ad [.int .u8 m] hx rfl ?_ ?_ (by omega) hn hbase ?_
 ·intro j u hj
  match j,hj with
  | 0,hj=>simp at hj;subst hj;simpa[Addr.add] using hc
 ·intro u hu;simp at hu;subst hu;rfl
 ·intro v' w' g1 g2
  refine h v' w' ?_ g2;have e1:(l++[c]).length=l.length+1:=by simp
  have e2:Lib.byteCells (l++[c])=Lib.byteCells l++[.int .u8 m]:=by simp[Lib.byteCells,hm]
  rw[e1,e2];exact g1
end Go

namespace Go.Proofs.YtidjpalnmnehmaaGreatDoor
open Go.ChangeShapes Go.WideShapes Go.ChangeAt Go.RowKit Go.Lib Go.Lib.Pa
theorem ngi_e0 (s:ByteArray) (w:World) (_hl:s.size<=9223372036854775807) (h0:s.size=0) :
  Calls Tryz.prog 71 #[.string s] w fun e w'=>e=.returned (.tuple #[.int .i64 0,.string ⟨#[]⟩,.bool false])/\∃ n,w'=w.drewN n:=by
 go_enter Tryz.func71,Tryz.ntmps71;go_wp2;refine wp_loop_rounds 4 ?_;rw[rounds_succ];go_wp2;all_goals go_ret3
 all_goals exact⟨rfl,0,rfl⟩
theorem ngi_y0 (s:ByteArray) (w:World) (_hl:s.size<=9223372036854775807) (h1:1<=s.size) (a:Nat) (e0:∀ h,(s[0]'h).toNat=a) (ha:a<128) :
  Calls Tryz.prog 71 #[.string s] w fun e w'=>e=.returned (.tuple #[.int .i64 ((a:Int) % 128),.string (s.extract 1 s.size),.bool true])/\∃ n,w'=w.drewN n:=by
 go_enter Tryz.func71,Tryz.ntmps71;go_wp2;refine wp_loop_rounds 4 ?_;rw[rounds_succ];go_wp2;go_region
 go_wp2;all_goals go_ret3
 all_goals exact⟨rfl,1,rfl⟩
theorem ngi_e1 (s:ByteArray) (w:World) (_hl:s.size<=9223372036854775807) (h1:s.size=1) (a:Nat) (e0:∀ h,(s[0]'h).toNat=a) (ha:128<=a) (ha2:a<256) :
  Calls Tryz.prog 71 #[.string s] w fun e w'=>e=.returned (.tuple #[.int .i64 0,.string ⟨#[]⟩,.bool false])/\∃ n,w'=w.drewN n:=by
 go_enter Tryz.func71,Tryz.ntmps71;go_wp2;refine wp_loop_rounds 4 ?_;rw[rounds_succ];go_wp2;rw[rounds_succ];go_wp2;all_goals go_ret3
 all_goals exact⟨rfl,0,rfl⟩
theorem ngi_z1 (s:ByteArray) (w:World) (_hl:s.size<=9223372036854775807) (h2:2<=s.size) (a:Nat) (e0:∀ h,(s[0]'h).toNat=a) (ha:128<=a) (ha2:a<256) (e1:∀ h,(s[1]'h).toNat=0) :
  Calls Tryz.prog 71 #[.string s] w fun e w'=>e=.returned (.tuple #[.int .i64 0,.string ⟨#[]⟩,.bool false])/\∃ n,w'=w.drewN n:=by
 go_enter Tryz.func71,Tryz.ntmps71;go_wp2;refine wp_loop_rounds 4 ?_;rw[rounds_succ];go_wp2;rw[rounds_succ];go_wp2;all_goals go_ret3
 all_goals exact⟨rfl,0,rfl⟩
theorem ngi_y1 (s:ByteArray) (w:World) (_hl:s.size<=9223372036854775807) (h2:2<=s.size) (a:Nat) (e0:∀ h,(s[0]'h).toNat=a) (ha:128<=a) (ha2:a<256) (b:Nat) (e1:∀ h,(s[1]'h).toNat=b) (hb:b<128) (hb0:0<b) :
  Calls Tryz.prog 71 #[.string s] w fun e w'=>e=.returned (.tuple #[.int .i64 ((a:Int) % 128+(b:Int) % 128*128),.string (s.extract 2 s.size),.bool true])/\∃ n,w'=w.drewN n:=by
 have hq:((b:Int)==0)=false:=by rw[beq_eq_false_iff_ne];omega
 go_enter Tryz.func71,Tryz.ntmps71;go_wp2;refine wp_loop_rounds 4 ?_;rw[rounds_succ];go_wp2;rw[rounds_succ];go_wp2;go_region
 go_wp2;all_goals go_ret3
 all_goals exact⟨rfl,1,rfl⟩
theorem ngi_e2 (s:ByteArray) (w:World) (_hl:s.size<=9223372036854775807) (h2:s.size=2) (a:Nat) (e0:∀ h,(s[0]'h).toNat=a) (ha:128<=a) (ha2:a<256) (b:Nat) (e1:∀ h,(s[1]'h).toNat=b) (hb:128<=b) (hb2:b<256) :
  Calls Tryz.prog 71 #[.string s] w fun e w'=>e=.returned (.tuple #[.int .i64 0,.string ⟨#[]⟩,.bool false])/\∃ n,w'=w.drewN n:=by
 go_enter Tryz.func71,Tryz.ntmps71;go_wp2;refine wp_loop_rounds 4 ?_;rw[rounds_succ];go_wp2;rw[rounds_succ];go_wp2;rw[rounds_succ];go_wp2;all_goals go_ret3
 all_goals exact⟨rfl,0,rfl⟩
theorem ngi_z2 (s:ByteArray) (w:World) (_hl:s.size<=9223372036854775807) (h2:3<=s.size) (a:Nat) (e0:∀ h,(s[0]'h).toNat=a) (ha:128<=a) (ha2:a<256) (b:Nat) (e1:∀ h,(s[1]'h).toNat=b) (hb:128<=b) (hb2:b<256) (e2:∀ h,(s[2]'h).toNat=0) :
  Calls Tryz.prog 71 #[.string s] w fun e w'=>e=.returned (.tuple #[.int .i64 0,.string ⟨#[]⟩,.bool false])/\∃ n,w'=w.drewN n:=by
 go_enter Tryz.func71,Tryz.ntmps71;go_wp2;refine wp_loop_rounds 4 ?_;rw[rounds_succ];go_wp2;rw[rounds_succ];go_wp2;rw[rounds_succ];go_wp2;all_goals go_ret3
 all_goals exact⟨rfl,0,rfl⟩
theorem ngi_b2 (s:ByteArray) (w:World) (_hl:s.size<=9223372036854775807) (h2:3<=s.size) (a:Nat) (e0:∀ h,(s[0]'h).toNat=a) (ha:128<=a) (ha2:a<256) (b:Nat) (e1:∀ h,(s[1]'h).toNat=b) (hb:128<=b) (hb2:b<256) (c:Nat) (e2:∀ h,(s[2]'h).toNat=c) (hc:c<128) (hc0:0<c) (hbig:999999<(a:Int) % 128+(b:Int) % 128*128+(c:Int) % 128*16384) :
  Calls Tryz.prog 71 #[.string s] w fun e w'=>e=.returned (.tuple #[.int .i64 0,.string ⟨#[]⟩,.bool false])/\∃ n,w'=w.drewN n:=by
 have hq:((c:Int)==0)=false:=by rw[beq_eq_false_iff_ne];omega
 go_enter Tryz.func71,Tryz.ntmps71;go_wp2;refine wp_loop_rounds 4 ?_;rw[rounds_succ];go_wp2;rw[rounds_succ];go_wp2;rw[rounds_succ];go_wp2;all_goals go_ret3
 all_goals exact⟨rfl,0,rfl⟩
theorem ngi_y2 (s:ByteArray) (w:World) (_hl:s.size<=9223372036854775807) (h2:3<=s.size) (a:Nat) (e0:∀ h,(s[0]'h).toNat=a) (ha:128<=a) (ha2:a<256) (b:Nat) (e1:∀ h,(s[1]'h).toNat=b) (hb:128<=b) (hb2:b<256) (c:Nat) (e2:∀ h,(s[2]'h).toNat=c) (hc:c<128) (hc0:0<c) (hbig:(a:Int) % 128+(b:Int) % 128*128+(c:Int) % 128*16384<=999999) :
  Calls Tryz.prog 71 #[.string s] w fun e w'=>e=.returned (.tuple #[.int .i64 ((a:Int) % 128+(b:Int) % 128*128+(c:Int) % 128*16384),.string (s.extract 3 s.size),.bool true])/\∃ n,w'=w.drewN n:=by
 have hq:((c:Int)==0)=false:=by rw[beq_eq_false_iff_ne];omega
 go_enter Tryz.func71,Tryz.ntmps71;go_wp2;refine wp_loop_rounds 4 ?_;rw[rounds_succ];go_wp2;rw[rounds_succ];go_wp2;rw[rounds_succ];go_wp2;go_region
 go_wp2;all_goals go_ret3
 all_goals exact⟨rfl,1,rfl⟩
theorem ngi_e3 (s:ByteArray) (w:World) (_hl:s.size<=9223372036854775807) (h2:3<=s.size) (a:Nat) (e0:∀ h,(s[0]'h).toNat=a) (ha:128<=a) (ha2:a<256) (b:Nat) (e1:∀ h,(s[1]'h).toNat=b) (hb:128<=b) (hb2:b<256) (c:Nat) (e2:∀ h,(s[2]'h).toNat=c) (hc:128<=c) (hc2:c<256) :
  Calls Tryz.prog 71 #[.string s] w fun e w'=>e=.returned (.tuple #[.int .i64 0,.string ⟨#[]⟩,.bool false])/\∃ n,w'=w.drewN n:=by
 go_enter Tryz.func71,Tryz.ntmps71;go_wp2;refine wp_loop_rounds 4 ?_;rw[rounds_succ];go_wp2;rw[rounds_succ];go_wp2;rw[rounds_succ];go_wp2;rw[rounds_succ];go_wp2;all_goals go_ret3
 all_goals exact⟨rfl,0,rfl⟩
def getNV (o:Option (Nat × Wf.Bs)):Value :=
 match o with
 | none=>.tuple #[.int .i64 0,.string ⟨#[]⟩,.bool false]
 | some (n,r)=>.tuple #[.int .i64 (n:Int),.string ⟨r.toArray⟩,.bool true]
theorem ret3 {a b:Int} {s t:ByteArray} {x y:Bool} (h1:a=b) (h2:s=t) (h3:x=y):Ending.returned (.tuple #[.int .i64 a,.string s,.bool x])=.returned (.tuple #[.int .i64 b,.string t,.bool y]):=by rw[h1,h2,h3]
theorem byte_fact {s:ByteArray} {l:List UInt8} (hs:s.data.toList=l) {i:Nat} {c:UInt8} (hc:l[i]? = some c):∀ h:i<s.size,(s[i]'h).toNat=c.toNat:=by
 intro h;subst hs;have:s.data.toList[i]? = some (s[i]'h):=by
  rw[Array.getElem?_toList,Array.getElem?_eq_getElem (by exact h)];rfl
 rw[this] at hc;simp only[Option.some.injEq] at hc;rw[hc]
theorem numGet_impl (s:ByteArray) (w:World) (hl:s.size<=9223372036854775807) :
  Calls Tryz.prog 71 #[.string s] w fun e w'=>e=.returned (getNV (Wf.getN s.data.toList))/\∃ n,w'=w.drewN n:=by
 obtain⟨l,hs⟩:∃ l,s.data.toList=l:=⟨_,rfl⟩;have hsz:s.size=l.length:=by rw[<-hs];exact Array.length_toList.symm
 rw[hs];match l with
 | []=>exact ngi_e0 s w hl (by simpa using hsz)
 | a::r =>
  simp only[List.length_cons] at hsz;have e0:=byte_fact hs (i:=0) (c:=a) rfl;have ha:=a.toNat_lt;by_cases h1:a.toNat<128
  ·have hg:Wf.getN (a::r)=some (a.toNat,r):=by simp[Wf.getN,h1]
   rw[hg];refine(ngi_y0 s w hl (by omega) _ e0 h1).mono fun e w' ⟨he,hw⟩=>⟨?_,hw⟩;rw[he,Go.Lib.extract_from,hs];exact ret3 (by omega) rfl rfl
  ·match r with
   | [] =>
    have hg:Wf.getN [a]=none:=(by simp[Wf.getN,h1]);rw[hg];exact ngi_e1 s w hl (by simpa using hsz) _ e0 (by omega) ha
   | b::r2 =>
    simp only[List.length_cons] at hsz;have e1:=byte_fact hs (i:=1) (c:=b) rfl;have hb:=b.toNat_lt;by_cases h2:b.toNat<128
    ·by_cases h3:b.toNat=0
     ·have hg:Wf.getN (a::b::r2)=none:=by simp[Wf.getN,h1,h3]
      rw[hg];rw[h3] at e1;exact ngi_z1 s w hl (by omega) _ e0 (by omega) ha e1
     ·have hg:Wf.getN (a::b::r2)=some (a.toNat % 128+b.toNat*128,r2):=by simp[Wf.getN,h1,h2,h3]
      rw[hg];refine(ngi_y1 s w hl (by omega) _ e0 (by omega) ha _ e1 h2 (by omega)).mono fun e w' ⟨he,hw⟩=>⟨?_,hw⟩;rw[he,Go.Lib.extract_from,hs];exact ret3 (by omega) rfl rfl
    ·match r2 with
     | [] =>
      have hg:Wf.getN [a,b]=none:=(by simp[Wf.getN,h1,h2]);rw[hg];exact ngi_e2 s w hl (by simpa using hsz) _ e0 (by omega) ha _ e1 (by omega) hb
     | c::r3 =>
      simp only[List.length_cons] at hsz;have e2:=byte_fact hs (i:=2) (c:=c) rfl;have hc:=c.toNat_lt;by_cases h4:c.toNat<128
      ·by_cases h5:c.toNat=0
       ·have hg:Wf.getN (a::b::c::r3)=none:=by simp[Wf.getN,h1,h2,h4,h5]
        rw[hg];rw[h5] at e2;exact ngi_z2 s w hl (by omega) _ e0 (by omega) ha _ e1 (by omega) hb e2
       ·by_cases h6:999999<a.toNat % 128+b.toNat % 128*128+c.toNat*16384
        ·have hg:Wf.getN (a::b::c::r3)=none:=by simp only[Wf.getN,if_neg h1,if_neg h2,if_pos h4];rw[if_pos (.inr h6)]
         rw[hg];exact ngi_b2 s w hl (by omega) _ e0 (by omega) ha _ e1 (by omega) hb _ e2 h4 (by omega) (by omega)
        ·have hg:Wf.getN (a::b::c::r3)=some (a.toNat % 128+b.toNat % 128*128+c.toNat*16384,r3):=by simp only[Wf.getN,if_neg h1,if_neg h2,if_pos h4];rw[if_neg (by omega)]
         rw[hg];refine(ngi_y2 s w hl (by omega) _ e0 (by omega) ha _ e1 (by omega) hb _ e2 h4 (by omega) (by omega)).mono fun e w' ⟨he,hw⟩=>⟨?_,hw⟩;rw[he,Go.Lib.extract_from,hs];exact ret3 (by omega) rfl rfl
      ·have hg:Wf.getN (a::b::c::r3)=none:=by simp[Wf.getN,h1,h2,h4]
       rw[hg];exact ngi_e3 s w hl (by omega) _ e0 (by omega) ha _ e1 (by omega) hb _ e2 (by omega) hc
end Go.Proofs.YtidjpalnmnehmaaGreatDoor

namespace Go.Proofs
open Go.Shelf
def Tryz.lays169_ren:Go.Shelf.Ren:=⟨fun|169=>80|n=>n,fun|70=>133|9=>9|0=>0|72=>135|37=>22|127=>159|3=>3|5=>5|n=>n,fun|n=>n⟩
theorem Tryz.lays169:Go.Proofs.Lays.n169 Tryz.prog Tryz.lays169_ren:={
 mixed:=by kernel_rfl
 f169:=Tryz.func80.trans (congrArg some (by kernel_rfl))
 t0:=Tryz.underlying0
 a0:=Tryz.isAgg0
 z0:=Tryz.sizeOf0
 v0:=Tryz.zeroValue0
 t3:=Tryz.underlying3
 a3:=Tryz.isAgg3
 z3:=Tryz.sizeOf3
 v3:=Tryz.zeroValue3
 t9:=Tryz.underlying9
 a9:=Tryz.isAgg9
 z9:=Tryz.sizeOf9
 v9:=Tryz.zeroValue9
 t37:=Tryz.underlying22
 a37:=Tryz.isAgg22
 z37:=Tryz.sizeOf22
 v37:=Tryz.zeroValue22
 t70:=Tryz.underlying133
 a70:=Tryz.isAgg133
 z70:=Tryz.sizeOf133
 v70:=Tryz.zeroValue133
 t72:=Tryz.underlying135
 a72:=Tryz.isAgg135
 z72:=Tryz.sizeOf135
 v72:=Tryz.zeroValue135
 t127:=Tryz.underlying159
 a127:=Tryz.isAgg159
 z127:=Tryz.sizeOf159
 v127:=Tryz.zeroValue159 }
theorem Tryz.Builder_Extra_169:Builder.Extra Tryz.prog Tryz.lays169_ren:={
 sizeBuilder:=by kernel_rfl
 liesBuilder:=by kernel_rfl
 t5:=Tryz.underlying5
 a5:=Tryz.isAgg5
 z5:=Tryz.sizeOf5
 v5:=Tryz.zeroValue5
 infoByte:=by kernel_rfl
 cellsByte:=by kernel_rfl
 sizeByte:=by kernel_rfl
 neB5:=by decide }
open Go.RowKit in
def Tryz.lays156_ren:Go.Shelf.Ren:=⟨fun|156=>59|165=>101|166=>79|169=>80|240=>117|241=>134|276=>146|277=>157|n=>n,fun|31=>111|9=>9|3=>3|4=>4|0=>0|20=>20|72=>135|76=>138|70=>133|37=>22|75=>137|127=>159|164=>181|5=>5|80=>60|n=>n,fun|n=>n⟩
theorem Tryz.lays156:Go.Proofs.Lays.n156 Tryz.prog Tryz.lays156_ren:={
 mixed:=by kernel_rfl
 f156:=Tryz.func59.trans (congrArg some (by kernel_rfl))
 f165:=Tryz.func101.trans (congrArg some (by kernel_rfl))
 f166:=Tryz.func79.trans (congrArg some (by kernel_rfl))
 f169:=Tryz.func80.trans (congrArg some (by kernel_rfl))
 f240:=Tryz.func117.trans (congrArg some (by kernel_rfl))
 f241:=Tryz.func134.trans (congrArg some (by kernel_rfl))
 f276:=Tryz.func146.trans (congrArg some (by kernel_rfl))
 f277:=Tryz.func157.trans (congrArg some (by kernel_rfl))
 t0:=Tryz.underlying0
 a0:=Tryz.isAgg0
 z0:=Tryz.sizeOf0
 v0:=Tryz.zeroValue0
 t3:=Tryz.underlying3
 a3:=Tryz.isAgg3
 z3:=Tryz.sizeOf3
 v3:=Tryz.zeroValue3
 t4:=Tryz.underlying4
 a4:=Tryz.isAgg4
 z4:=Tryz.sizeOf4
 v4:=Tryz.zeroValue4
 t9:=Tryz.underlying9
 a9:=Tryz.isAgg9
 z9:=Tryz.sizeOf9
 v9:=Tryz.zeroValue9
 t20:=Tryz.underlying20
 a20:=Tryz.isAgg20
 z20:=Tryz.sizeOf20
 v20:=Tryz.zeroValue20
 t31:=Tryz.underlying111
 a31:=Tryz.isAgg111
 z31:=Tryz.sizeOf111
 v31:=Tryz.zeroValue111
 t37:=Tryz.underlying22
 a37:=Tryz.isAgg22
 z37:=Tryz.sizeOf22
 v37:=Tryz.zeroValue22
 t70:=Tryz.underlying133
 a70:=Tryz.isAgg133
 z70:=Tryz.sizeOf133
 v70:=Tryz.zeroValue133
 t72:=Tryz.underlying135
 a72:=Tryz.isAgg135
 z72:=Tryz.sizeOf135
 v72:=Tryz.zeroValue135
 t75:=Tryz.underlying137
 a75:=Tryz.isAgg137
 z75:=Tryz.sizeOf137
 v75:=Tryz.zeroValue137
 t76:=Tryz.underlying138
 a76:=Tryz.isAgg138
 z76:=Tryz.sizeOf138
 v76:=Tryz.zeroValue138
 t127:=Tryz.underlying159
 a127:=Tryz.isAgg159
 z127:=Tryz.sizeOf159
 v127:=Tryz.zeroValue159
 t164:=Tryz.underlying181
 a164:=Tryz.isAgg181
 z164:=Tryz.sizeOf181
 v164:=Tryz.zeroValue181 }
theorem Tryz.Builder_Extra_156:Builder.Extra Tryz.prog Tryz.lays156_ren:={
 sizeBuilder:=by kernel_rfl
 liesBuilder:=by kernel_rfl
 t5:=Tryz.underlying5
 a5:=Tryz.isAgg5
 z5:=Tryz.sizeOf5
 v5:=Tryz.zeroValue5
 infoByte:=by kernel_rfl
 cellsByte:=by kernel_rfl
 sizeByte:=by kernel_rfl
 neB5:=by decide }
open Go.RowKit in
theorem Tryz.strings_Join_none (a:Option Addr) (c:Nat) (sep:ByteArray) (w:World) :
  Calls Tryz.prog 59 #[.slice a 0 c,.string sep] w fun e w'=>e=.returned (.string ⟨#[]⟩)/\w'=w:=Any.strings_Join_none Tryz.lays156 Tryz.Builder_Extra_156 a c sep w
open Go.RowKit in
theorem Tryz.strings_Join (bk o c:Nat) (xs:List ByteArray) (sep:ByteArray) (w:World) (hcells:∀ (j:Nat) x,xs[j]? = some x->w.cell? ⟨bk,o+j,none⟩=some (.string x)) (hbk:bk<w.heap.size) (hN:xs.length<=140737488355328) (hcap:xs.length<=c) (hlen:(Lib.join (xs.map (·.data.toList)) sep.data.toList).length<=140737488355328) :
  Calls Tryz.prog 59 #[.slice (some ⟨bk,o,none⟩) xs.length c,.string sep] w fun e w'=>e=.returned (.string ⟨(Lib.join (xs.map (·.data.toList)) sep.data.toList).toArray⟩)/\Below w.heap.size w w':=Any.strings_Join Tryz.lays156 Tryz.Builder_Extra_156 bk o c xs sep w hcells hbk hN hcap hlen
def Tryz.lays161_ren:Go.Shelf.Ren:=⟨fun|161=>90|231=>127|227=>128|233=>129|235=>130|228=>151|197=>152|151=>153|260=>168|152=>169|137=>176|119=>177|224=>161|225=>160|217=>159|266=>172|n=>n,fun|9=>9|4=>4|3=>3|5=>5|117=>170|116=>169|0=>0|124=>173|105=>189|21=>21|119=>200|46=>194|139=>203|138=>202|n=>n,fun|3=>1|4=>2|n=>n⟩
theorem Tryz.lays161:Go.Proofs.Lays.n161 Tryz.prog Tryz.lays161_ren:={
 mixed:=by kernel_rfl
 f119:=Tryz.func177.trans (congrArg some (by kernel_rfl))
 f137:=Tryz.func176.trans (congrArg some (by kernel_rfl))
 f151:=Tryz.func153.trans (congrArg some (by kernel_rfl))
 f152:=Tryz.func169.trans (congrArg some (by kernel_rfl))
 f161:=Tryz.func90.trans (congrArg some (by kernel_rfl))
 f197:=Tryz.func152.trans (congrArg some (by kernel_rfl))
 f217:=Tryz.func159.trans (congrArg some (by kernel_rfl))
 f224:=Tryz.func161.trans (congrArg some (by kernel_rfl))
 f225:=Tryz.func160.trans (congrArg some (by kernel_rfl))
 f227:=Tryz.func128.trans (congrArg some (by kernel_rfl))
 f228:=Tryz.func151.trans (congrArg some (by kernel_rfl))
 f231:=Tryz.func127.trans (congrArg some (by kernel_rfl))
 f233:=Tryz.func129.trans (congrArg some (by kernel_rfl))
 f235:=Tryz.func130.trans (congrArg some (by kernel_rfl))
 f260:=Tryz.func168.trans (congrArg some (by kernel_rfl))
 f266:=Tryz.func172.trans (congrArg some (by kernel_rfl))
 t0:=Tryz.underlying0
 a0:=Tryz.isAgg0
 z0:=Tryz.sizeOf0
 v0:=Tryz.zeroValue0
 t3:=Tryz.underlying3
 a3:=Tryz.isAgg3
 z3:=Tryz.sizeOf3
 v3:=Tryz.zeroValue3
 t4:=Tryz.underlying4
 a4:=Tryz.isAgg4
 z4:=Tryz.sizeOf4
 v4:=Tryz.zeroValue4
 t5:=Tryz.underlying5
 a5:=Tryz.isAgg5
 z5:=Tryz.sizeOf5
 v5:=Tryz.zeroValue5
 t9:=Tryz.underlying9
 a9:=Tryz.isAgg9
 z9:=Tryz.sizeOf9
 v9:=Tryz.zeroValue9
 t21:=Tryz.underlying21
 a21:=Tryz.isAgg21
 z21:=Tryz.sizeOf21
 v21:=Tryz.zeroValue21
 t46:=Tryz.underlying194
 a46:=Tryz.isAgg194
 z46:=Tryz.sizeOf194
 v46:=Tryz.zeroValue194
 t105:=Tryz.underlying189
 a105:=Tryz.isAgg189
 z105:=Tryz.sizeOf189
 v105:=Tryz.zeroValue189
 t116:=Tryz.underlying169
 a116:=Tryz.isAgg169
 z116:=Tryz.sizeOf169
 t117:=Tryz.underlying170
 a117:=Tryz.isAgg170
 z117:=Tryz.sizeOf170
 v117:=Tryz.zeroValue170
 t119:=Tryz.underlying200
 a119:=Tryz.isAgg200
 z119:=Tryz.sizeOf200
 t124:=Tryz.underlying173
 a124:=Tryz.isAgg173
 z124:=Tryz.sizeOf173
 v124:=Tryz.zeroValue173
 t138:=Tryz.underlying202
 a138:=Tryz.isAgg202
 z138:=Tryz.sizeOf202
 v138:=Tryz.zeroValue202
 t139:=Tryz.underlying203
 a139:=Tryz.isAgg203
 z139:=Tryz.sizeOf203
 v139:=Tryz.zeroValue203
 g3:=by kernel_rfl
 g4:=by kernel_rfl }
def Tryz.lays160_ren:Go.Shelf.Ren:=⟨fun|160=>133|232=>154|231=>127|227=>128|234=>155|233=>129|236=>156|235=>130|228=>151|271=>170|151=>153|197=>152|120=>178|152=>169|260=>168|137=>176|119=>177|224=>161|225=>160|217=>159|266=>172|n=>n,fun|9=>9|4=>4|3=>3|5=>5|117=>170|116=>169|0=>0|124=>173|21=>21|105=>189|46=>194|119=>200|139=>203|138=>202|n=>n,fun|3=>1|4=>2|n=>n⟩
theorem Tryz.lays160:Go.Proofs.Lays.n160 Tryz.prog Tryz.lays160_ren:={
 mixed:=by kernel_rfl
 f119:=Tryz.func177.trans (congrArg some (by kernel_rfl))
 f120:=Tryz.func178.trans (congrArg some (by kernel_rfl))
 f137:=Tryz.func176.trans (congrArg some (by kernel_rfl))
 f151:=Tryz.func153.trans (congrArg some (by kernel_rfl))
 f152:=Tryz.func169.trans (congrArg some (by kernel_rfl))
 f160:=Tryz.func133.trans (congrArg some (by kernel_rfl))
 f197:=Tryz.func152.trans (congrArg some (by kernel_rfl))
 f217:=Tryz.func159.trans (congrArg some (by kernel_rfl))
 f224:=Tryz.func161.trans (congrArg some (by kernel_rfl))
 f225:=Tryz.func160.trans (congrArg some (by kernel_rfl))
 f227:=Tryz.func128.trans (congrArg some (by kernel_rfl))
 f228:=Tryz.func151.trans (congrArg some (by kernel_rfl))
 f231:=Tryz.func127.trans (congrArg some (by kernel_rfl))
 f232:=Tryz.func154.trans (congrArg some (by kernel_rfl))
 f233:=Tryz.func129.trans (congrArg some (by kernel_rfl))
 f234:=Tryz.func155.trans (congrArg some (by kernel_rfl))
 f235:=Tryz.func130.trans (congrArg some (by kernel_rfl))
 f236:=Tryz.func156.trans (congrArg some (by kernel_rfl))
 f260:=Tryz.func168.trans (congrArg some (by kernel_rfl))
 f266:=Tryz.func172.trans (congrArg some (by kernel_rfl))
 f271:=Tryz.func170.trans (congrArg some (by kernel_rfl))
 t0:=Tryz.underlying0
 a0:=Tryz.isAgg0
 z0:=Tryz.sizeOf0
 v0:=Tryz.zeroValue0
 t3:=Tryz.underlying3
 a3:=Tryz.isAgg3
 z3:=Tryz.sizeOf3
 v3:=Tryz.zeroValue3
 t4:=Tryz.underlying4
 a4:=Tryz.isAgg4
 z4:=Tryz.sizeOf4
 v4:=Tryz.zeroValue4
 t5:=Tryz.underlying5
 a5:=Tryz.isAgg5
 z5:=Tryz.sizeOf5
 v5:=Tryz.zeroValue5
 t9:=Tryz.underlying9
 a9:=Tryz.isAgg9
 z9:=Tryz.sizeOf9
 v9:=Tryz.zeroValue9
 t21:=Tryz.underlying21
 a21:=Tryz.isAgg21
 z21:=Tryz.sizeOf21
 v21:=Tryz.zeroValue21
 t46:=Tryz.underlying194
 a46:=Tryz.isAgg194
 z46:=Tryz.sizeOf194
 v46:=Tryz.zeroValue194
 t105:=Tryz.underlying189
 a105:=Tryz.isAgg189
 z105:=Tryz.sizeOf189
 v105:=Tryz.zeroValue189
 t116:=Tryz.underlying169
 a116:=Tryz.isAgg169
 z116:=Tryz.sizeOf169
 t117:=Tryz.underlying170
 a117:=Tryz.isAgg170
 z117:=Tryz.sizeOf170
 v117:=Tryz.zeroValue170
 t119:=Tryz.underlying200
 a119:=Tryz.isAgg200
 z119:=Tryz.sizeOf200
 t124:=Tryz.underlying173
 a124:=Tryz.isAgg173
 z124:=Tryz.sizeOf173
 v124:=Tryz.zeroValue173
 t138:=Tryz.underlying202
 a138:=Tryz.isAgg202
 z138:=Tryz.sizeOf202
 v138:=Tryz.zeroValue202
 t139:=Tryz.underlying203
 a139:=Tryz.isAgg203
 z139:=Tryz.sizeOf203
 v139:=Tryz.zeroValue203
 g3:=by kernel_rfl
 g4:=by kernel_rfl }
def Tryz.lays103_ren:Go.Shelf.Ren:=⟨fun|103=>144|210=>166|206=>131|n=>n,fun|9=>9|4=>4|24=>25|3=>3|n=>n,fun|n=>n⟩
theorem Tryz.lays103:Go.Proofs.Lays.n103 Tryz.prog Tryz.lays103_ren:={
 mixed:=by kernel_rfl
 f103:=Tryz.func144.trans (congrArg some (by kernel_rfl))
 f206:=Tryz.func131.trans (congrArg some (by kernel_rfl))
 f210:=Tryz.func166.trans (congrArg some (by kernel_rfl))
 t3:=Tryz.underlying3
 a3:=Tryz.isAgg3
 z3:=Tryz.sizeOf3
 v3:=Tryz.zeroValue3
 t4:=Tryz.underlying4
 a4:=Tryz.isAgg4
 z4:=Tryz.sizeOf4
 v4:=Tryz.zeroValue4
 t9:=Tryz.underlying9
 a9:=Tryz.isAgg9
 z9:=Tryz.sizeOf9
 v9:=Tryz.zeroValue9
 t24:=Tryz.underlying25
 a24:=Tryz.isAgg25
 z24:=Tryz.sizeOf25
 v24:=Tryz.zeroValue25 }
open Go.RowKit in
theorem Tryz.strings_CutPrefix (s p:ByteArray) (w:World) :
  Calls Tryz.prog 144 #[.string s,.string p] w fun e w'=>e=.returned (.tuple #[.string ⟨(Lib.trimPrefix s.data.toList p.data.toList).toArray⟩,.bool (Lib.hasPrefix s.data.toList p.data.toList)])/\w'=w:=Any.strings_CutPrefix Tryz.lays103 s p w
def Tryz.lays144_ren:Go.Shelf.Ren:=⟨fun|144=>107|143=>137|219=>136|217=>159|225=>160|224=>161|267=>162|266=>172|314=>173|n=>n,fun|9=>9|4=>4|3=>3|5=>5|46=>194|146=>198|51=>197|n=>n,fun|1=>0|n=>n⟩
theorem Tryz.lays144:Go.Proofs.Lays.n144 Tryz.prog Tryz.lays144_ren:={
 mixed:=by kernel_rfl
 f143:=Tryz.func137.trans (congrArg some (by kernel_rfl))
 f144:=Tryz.func107.trans (congrArg some (by kernel_rfl))
 f217:=Tryz.func159.trans (congrArg some (by kernel_rfl))
 f219:=Tryz.func136.trans (congrArg some (by kernel_rfl))
 f224:=Tryz.func161.trans (congrArg some (by kernel_rfl))
 f225:=Tryz.func160.trans (congrArg some (by kernel_rfl))
 f266:=Tryz.func172.trans (congrArg some (by kernel_rfl))
 f267:=Tryz.func162.trans (congrArg some (by kernel_rfl))
 f314:=Tryz.func173.trans (congrArg some (by kernel_rfl))
 t3:=Tryz.underlying3
 a3:=Tryz.isAgg3
 z3:=Tryz.sizeOf3
 v3:=Tryz.zeroValue3
 t4:=Tryz.underlying4
 a4:=Tryz.isAgg4
 z4:=Tryz.sizeOf4
 v4:=Tryz.zeroValue4
 t5:=Tryz.underlying5
 a5:=Tryz.isAgg5
 z5:=Tryz.sizeOf5
 v5:=Tryz.zeroValue5
 t9:=Tryz.underlying9
 a9:=Tryz.isAgg9
 z9:=Tryz.sizeOf9
 v9:=Tryz.zeroValue9
 t46:=Tryz.underlying194
 a46:=Tryz.isAgg194
 z46:=Tryz.sizeOf194
 v46:=Tryz.zeroValue194
 t51:=Tryz.underlying197
 a51:=Tryz.isAgg197
 z51:=Tryz.sizeOf197
 v51:=Tryz.zeroValue197
 t146:=Tryz.underlying198
 a146:=Tryz.isAgg198
 z146:=Tryz.sizeOf198
 v146:=Tryz.zeroValue198
 g1:=by kernel_rfl }
open Go.RowKit Go.Lib in
theorem Tryz.strings_Contains_one (s:ByteArray) (c:UInt8) (w:World) :
  Calls Tryz.prog 107 #[.string s,.string ⟨#[c]⟩] w fun e w'=>e=.returned (.bool (decide (0<=Lib.indexByte s.data.toList c)))/\w'=w:=Any.strings_Contains_one Tryz.lays144 s c w
open Go.RowKit Go.Lib in
def Tryz.lays145_ren:Go.Shelf.Ren:=⟨fun|145=>68|220=>106|219=>136|217=>159|225=>160|224=>161|267=>162|266=>172|314=>173|n=>n,fun|9=>9|4=>4|59=>121|3=>3|5=>5|46=>194|146=>198|51=>197|n=>n,fun|1=>0|n=>n⟩
theorem Tryz.lays145:Go.Proofs.Lays.n145 Tryz.prog Tryz.lays145_ren:={
 mixed:=by kernel_rfl
 f145:=Tryz.func68.trans (congrArg some (by kernel_rfl))
 f217:=Tryz.func159.trans (congrArg some (by kernel_rfl))
 f219:=Tryz.func136.trans (congrArg some (by kernel_rfl))
 f220:=Tryz.func106.trans (congrArg some (by kernel_rfl))
 f224:=Tryz.func161.trans (congrArg some (by kernel_rfl))
 f225:=Tryz.func160.trans (congrArg some (by kernel_rfl))
 f266:=Tryz.func172.trans (congrArg some (by kernel_rfl))
 f267:=Tryz.func162.trans (congrArg some (by kernel_rfl))
 f314:=Tryz.func173.trans (congrArg some (by kernel_rfl))
 t3:=Tryz.underlying3
 a3:=Tryz.isAgg3
 z3:=Tryz.sizeOf3
 v3:=Tryz.zeroValue3
 t4:=Tryz.underlying4
 a4:=Tryz.isAgg4
 z4:=Tryz.sizeOf4
 v4:=Tryz.zeroValue4
 t5:=Tryz.underlying5
 a5:=Tryz.isAgg5
 z5:=Tryz.sizeOf5
 v5:=Tryz.zeroValue5
 t9:=Tryz.underlying9
 a9:=Tryz.isAgg9
 z9:=Tryz.sizeOf9
 v9:=Tryz.zeroValue9
 t46:=Tryz.underlying194
 a46:=Tryz.isAgg194
 z46:=Tryz.sizeOf194
 v46:=Tryz.zeroValue194
 t51:=Tryz.underlying197
 a51:=Tryz.isAgg197
 z51:=Tryz.sizeOf197
 v51:=Tryz.zeroValue197
 t59:=Tryz.underlying121
 a59:=Tryz.isAgg121
 z59:=Tryz.sizeOf121
 v59:=Tryz.zeroValue121
 t146:=Tryz.underlying198
 a146:=Tryz.isAgg198
 z146:=Tryz.sizeOf198
 v146:=Tryz.zeroValue198
 g1:=by kernel_rfl }
open Go.RowKit Go.Lib in
theorem Tryz.strings_Cut (s sep:ByteArray) (m:Int) (w:World) (hs:s.size<4294967281) (hm:w.cell? ⟨0,0,none⟩=some (.int .i64 m)) :
  Calls Tryz.prog 68 #[.string s,.string sep] w fun e w'=>e=.returned (.tuple #[.string ⟨(Lib.cut s.data.toList sep.data.toList).1.toArray⟩,.string ⟨(Lib.cut s.data.toList sep.data.toList).2.1.toArray⟩,.bool (Lib.cut s.data.toList sep.data.toList).2.2])/\∃ n,w'=w.drewN n:=Any.strings_Cut Tryz.lays145 s sep m w hs hm
def Tryz.laysM145_ren:Go.Shelf.Ren:=⟨fun|145=>68|220=>106|219=>136|217=>159|225=>160|224=>161|267=>162|266=>172|314=>173|n=>n,fun|9=>9|4=>4|59=>121|3=>3|5=>5|46=>194|146=>198|51=>197|n=>n,fun|1=>0|n=>n⟩
theorem Tryz.laysM145:Go.Proofs.LaysM.n145 Tryz.prog Tryz.laysM145_ren:={
 mixed:=by kernel_rfl
 f145:=Tryz.func68.trans (congrArg some (by kernel_rfl))
 f217:=Tryz.func159.trans (congrArg some (by kernel_rfl))
 f219:=Tryz.func136.trans (congrArg some (by kernel_rfl))
 f220:=Tryz.func106.trans (congrArg some (by kernel_rfl))
 f224:=Tryz.func161.trans (congrArg some (by kernel_rfl))
 f225:=Tryz.func160.trans (congrArg some (by kernel_rfl))
 f266:=Tryz.func172.trans (congrArg some (by kernel_rfl))
 f267:=Tryz.func162.trans (congrArg some (by kernel_rfl))
 f314:=Tryz.func173.trans (congrArg some (by kernel_rfl))
 t3:=Tryz.underlying3
 a3:=Tryz.isAgg3
 z3:=Tryz.sizeOf3
 v3:=Tryz.zeroValue3
 t4:=Tryz.underlying4
 a4:=Tryz.isAgg4
 z4:=Tryz.sizeOf4
 v4:=Tryz.zeroValue4
 t5:=Tryz.underlying5
 a5:=Tryz.isAgg5
 z5:=Tryz.sizeOf5
 v5:=Tryz.zeroValue5
 t9:=Tryz.underlying9
 a9:=Tryz.isAgg9
 z9:=Tryz.sizeOf9
 v9:=Tryz.zeroValue9
 t46:=Tryz.underlying194
 a46:=Tryz.isAgg194
 z46:=Tryz.sizeOf194
 v46:=Tryz.zeroValue194
 t51:=Tryz.underlying197
 a51:=Tryz.isAgg197
 z51:=Tryz.sizeOf197
 v51:=Tryz.zeroValue197
 t59:=Tryz.underlying121
 a59:=Tryz.isAgg121
 z59:=Tryz.sizeOf121
 v59:=Tryz.zeroValue121
 t146:=Tryz.underlying198
 a146:=Tryz.isAgg198
 z146:=Tryz.sizeOf198
 v146:=Tryz.zeroValue198
 g1:=by kernel_rfl
 i3:=by kernel_rfl
 i4:=by kernel_rfl
 i5:=by kernel_rfl
 i9:=by kernel_rfl
 i46:=by kernel_rfl
 i51:=by kernel_rfl
 i59:=by kernel_rfl
 i146:=by kernel_rfl
 m1:=by kernel_rfl
 s1_3:=fun w h=>Go.Proofs.cell_of_shapedOpen_int (zero:=#[.int .i64 0]) (t:=3) h (of_decide_eq_true (by kernel_rfl)) (by kernel_rfl) rfl (by kernel_rfl) (by kernel_rfl) Tryz.underlying3 }
open Go.RowKit Go.Lib in
def Tryz.lays99_ren:Go.Shelf.Ren:=⟨fun|99=>91|206=>131|n=>n,fun|9=>9|4=>4|3=>3|n=>n,fun|n=>n⟩
theorem Tryz.lays99:Go.Proofs.Lays.n99 Tryz.prog Tryz.lays99_ren:={
 mixed:=by kernel_rfl
 f99:=Tryz.func91.trans (congrArg some (by kernel_rfl))
 f206:=Tryz.func131.trans (congrArg some (by kernel_rfl))
 t3:=Tryz.underlying3
 a3:=Tryz.isAgg3
 z3:=Tryz.sizeOf3
 v3:=Tryz.zeroValue3
 t4:=Tryz.underlying4
 a4:=Tryz.isAgg4
 z4:=Tryz.sizeOf4
 v4:=Tryz.zeroValue4
 t9:=Tryz.underlying9
 a9:=Tryz.isAgg9
 z9:=Tryz.sizeOf9
 v9:=Tryz.zeroValue9 }
open Go.RowKit Go.Lib in
theorem Tryz.strings_HasPrefix (s p:ByteArray) (w:World) :
  Calls Tryz.prog 91 #[.string s,.string p] w fun e w'=>e=.returned (.bool (Lib.hasPrefix s.data.toList p.data.toList))/\w'=w:=Any.strings_HasPrefix Tryz.lays99 s p w
def Tryz.lays100_ren:Go.Shelf.Ren:=⟨fun|100=>92|207=>132|n=>n,fun|9=>9|4=>4|3=>3|n=>n,fun|n=>n⟩
theorem Tryz.lays100:Go.Proofs.Lays.n100 Tryz.prog Tryz.lays100_ren:={
 mixed:=by kernel_rfl
 f100:=Tryz.func92.trans (congrArg some (by kernel_rfl))
 f207:=Tryz.func132.trans (congrArg some (by kernel_rfl))
 t3:=Tryz.underlying3
 a3:=Tryz.isAgg3
 z3:=Tryz.sizeOf3
 v3:=Tryz.zeroValue3
 t4:=Tryz.underlying4
 a4:=Tryz.isAgg4
 z4:=Tryz.sizeOf4
 v4:=Tryz.zeroValue4
 t9:=Tryz.underlying9
 a9:=Tryz.isAgg9
 z9:=Tryz.sizeOf9
 v9:=Tryz.zeroValue9 }
open Go.RowKit Go.Lib in
theorem Tryz.strings_HasSuffix (s p:ByteArray) (w:World) (hs:s.size<=9223372036854775807) :
  Calls Tryz.prog 92 #[.string s,.string p] w fun e w'=>e=.returned (.bool (Lib.hasSuffix s.data.toList p.data.toList))/\w'=w:=Any.strings_HasSuffix Tryz.lays100 s p w hs
def Tryz.lays146_ren:Go.Shelf.Ren:=⟨fun|146=>108|221=>138|268=>163|138=>164|143=>137|195=>174|197=>152|218=>175|219=>136|260=>168|217=>159|225=>160|224=>161|267=>162|266=>172|314=>173|n=>n,fun|9=>9|31=>111|3=>3|4=>4|0=>0|105=>189|21=>21|5=>5|46=>194|119=>200|139=>203|138=>202|146=>198|51=>197|n=>n,fun|1=>0|3=>1|4=>2|n=>n⟩
theorem Tryz.lays146:Go.Proofs.Lays.n146 Tryz.prog Tryz.lays146_ren:={
 mixed:=by kernel_rfl
 f138:=Tryz.func164.trans (congrArg some (by kernel_rfl))
 f143:=Tryz.func137.trans (congrArg some (by kernel_rfl))
 f146:=Tryz.func108.trans (congrArg some (by kernel_rfl))
 f195:=Tryz.func174.trans (congrArg some (by kernel_rfl))
 f197:=Tryz.func152.trans (congrArg some (by kernel_rfl))
 f217:=Tryz.func159.trans (congrArg some (by kernel_rfl))
 f218:=Tryz.func175.trans (congrArg some (by kernel_rfl))
 f219:=Tryz.func136.trans (congrArg some (by kernel_rfl))
 f221:=Tryz.func138.trans (congrArg some (by kernel_rfl))
 f224:=Tryz.func161.trans (congrArg some (by kernel_rfl))
 f225:=Tryz.func160.trans (congrArg some (by kernel_rfl))
 f260:=Tryz.func168.trans (congrArg some (by kernel_rfl))
 f266:=Tryz.func172.trans (congrArg some (by kernel_rfl))
 f267:=Tryz.func162.trans (congrArg some (by kernel_rfl))
 f268:=Tryz.func163.trans (congrArg some (by kernel_rfl))
 f314:=Tryz.func173.trans (congrArg some (by kernel_rfl))
 t0:=Tryz.underlying0
 a0:=Tryz.isAgg0
 z0:=Tryz.sizeOf0
 v0:=Tryz.zeroValue0
 t3:=Tryz.underlying3
 a3:=Tryz.isAgg3
 z3:=Tryz.sizeOf3
 v3:=Tryz.zeroValue3
 t4:=Tryz.underlying4
 a4:=Tryz.isAgg4
 z4:=Tryz.sizeOf4
 v4:=Tryz.zeroValue4
 t5:=Tryz.underlying5
 a5:=Tryz.isAgg5
 z5:=Tryz.sizeOf5
 v5:=Tryz.zeroValue5
 t9:=Tryz.underlying9
 a9:=Tryz.isAgg9
 z9:=Tryz.sizeOf9
 v9:=Tryz.zeroValue9
 t21:=Tryz.underlying21
 a21:=Tryz.isAgg21
 z21:=Tryz.sizeOf21
 v21:=Tryz.zeroValue21
 t31:=Tryz.underlying111
 a31:=Tryz.isAgg111
 z31:=Tryz.sizeOf111
 v31:=Tryz.zeroValue111
 t46:=Tryz.underlying194
 a46:=Tryz.isAgg194
 z46:=Tryz.sizeOf194
 v46:=Tryz.zeroValue194
 t51:=Tryz.underlying197
 a51:=Tryz.isAgg197
 z51:=Tryz.sizeOf197
 v51:=Tryz.zeroValue197
 t105:=Tryz.underlying189
 a105:=Tryz.isAgg189
 z105:=Tryz.sizeOf189
 v105:=Tryz.zeroValue189
 t119:=Tryz.underlying200
 a119:=Tryz.isAgg200
 z119:=Tryz.sizeOf200
 t138:=Tryz.underlying202
 a138:=Tryz.isAgg202
 z138:=Tryz.sizeOf202
 v138:=Tryz.zeroValue202
 t139:=Tryz.underlying203
 a139:=Tryz.isAgg203
 z139:=Tryz.sizeOf203
 v139:=Tryz.zeroValue203
 t146:=Tryz.underlying198
 a146:=Tryz.isAgg198
 z146:=Tryz.sizeOf198
 v146:=Tryz.zeroValue198
 g1:=by kernel_rfl
 g3:=by kernel_rfl
 g4:=by kernel_rfl }
open Go.RowKit Go.Lib in
theorem Tryz.strings_Split (s sep:ByteArray) (m:Int) (w:World) (hs:s.size<4294967281) (hm:w.cell? ⟨0,0,none⟩=some (.int .i64 m)) (h1:1<=sep.size) :
  Calls Tryz.prog 108 #[.string s,.string sep] w fun e w' =>
   e=.returned (.slice (some ⟨w.heap.size,0,none⟩) (Lib.countB s sep+1) (Lib.countB s sep+1))/\w'=w.alloc (.cells ((Lib.splitB sep 0 (Lib.countB s sep) s).map Value.string).toArray 9):=Any.strings_Split Tryz.lays146 (by kernel_rfl) s sep m w hs hm h1
end Go.Proofs

namespace Go.Proofs.YtidjpalnmnehmaaGreatDoor
open Go.RowKit
theorem wB (s:ByteArray) (w:World):Calls Tryz.prog 90 #[.string s,.string ⟨#[91,63]⟩] w fun e w'=>e=.returned (.string ⟨(Lib.trimLeftS s.data.toList [91,63]).toArray⟩)/\Go.RowKit.Below w.heap.size w w' :=
 Any.strings_TrimLeft_laid Tryz.lays161 (by kernel_rfl) s ⟨#[91,63]⟩ w (by decide) (ascii_of_all (by decide))
theorem a6A (s:ByteArray) (w:World) (hs:s.size<=9223372036854775807):Calls Tryz.prog 133 #[.string s,.string ⟨#[97,98,99,100,101,102,103,104,105,106,107,108,109,110,111,112,113,114,115,116,117,118,119,120,121,122]⟩] w fun e w'=>e=.returned (.string ⟨(Lib.trimS s.data.toList [97,98,99,100,101,102,103,104,105,106,107,108,109,110,111,112,113,114,115,116,117,118,119,120,121,122]).toArray⟩)/\Go.RowKit.Below w.heap.size w w' :=
 Any.strings_Trim_laid Tryz.lays160 (by kernel_rfl) s ⟨#[97,98,99,100,101,102,103,104,105,106,107,108,109,110,111,112,113,114,115,116,117,118,119,120,121,122]⟩ w hs (by decide) (ascii_of_all (by decide))
end Go.Proofs.YtidjpalnmnehmaaGreatDoor

namespace Go.Proofs.YtidjpalnmnehmaaGreatDoor
def gX:List UInt8:=[97,98,99,100,101,102,103,104,105,106,107,108,109,110,111,112,113,114,115,116,117,118,119,120,121,122]
theorem a3J (c:UInt8):gX.contains c=Wf.bP c:=by
 have h:∀ n:Fin 256,gX.contains (UInt8.ofNat n.val)=Wf.bP (UInt8.ofNat n.val):=by decide +kernel
 have:=h ⟨c.toNat,c.toNat_lt⟩;simpa using this
theorem drop_nil {α:Type} (p:α->Bool) (l:List α):l.dropWhile p=[]↔l.all p=true:=by
 induction l with
 | nil=>simp
 | cons a l ih=>by_cases h:p a=true <;> simp[h,ih]
theorem uN (l:List UInt8):Lib.trimS l gX=[]↔l.all Wf.bP=true:=by
 have hp:(fun x=>gX.contains x)=Wf.bP:=funext a3J;unfold Lib.trimS Lib.trimLeftS Lib.trimRightS;rw[hp,drop_nil];constructor
 ·intro h
  have h2:l.reverse.all Wf.bP=true:=by
   rw[<-List.takeWhile_append_dropWhile (p:=Wf.bP) (l:=l.reverse),List.all_append,List.all_takeWhile,Bool.true_and];simpa using h
  simpa using h2
 ·intro h
  have:l.reverse.dropWhile Wf.bP=[]:=(drop_nil _ _).2 (by simpa using h);rw[this];rfl
end Go.Proofs.YtidjpalnmnehmaaGreatDoor

namespace Go.Proofs.YtidjpalnmnehmaaGreatDoor
open Go.ChangeShapes Go.WideShapes Go.ChangeAt Go.RowKit Go.Lib
theorem vO (n a b:Int) (w:World) (h1:a<=n) (h2:n<=b):Calls Tryz.prog 149 #[.int .i64 n,.int .i64 a,.int .i64 b] w fun e w'=>e=.returned (.bool true)/\w=w':=by
 go_enter Tryz.func149,Tryz.ntmps149;go_wp2;go_ret
 exact⟨rfl,rfl⟩
theorem aP {x y:Bool} (h2:x=y):Ending.returned (.bool x)=.returned (.bool y):=by rw[h2]
theorem qQ (n a b:Int) (w:World) (h:n<a\/b<n):Calls Tryz.prog 149 #[.int .i64 n,.int .i64 a,.int .i64 b] w fun e w'=>e=.returned (.bool false)/\w=w':=by
 by_cases h1:a<=n
 ·have h2:b<n:=by omega
  clear h;go_enter Tryz.func149,Tryz.ntmps149;go_wp2;go_ret
  exact⟨aP (decide_eq_false (by omega)),rfl⟩
 ·have h2:n<a:=by omega
  clear h;go_enter Tryz.func149,Tryz.ntmps149;go_wp2;go_ret
  exact⟨aP rfl,rfl⟩
theorem byte_at (s:ByteArray) (i:Nat) (h:i<s.size):∃ c:UInt8,s.data.toList[i]? = some c/\∀ h,(s[i]'h).toNat=c.toNat:=by
 refine⟨s[i]'h,?_,fun _=>rfl⟩;rw[Array.getElem?_toList,Array.getElem?_eq_getElem (by exact h)];rfl
theorem aD (s:ByteArray):s.data.toList.length=s.size:=by rw[Array.length_toList];rfl
theorem nF {s:ByteArray} {i:Nat} {c:UInt8} (h:s.data.toList[i]? = some c) (hc:Wf.bP c=false):Wf.isName s.data.toList=false:=by
 unfold Wf.isName;have hm:c∈s.data.toList:=List.mem_of_getElem? h;have:s.data.toList.all Wf.bP=false:=by
  rw[List.all_eq_false];exact⟨c,hm,by rw[hc];decide⟩
 rw[this,Bool.and_false]
theorem uO {l:List UInt8} {i:Nat} {c:UInt8} (h:(l.take i).all Wf.bP=true) (hc:l[i]? = some c) (hl:Wf.bP c=true):(l.take (i+1)).all Wf.bP=true:=by
 rw[List.take_add_one,hc,List.all_append,h];simp[hl]
theorem uB {c:UInt8} (h:c.toNat<97\/122<c.toNat):Wf.bP c=false:=by
 unfold Wf.bP;rcases h with h|h
 ·rw[decide_eq_false (by omega),Bool.false_and]
 ·rw[decide_eq_false (p:=c.toNat<=122) (by omega),Bool.and_false]
theorem wT {c:UInt8} (h:97<=c.toNat) (h2:c.toNat<=122):Wf.bP c=true:=by simp[Wf.bP];omega
theorem kR {s:ByteArray} {i:Int} {b:Bool} (hi:i=s.size) (h:(s.data.toList.take i.toNat).all Wf.bP=true) (hb:decide (1<=s.size/\s.size<=3)=b):b=Wf.isName s.data.toList:=by
 have hl:=aD s;rw[List.take_of_length_le (by omega)] at h;unfold Wf.isName;rw[h,Bool.and_true,hl,<-hb];by_cases h1:1<=s.size <;> by_cases h2:s.size<=3 <;> simp[h1,h2]
theorem iM (s:ByteArray) (w:World) (hs:s.size<=9223372036854775807):Calls Tryz.prog 121 #[.string s] w fun e w'=>e=.returned (.bool (Wf.isName s.data.toList))/\w=w':=by
 go_enter Tryz.func121,Tryz.ntmps121;go_wp2;go_loopw [3] (fun v wr=>∃ i:Int,0<=i/\i<=s.size/\v=.int .i64 i/\Hid ((s.data.toList.take i.toNat).all Wf.bP=true)/\w=wr)
  (fun v _=>s.size-(RowKit.intOf v).toNat)
 case atStart=>exact⟨0,Int.le_refl _,by omega,rfl,hid (show _=true by simp),rfl⟩
 case round =>
  obtain⟨i,hi0,hi1,rfl,hall,rfl⟩:=hrel;by_cases hlt:i<s.size
  ·obtain⟨c,hc,e0⟩:=byte_at s i.toNat (by omega)
   have HC:=hid hc;clear hc;obtain⟨a,ha⟩:∃ a,c.toNat=a:=⟨_,rfl⟩;have HA:=hid ha;rw[ha] at e0;clear ha;by_cases h1:a<97
   ·go_wp2
    go_ret
    exact⟨aP (nF HC.out (uB (by rw[HA.out];omega))).symm,rfl⟩
   ·by_cases h2:122<a
    ·go_wp2
     go_ret
     exact⟨aP (nF HC.out (uB (by rw[HA.out];omega))).symm,rfl⟩
    ·go_wp2
     go_roundw
     case rel=>exact⟨_,by omega,by omega,rfl,hid (show _=true by rw[show(i+1).toNat=i.toNat+1 by omega];exact uO hall.out HC.out (wT (by rw[HA.out];omega) (by rw[HA.out];omega))),trivial⟩
     case measure=>simp[RowKit.intOf];omega
  ·have hi:i=s.size:=by omega
   by_cases h3:1<=s.size
   ·by_cases h4:s.size<=3
    ·go_wp2_with (go_at_call 149;refine(vO _ _ _ _ (by omega) (by omega)).mono ?_;rintro e w1 ⟨rfl,rfl⟩)
     go_ret
     exact⟨aP (kR hi hall.out (decide_eq_true ⟨h3,h4⟩)),rfl⟩
    ·go_wp2_with (go_at_call 149;refine(qQ _ _ _ _ (by omega)).mono ?_;rintro e w1 ⟨rfl,rfl⟩)
     go_ret
     exact⟨aP (kR hi hall.out (decide_eq_false (by omega))),rfl⟩
   ·go_wp2_with (go_at_call 149;refine(qQ _ _ _ _ (by omega)).mono ?_;rintro e w1 ⟨rfl,rfl⟩)
    go_ret
    exact⟨aP (kR hi hall.out (decide_eq_false (by omega))),rfl⟩
theorem gY {s:ByteArray} (h:1<=s.size):s.toList.isEmpty=false:=by
 rw[ByteArray.toList_eq];have:=aD s;cases h':s.data.toList with
 | nil=>rw[h'] at this;simp at this;omega
 | cons a l=>rfl
theorem xD (s:ByteArray) (w:World) (hs:s.size<=12) (h1:1<=s.size) (a:Nat) (e0:∀ h,(s[0]'h).toNat=a) (ha:a=91) (b:Bool) (hr:Calls Tryz.prog 82 #[.string (s.extract 1 s.size)] w fun e w'=>e=.returned (.bool b)/\w=w'):Calls Tryz.prog 82 #[.string s] w fun e w'=>e=.returned (.bool b)/\w=w':=by
 subst ha;have HR:=hid hr;clear hr;have t0:s.toList.isEmpty=false:=gY h1;go_enter Tryz.func82,Tryz.ntmps82;go_wp2_with (go_at_call 82;refine HR.out.mono ?_;rintro e w1 ⟨rfl,rfl⟩)
 go_ret
 exact⟨rfl,rfl⟩
theorem a1J (s:ByteArray) (w:World) (hs:s.size<=12) (h1:1<=s.size) (h2:2<=s.size) (a z:Nat) (e0:∀ h,(s[0]'h).toNat=a) (ha:a=64) (el:∀ h,(s[s.size-1]'h).toNat=z) (hz:z=59):Calls Tryz.prog 82 #[.string s] w fun e w'=>e=.returned (.bool (Wf.isName (s.extract 1 (s.size-1)).data.toList))/\w=w':=by
 subst ha hz;obtain⟨b,hb⟩:∃ b,Wf.isName (s.extract 1 (s.size-1)).data.toList=b:=⟨_,rfl⟩;have HL:=hid (iM (s.extract 1 (s.size-1)) w (by rw[ByteArray.size_extract];omega));rw[hb] at HL ⊢;clear hb;have t0:s.toList.isEmpty=false:=gY h1;go_enter Tryz.func82,Tryz.ntmps82;go_wp2_with (go_at_call 121;refine HL.out.mono ?_;rintro e w1 ⟨rfl,rfl⟩)
 go_ret
 exact⟨rfl,rfl⟩
theorem aR (s:ByteArray) (l:List UInt8):(s=⟨l.toArray⟩)↔s.data.toList=l:=by
 constructor
 ·rintro rfl;rfl
 ·intro h;rw[<-h]
theorem sF (s:ByteArray) (w:World) (hs:s.size<=12) (h1:1<=s.size) (a z:Nat) (e0:∀ h,(s[0]'h).toNat=a) (ha:a=64) (el:∀ h,(s[s.size-1]'h).toNat=z) (hz:z≠59):Calls Tryz.prog 82 #[.string s] w fun e w'=>e=.returned (.bool false)/\w=w':=by
 subst ha;have t0:s.toList.isEmpty=false:=gY h1;have t1:((z:Int)==59)=false:=by rw[beq_eq_false_iff_ne];omega
 go_enter Tryz.func82,Tryz.ntmps82;go_wp2;go_ret
 exact⟨rfl,rfl⟩
theorem uH (s:ByteArray) (w:World) (hs:s.size<=12) (h1:1<=s.size) (a:Nat) (e0:∀ h,(s[0]'h).toNat=a) (ha:a≠64) (ha2:a≠91) (ha3:a≠63):Calls Tryz.prog 82 #[.string s] w fun e w'=>e=.returned (.bool (s.toList==[110] || s.toList==[116] || s.toList==[102]))/\w=w':=by
 have t0:s.toList.isEmpty=false:=gY h1;have t1:((a:Int)==64)=false:=by rw[beq_eq_false_iff_ne];omega
 have t2:((a:Int)==91)=false:=by rw[beq_eq_false_iff_ne];omega
 have t3:((a:Int)==63)=false:=by rw[beq_eq_false_iff_ne];omega
 cases g1:(s.toList==[110]) <;> cases g2:(s.toList==[116]) <;> cases g3:(s.toList==[102]);all_goals (go_enter Tryz.func82,Tryz.ntmps82;go_wp2)
 all_goals go_ret
 all_goals exact⟨rfl,rfl⟩
theorem uI (s:ByteArray) (w:World) (hs:s.size<=12) (h1:1<=s.size) (a:Nat) (e0:∀ h,(s[0]'h).toNat=a) (ha:a=63) (b:Bool) (hr:Calls Tryz.prog 82 #[.string (s.extract 1 s.size)] w fun e w'=>e=.returned (.bool b)/\w=w'):Calls Tryz.prog 82 #[.string s] w fun e w'=>e=.returned (.bool b)/\w=w':=by
 subst ha;have HR:=hid hr;clear hr;have t0:s.toList.isEmpty=false:=gY h1;go_enter Tryz.func82,Tryz.ntmps82;go_wp2_with (go_at_call 82;refine HR.out.mono ?_;rintro e w1 ⟨rfl,rfl⟩)
 go_ret
 exact⟨rfl,rfl⟩
theorem uP (s:ByteArray) (w:World) (hs:12<s.size):Calls Tryz.prog 82 #[.string s] w fun e w'=>e=.returned (.bool false)/\w=w':=by
 go_enter Tryz.func82,Tryz.ntmps82;go_wp2;go_ret
 exact⟨rfl,rfl⟩
theorem oF (s:ByteArray) (w:World) (hs:s.size<=12) (t0:s.toList.isEmpty=true):Calls Tryz.prog 82 #[.string s] w fun e w'=>e=.returned (.bool false)/\w=w':=by
 go_enter Tryz.func82,Tryz.ntmps82;go_wp2;go_ret
 exact⟨rfl,rfl⟩
theorem bJ (s:ByteArray) (i j:Nat):(s.extract i j).data.toList=(s.data.toList.drop i).take (j-i):=by
 rw[ByteArray.data_extract,Array.toList_extract,List.extract_eq_take_drop]
def okB (l:List UInt8):Bool:=(Wf.aK l).isSome
theorem sK (n:Nat):∀ (s:ByteArray) (w:World),s.size<=n->Calls Tryz.prog 82 #[.string s] w fun e w'=>e=.returned (.bool (okB s.data.toList))/\w=w':=by
 induction n with
 | zero =>
  intro s w hn;have hl:=aD s;have h0:s.data.toList=[]:=List.eq_nil_of_length_eq_zero (by omega);have:=oF s w (by omega) (by rw[ByteArray.toList_eq,h0];rfl);rw[h0];exact this
 | succ n ih =>
  intro s w hn;have hl:=aD s;by_cases hs:s.size<=12
  ·cases hd:s.data.toList with
   | nil=>exact oF s w hs (by rw[ByteArray.toList_eq,hd];rfl)
   | cons c r =>
    have hlr:r.length+1=s.size:=(by rw[<-hl,hd];rfl);obtain⟨c',hc',e0⟩:=byte_at s 0 (by omega);have hcc:c'=c:=(by rw[hd] at hc';simpa using hc'.symm);subst hcc;have hpk:okB (c'::r)=(Wf.kindIn (c'::r)).isSome:=by
     unfold okB Wf.aK;rw[if_pos (by rw[List.length_cons];omega)]
    have hpr:okB r=(Wf.kindIn r).isSome:=by
     unfold okB Wf.aK;rw[if_pos (by omega)]
    have hx:(s.extract 1 s.size).data.toList=r:=by
     rw[bJ,hd,List.drop_one,List.tail_cons,List.take_of_length_le (by omega)]
    have hrec:=ih (s.extract 1 s.size) w (by rw[ByteArray.size_extract];omega);rw[hx,hpr] at hrec;rw[hpk];by_cases h1:c'=91
    ·subst h1
     have:=xD s w hs (by omega) _ e0 rfl _ hrec;simpa[Wf.kindIn] using this
    ·by_cases h2:c'=63
     ·subst h2
      have:=uI s w hs (by omega) _ e0 rfl _ hrec;simpa[Wf.kindIn] using this
     ·have hne:∀ x:UInt8,c'≠x->c'.toNat≠x.toNat:=fun x hx h=>hx (UInt8.toNat_inj.1 h)
      by_cases h3:c'=64
      ·subst h3
       obtain⟨z,hz,el⟩:=byte_at s (s.size-1) (by omega);rcases List.eq_nil_or_concat r with hr|⟨q,y,hr⟩
       ·subst hr
        have h1s:s.size=1:=(by rw[<-hlr];rfl);have hz':z=64:=(by rw[hd,h1s] at hz;simpa using hz.symm);subst hz';have:=sF s w hs (by omega) _ _ e0 rfl el (by decide);simpa[Wf.kindIn] using this
       ·have hq:r=q++[y]:=by rw[hr];simp
        subst hq;have hlq:q.length+2=s.size:=(by rw[<-hlr];simp);have hzy:z=y:=by
         rw[hd] at hz;rw[show s.size-1=(64::q).length by simp;omega,<-List.cons_append,List.getElem?_append_right (Nat.le_refl _)] at hz;simpa using hz.symm
        subst hzy;have hx2:(s.extract 1 (s.size-1)).data.toList=q:=by
         rw[bJ,hd,List.drop_one,List.tail_cons,show s.size-1-1=q.length by omega,List.take_left'];rfl
        by_cases h59:z=59
        ·subst h59
         have:=a1J s w hs (by omega) (by omega) _ _ e0 rfl el rfl;rw[hx2] at this;cases hn2:Wf.isName q <;> simpa[Wf.kindIn,hn2] using this
        ·have:=sF s w hs (by omega) _ _ e0 rfl el (fun h=>h59 (UInt8.toNat_inj.1 (by rw[h];rfl)))
         simpa[Wf.kindIn,h59] using this
      ·have:=uH s w hs (by omega) _ e0 (hne 64 h3) (hne 91 h1) (hne 63 h2)
       rw[ByteArray.toList_eq,hd] at this;have hb:(Wf.kindIn (c'::r)).isSome=((c'::r)==[110] || (c'::r)==[116] || (c'::r)==[102]):=by
        simp only[Wf.kindIn,if_neg h1,if_neg h2,if_neg h3];by_cases i1:c'=110/\r=[]
        ·obtain⟨rfl,rfl⟩:=i1;rfl
        ·rw[if_neg i1]
         by_cases i2:c'=116/\r=[]
         ·obtain⟨rfl,rfl⟩:=i2;rfl
         ·rw[if_neg i2]
          by_cases i3:c'=102/\r=[]
          ·obtain⟨rfl,rfl⟩:=i3;rfl
          ·rw[if_neg i3]
           have e1:((c'::r)==[110])=false:=(by rw[beq_eq_false_iff_ne];simpa using i1);have e2:((c'::r)==[116])=false:=(by rw[beq_eq_false_iff_ne];simpa using i2);have e3:((c'::r)==[102])=false:=(by rw[beq_eq_false_iff_ne];simpa using i3);rw[e1,e2,e3];rfl
       rw[hb];exact this
  ·have:okB s.data.toList=false:=by unfold okB Wf.aK;rw[if_neg (by omega)];rfl
   rw[this];exact uP s w (by omega)

theorem wM (s:ByteArray) (h1:1<=s.size) (h3:s.size<=3):(Lib.trimS s.data.toList gX).isEmpty=Wf.isName s.data.toList:=by
 have hl:=aD s;have h:=uN s.data.toList;unfold Wf.isName;rw[hl,decide_eq_true h1,decide_eq_true h3,Bool.true_and,Bool.true_and,Bool.eq_iff_iff,List.isEmpty_iff];exact h
theorem qB (s:ByteArray) (h:s.size<1\/3<s.size):false=Wf.isName s.data.toList:=by
 have hl:=aD s;unfold Wf.isName;rw[hl];rcases h with h|h
 ·rw[decide_eq_false (by omega),Bool.false_and,Bool.false_and]
 ·rw[decide_eq_false (p:=s.size<=3) (by omega),Bool.and_false,Bool.false_and]
theorem jK (s:ByteArray) (w:World) (hs:s.size<=1048576):Calls Tryz.prog 93 #[.string s] w fun e w'=>e=.returned (.bool (Wf.isName s.data.toList))/\Below w.heap.size w w':=by
 have HT:=hid (a6A s w (by omega));by_cases h1:1<=s.size
 ·by_cases h3:s.size<=3
  ·have HN:=hid (wM s h1 h3)
   go_enter Tryz.func93,Tryz.ntmps93;go_wp2_with (go_at_call 133;refine HT.out.mono ?_;rintro e w1 ⟨rfl,hb⟩)
   go_ret
   exact⟨aP HN.out,hb⟩
  ·have HN:=hid (qB s (by omega))
   go_enter Tryz.func93,Tryz.ntmps93;go_wp2;go_ret
   exact⟨aP HN.out,Below.refl _ _⟩
 ·have HN:=hid (qB s (by omega))
  go_enter Tryz.func93,Tryz.ntmps93;go_wp2;go_ret
  exact⟨aP HN.out,Below.refl _ _⟩
