/- Packed by pack3.py: PlainA Rd PlainI PlainJ PlainK PlainM Sy PlainY Hg Kw Dr. -/
import Derived.Test.YtidjpalnmnehmaaGreatDoorE43
import Derived.ProofKit
import Derived.OpenShut
import Derived.BigQuiet
import Derived.WalkSpells
set_option maxRecDepth 100000
set_option maxHeartbeats 40000000
set_option linter.unusedVariables false
set_option linter.unusedSimpArgs false
namespace Wf
def getN:Bs->Option (Nat × Bs)
 | []=>none
 | a::r=>if a.toNat<128 then some (a.toNat,r) else
  match r with
  | []=>none
  | b::r2=>if b.toNat<128 then (if b.toNat=0 then none else some (a.toNat % 128+b.toNat*128,r2)) else
   match r2 with
   | []=>none
   | c::r3=>if c.toNat<128 then
     (if c.toNat=0\/999999<a.toNat % 128+b.toNat % 128*128+c.toNat*16384 then none
      else some (a.toNat % 128+b.toNat % 128*128+c.toNat*16384,r3)) else none
theorem getN_putN (n:Nat) (h:n<=999999) (r:Bs):getN (putN n++r)=some (n,r):=by
 by_cases h1:n<128
 ·rw[putN_lt h1]
  have t1:=toNat_ofNat (show n<256 by omega)
  simp only[getN,List.cons_append,List.nil_append,t1,h1,if_true]
 ·rw[putN_ge (by omega)]
  have t1:=toNat_ofNat (show 128+n % 128<256 by omega)
  by_cases h2:n / 128<128
  ·rw[putN_lt h2]
   have t2:=toNat_ofNat (show n / 128<256 by omega)
   simp only[getN,List.cons_append,List.nil_append,t1,t2,h2,if_true]
   rw[if_neg (by omega),if_neg (by omega)]
   simp only[Option.some.injEq,Prod.mk.injEq,and_true];omega
  ·rw[putN_ge (by omega),putN_lt (by omega)]
   have t2:=toNat_ofNat (show 128+n / 128 % 128<256 by omega)
   have t3:=toNat_ofNat (show n / 128 / 128<256 by omega)
   simp only[getN,List.cons_append,List.nil_append,t1,t2,t3]
   rw[if_neg (by omega),if_neg (by omega),if_pos (by omega),if_neg (by omega)]
   simp only[Option.some.injEq,Prod.mk.injEq,and_true];omega
end Wf

namespace Go.Proofs.YtidjpalnmnehmaaGreatDoor
open Go.ChangeShapes Go.WideShapes Go.ChangeAt Go.RowKit
theorem pick_low (rb:Nat) (a:Option Addr) (len cap:Nat) (p n:Int) (w:World) (c0:w.cell? ⟨rb,0,none⟩=some (.slice a len cap)) (c1:w.cell? ⟨rb,1,none⟩=some (.int .i64 p)) (f1:w.frozen? ⟨rb,1,none⟩=false) (hp:0<=p) (hp2:p<=1000000) (hn:n<1):Calls Tryz.prog 62 #[.pointer (some ⟨rb,0,none⟩),.int .i64 n] w fun e w'=>e=.returned (.int .i64 0)/\w.setCell ⟨rb,1,none⟩ (.int .i64 (p+1))=w':=by
 go_enter Tryz.func62,Tryz.ntmps62
 go_wp2
 go_ret
 exact⟨rfl,rfl⟩
theorem pick_empty (rb:Nat) (a:Option Addr) (cap:Nat) (p n:Int) (w:World) (c0:w.cell? ⟨rb,0,none⟩=some (.slice a 0 cap)) (c1:w.cell? ⟨rb,1,none⟩=some (.int .i64 p)) (f1:w.frozen? ⟨rb,1,none⟩=false) (hp:0<=p) (hp2:p<=1000000) (hn:1<=n):Calls Tryz.prog 62 #[.pointer (some ⟨rb,0,none⟩),.int .i64 n] w fun e w'=>e=.returned (.int .i64 0)/\w.setCell ⟨rb,1,none⟩ (.int .i64 (p+1))=w':=by
 go_enter Tryz.func62,Tryz.ntmps62
 go_wp2
 go_ret
 exact⟨rfl,rfl⟩
theorem pick_in (rb b off:Nat) (len cap:Nat) (p n m:Int) (w:World) (c0:w.cell? ⟨rb,0,none⟩=some (.slice (some ⟨b,off,none⟩) len cap)) (c1:w.cell? ⟨rb,1,none⟩=some (.int .i64 p)) (f1:w.frozen? ⟨rb,1,none⟩=false) (hp:0<=p) (hp2:p<=1000000) (hn:1<=n)
  (hl:1<=len) (hl2:len<=2000) (hpl:p<len) (hb:b≠rb) (hm:0<=m) (hm2:m<256) (cb:w.cell? ⟨b,off+p.toNat,none⟩=some (.int .u8 m)):Calls Tryz.prog 62 #[.pointer (some ⟨rb,0,none⟩),.int .i64 n] w fun e w'=>e=.returned (.int .i64 (m % n))/\w.setCell ⟨rb,1,none⟩ (.int .i64 (p+1))=w':=by
 have e1:p+1-1=p:=by omega
 have t0:((len:Int)==0)=false:=by rw[beq_eq_false_iff_ne];omega
 have t1:(decide (n<1) || (len:Int)==0)=false:=by rw[t0,decide_eq_false (by omega)];rfl
 go_enter Tryz.func62,Tryz.ntmps62
 go_wp2
 go_ret
 exact⟨rfl,rfl⟩
theorem pick_mix (rb b off:Nat) (len cap:Nat) (p n m1 m2 q1 q2 q3:Int) (w:World) (c0:w.cell? ⟨rb,0,none⟩=some (.slice (some ⟨b,off,none⟩) len cap)) (c1:w.cell? ⟨rb,1,none⟩=some (.int .i64 p)) (f1:w.frozen? ⟨rb,1,none⟩=false) (hp:0<=p) (hp2:p<=1000000) (hn:1<=n) (hn2:n<=9223372036854775807)
  (hl:1<=len) (hl2:len<=2000) (hpl:¬ p<len) (hb:b≠rb) (hm:0<=m1) (hm2:m1<256) (hm3:0<=m2) (hm4:m2<256)
  (hq1:p.tmod len=q1) (hq2:(p*7+3).tmod len=q2) (hq3:p.tdiv len=q3) (r1:0<=q1) (r2:q1<len) (r3:0<=q2) (r4:q2<len) (r5:0<=q3) (r6:q3<=1000000)
  (cb1:w.cell? ⟨b,off+q1.toNat,none⟩=some (.int .u8 m1)) (cb2:w.cell? ⟨b,off+q2.toNat,none⟩=some (.int .u8 m2)):Calls Tryz.prog 62 #[.pointer (some ⟨rb,0,none⟩),.int .i64 n] w fun e w'=>e=.returned (.int .i64 ((bits .xor .i64 (m1*131+m2*1117+p*29+q3*53) ((m1*131+m2*1117+p*29+q3*53) / 64)).tmod n))/\∃ k,w'=(w.setCell ⟨rb,1,none⟩ (.int .i64 (p+1))).drewN k:=by
 have e1:p+1-1=p:=by omega
 have t0:((len:Int)==0)=false:=by rw[beq_eq_false_iff_ne];omega
 have t1:(decide (n<1) || (len:Int)==0)=false:=by rw[t0,decide_eq_false (by omega)];rfl
 have z0:¬ (len:Int)=0:=by omega
 have z1:¬ len=0:=by omega
 go_enter Tryz.func62,Tryz.ntmps62
 go_wp2
 go_quiet (fail)
 go_wp2
 go_ret
 exact⟨rfl,_,rfl⟩
theorem xor_nonneg (x:Int) (h0:0<=x) (h1:x<4611686018427387904):0<=bits .xor .i64 x (x / 64):=by
 obtain⟨a,rfl⟩:=Int.eq_ofNat_of_zero_le h0
 obtain⟨b,hb⟩:∃ b:Nat,((a:Int) / 64)=b:=⟨a / 64,by omega⟩
 rw[hb]
 have hx:a ^^^ b<2 ^ 62:=Nat.xor_lt_two_pow (by omega) (by omega)
 have h1':(BitVec.ofInt 64 (a:Int)).toNat=a:=by
  rw[BitVec.ofInt_natCast,BitVec.toNat_ofNat];exact Nat.mod_eq_of_lt (by omega)
 have h2':(BitVec.ofInt 64 (b:Int)).toNat=b:=by
  rw[BitVec.ofInt_natCast,BitVec.toNat_ofNat];exact Nat.mod_eq_of_lt (by omega)
 have:bits .xor .i64 (a:Int) (b:Int)=((a ^^^ b:Nat):Int):=by
  show IntKind.i64.wrap ((BitVec.ofInt 64 (a:Int) ^^^ BitVec.ofInt 64 (b:Int)).toNat:Int)=_
  rw[BitVec.toNat_xor,h1',h2',wrap_nat_i64 _ (by omega)]
 rw[this];omega
theorem pick (rb k:Nat) (n:Int) (w:World) (H:Rd w rb k) (hk:k<=1000000) (hn:n<=9223372036854775807) :
  Calls Tryz.prog 62 #[.pointer (some ⟨rb,0,none⟩),.int .i64 n] w fun e w'=>∃ v:Int,e=.returned (.int .i64 v)/\(1<=n->0<=v/\v<n)/\(n<1->v=0)/\Rd w' rb (k+1)/\Beside rb w w':=by
 obtain⟨a,len,cap,p,h1,h2,h3,h4,h5,h6,h7,h8⟩:=H
 have R:=Rd.step h1 h2 h3 h4 h5 h6 h7 h8
 have Bs:=Beside.set rb w 1 (.int .i64 (p+1))
 rcases Int.lt_or_le n 1 with hn1|hn1
 ·refine(pick_low rb a len cap p n w h2 h3 h4 h5 (by omega) hn1).mono ?_
  rintro e w' ⟨rfl,rfl⟩
  exact⟨0,rfl,fun h=>by omega,fun _=>rfl,R,Bs⟩
 ·by_cases hl:len=0
  ·subst hl
   refine(pick_empty rb a cap p n w h2 h3 h4 h5 (by omega) hn1).mono ?_
   rintro e w' ⟨rfl,rfl⟩
   exact⟨0,rfl,fun h=>by omega,fun h=>by omega,R,Bs⟩
  ·obtain⟨l1,l2,h0|⟨b,off,rfl,hb,hc⟩⟩:=h1
   ·exact absurd h0 hl
   ·by_cases hpl:p<len
    ·obtain⟨m,m1,m2,m3⟩:=hc p.toNat (by omega)
     refine(pick_in rb b off len cap p n m w h2 h3 h4 h5 (by omega) hn1 (by omega) h7 hpl (by omega) m1 m2 m3).mono ?_
     rintro e w' ⟨rfl,rfl⟩
     exact⟨_,rfl,fun h=>⟨Int.emod_nonneg _ (by omega),Int.emod_lt_of_pos _ (by omega)⟩,fun h=>by omega,R,Bs⟩
    ·have hlp:(0:Int)<len:=by omega
     have q1:p.tmod len=p % len:=Int.tmod_eq_emod_of_nonneg h5
     have q2:(p*7+3).tmod len=(p*7+3) % len:=Int.tmod_eq_emod_of_nonneg (by omega)
     have q3:p.tdiv len=p / len:=Int.tdiv_eq_ediv_of_nonneg h5
     have a1:=Int.emod_nonneg p (b:=len) (by omega)
     have a2:=Int.emod_lt_of_pos p hlp
     have a3:=Int.emod_nonneg (p*7+3) (b:=len) (by omega)
     have a4:=Int.emod_lt_of_pos (p*7+3) hlp
     have a5:0<=p / len:=Int.ediv_nonneg h5 (by omega)
     have a6:p / len<=p:=Int.ediv_le_self _ h5
     obtain⟨m,m1,m2,m3⟩:=hc (p % len).toNat (by omega)
     obtain⟨m',m1',m2',m3'⟩:=hc ((p*7+3) % len).toNat (by omega)
     refine(pick_mix rb b off len cap p n m m' (p % len) ((p*7+3) % len) (p / len) w h2 h3 h4 h5 (by omega) hn1 hn (by omega) h7 hpl (by omega) m1 m2 m1' m2' q1 q2 q3 a1 a2 a3 a4 a5 (by omega) m3 m3').mono ?_
     rintro e w' ⟨rfl,k1,rfl⟩
     exact⟨_,rfl,fun h=>⟨Int.tmod_nonneg _ (xor_nonneg _ (by omega) (by omega)),Int.tmod_lt_of_pos _ (by omega)⟩,fun h=>by omega,R.drewN _,Bs.drewN _⟩
theorem open_small (w:World) (a:Option Addr) (len cap:Nat) (hl:len<=2000):Calls Tryz.prog 25 #[.slice a len cap] w fun e w'=>e=.returned (.pointer (some ⟨w.heap.size,0,none⟩))/\w.alloc (.cells #[.slice a len cap,.int .i64 0] 92)=w':=by
 go_enter Tryz.func25,Tryz.ntmps25
 go_wp2
 go_ret
 exact⟨rfl,rfl⟩
theorem open_big (w:World) (b off:Nat) (len cap:Nat) (hl:2000<len) (hl2:len<=cap) (hc:cap<=maxLen):Calls Tryz.prog 25 #[.slice (some ⟨b,off,none⟩) len cap] w fun e w'=>e=.returned (.pointer (some ⟨w.heap.size,0,none⟩))/\w.alloc (.cells #[.slice (some ⟨b,off,none⟩) 2000 cap,.int .i64 0] 92)=w':=by
 go_enter Tryz.func25,Tryz.ntmps25
 go_wp2
 go_ret
 exact⟨rfl,rfl⟩
theorem bytes_of {w:World} {a:Option Addr} {len cap:Nat} {zs:List Int} (h:(a=none/\len=0/\cap=0/\zs=[]) \/
 ∃ x,a=some x/\len<=cap/\cap<=maxLen/\zs.length=cap/\(∀ i,i<zs.length->w.cell? (x.add i)=some (.int .u8 (zs.getD i 0)))/\∀ n∈zs,(Lit.int .u8 n).wf=true):Bytes w w.heap.size a len cap:=by
 rcases h with⟨rfl,rfl,rfl,_⟩|⟨x,rfl,h1,h2,h3,h4,h5⟩
 ·exact⟨Nat.le_refl _,by unfold maxLen;omega,.inl rfl⟩
 ·refine⟨h1,h2,?_⟩
  rcases Nat.eq_zero_or_pos len with h0|h0
  ·exact .inl h0
  ·have hx:=h4 0 (by omega)
   simp only[Addr.add,if_true] at hx
   obtain⟨b,off,spot⟩:=x
   have hb:b<w.heap.size:=by
    rcases Nat.lt_or_ge b w.heap.size with h|h
    ·exact h
    ·simp[World.cell?,Array.getElem?_eq_none h] at hx
   have hs:spot=none:=by
    simp only[World.cell?] at hx
    split at hx
    ·cases spot with
     | none=>rfl
     | some y=>simp at hx
    ·cases hx
   subst hs
   refine .inr ⟨b,off,rfl,hb,fun i hi=>?_⟩
   have hc:=h4 i (by omega)
   have ha:(Addr.add ⟨b,off,none⟩ i)=⟨b,off+i,none⟩:=by simp[Addr.add];try (intro h;omega)
   rw[ha] at hc
   have hw:=h5 (zs.getD i 0) (by rw[List.getD_eq_getElem?_getD,List.getElem?_eq_getElem (show i<zs.length by omega),Option.getD_some];exact List.getElem_mem _)
   simp only[Lit.wf,Bool.and_eq_true,decide_eq_true_eq] at hw
   have hmin:IntKind.u8.min=0:=rfl
   have hmax:IntKind.u8.max=255:=rfl
   rw[hmin,hmax] at hw
   exact⟨_,hw.1,by omega,hc⟩
theorem Rd.fresh {w:World} {a:Option Addr} {len cap len':Nat} (h:Bytes w w.heap.size a len cap) (hl:len'<=len) (hl2:len'<=2000):Rd (w.alloc (.cells #[.slice a len' cap,.int .i64 0] 92)) w.heap.size 0:=by
 obtain⟨h1,h2,h3⟩:=h
 have hb:Bytes w w.heap.size a len' cap:=by
  refine⟨by omega,h2,?_⟩
  rcases h3 with h3|⟨b,off,ha,hb,hc⟩
  ·exact .inl (by omega)
  ·exact .inr ⟨b,off,ha,hb,fun i hi=>hc i (by omega)⟩
 refine⟨a,len',cap,0,hb.keep fun b o v hbr hc=>?_,?_,?_,?_,Int.le_refl _,by simp,hl2,by simp⟩
 ·rw[World.cell?_alloc_lt w _ _ hbr];exact hc
 ·simp
 ·simp
 ·simp
theorem openRd (w:World) (a:Option Addr) (len cap:Nat) (h:Bytes w w.heap.size a len cap):Calls Tryz.prog 25 #[.slice a len cap] w fun e w'=>∃ rb,e=.returned (.pointer (some ⟨rb,0,none⟩))/\w.heap.size<=rb/\Rd w' rb 0/\Below w.heap.size w w':=by
 rcases Nat.lt_or_ge 2000 len with hl|hl
 ·have h':=h
  obtain⟨h1,h2,h3|⟨b,off,rfl,hb,hc⟩⟩:=h
  ·omega
  ·refine(open_big w b off len cap hl h1 h2).mono ?_
   rintro e w' ⟨rfl,rfl⟩
   exact⟨_,rfl,Nat.le_refl _,Rd.fresh h' (by omega) (Nat.le_refl _),Below.alloc (Below.refl _ _) (Nat.le_refl _) _⟩
 ·refine(open_small w a len cap hl).mono ?_
  rintro e w' ⟨rfl,rfl⟩
  exact⟨_,rfl,Nat.le_refl _,Rd.fresh h (Nat.le_refl _) hl,Below.alloc (Below.refl _ _) (Nat.le_refl _) _⟩
end Go.Proofs.YtidjpalnmnehmaaGreatDoor

namespace Wf
def getItems (p:Reads):Nat->Bs->Option (List V × Bs)
 | 0,s=>some ([],s)
 | m+1,s =>
  match p s with
  | none=>none
  | some (v,r)=>(getItems p m r).map fun y=>(v::y.1,y.2)
def takeN (s:Bs):Option (Bs × Bs) :=
 match getN s with
 | none=>none
 | some (n,r)=>if n<=r.length then some (r.take n,r.drop n) else none
def getFields (x:Sc) (t:Ty) (p:K->Reads):Nat->Nat->Bs->Option (List V × List Nat × Bs)
 | 0,_,_=>none
 | m+1,last,s =>
  match getN s with
  | none=>none
  | some (tag,rest) =>
   if tag=0 then some ([],[],rest) else
   match takeN rest with
   | none=>none
   | some (part,more) =>
    if tag<=last then none else
    match t.field tag with
    | none=>(getFields x t p m tag more).map fun y=>(y.1,tag::y.2.1,y.2.2)
    | some f =>
     match whole (p f.kind) part with
     | none=>none
     | some v=>(getFields x t p m tag more).map fun y=>(if v.print=standF x f then y.1 else .mk 61 [] tag [v]::y.1,y.2.1,y.2.2)
def getTy (x:Sc) (p:K->Reads) (t:Ty) (s:Bs):Option (V × Bs) :=
 if t.sort=69 then
  match getN s with
  | none=>none
  | some (tag,rest)=>if (t.field tag).isSome then some (.mk 69 [] tag [],rest) else none
 else if t.sort=85 then
  match getN s with
  | none=>none
  | some (tag,rest) =>
   match t.field tag with
   | none=>none
   | some f =>
    match takeN rest with
    | none=>none
    | some (part,more)=>(whole (p f.kind) part).map fun v=>(.mk 85 [] tag [v],more)
 else (getFields x t p s.length 0 s).map fun y=>(.mk 82 [] 0 y.1,y.2.2)
def getB (x:Sc):Nat->K->Reads
 | 0,_,_=>none
 | n+1,k,s =>
  match k with
  | .num=>(getN s).map fun y=>(.mk 110 (dec y.1) 0 [],y.2)
  | .txt =>
   match takeN s with
   | none=>none
   | some (b,r)=>if b.all isTxt=true/\b.length<=12 then some (.mk 116 b 0 [],r) else none
  | .flag =>
   match s with
   | 0::r=>some (.mk 102 [110,111] 0 [],r)
   | 1::r=>some (.mk 102 [121,101,115] 0 [],r)
   | _=>none
  | .list k' =>
   match getN s with
   | none=>none
   | some (m,r)=>if m<=20 then (getItems (getB x n k') m r).map fun y=>(.mk 91 [] 0 y.1,y.2) else none
  | .opt k' =>
   match s with
   | 0::r=>some (.mk 63 [] 0 [],r)
   | 1::r=>(getB x n k' r).map fun y=>(.mk 63 [] 0 [y.1],y.2)
   | _=>none
  | .ref nm =>
   match x.find nm with
   | none=>none
   | some t=>getTy x (fun k' s'=>getB x n k' s') t s
theorem takeN_put {b r:Bs} (h:b.length<=999999):takeN (putN b.length++(b++r))=some (b,r):=by
 unfold takeN
 rw[getN_putN _ h]
 simp
end Wf

namespace Wf
theorem getItems_read {p:Reads} {Q:V->Prop} (hp:∀ v r,Q v->p (v.bytes++r)=some (v,r)) :
  ∀ (l:List V) (r:Bs),(∀ u,u∈l->Q u)->getItems p l.length ((l.map V.bytes).flatten++r)=some (l,r):=by
 intro l
 induction l with
 | nil=>intro r _;simp[getItems]
 | cons v l ih =>
  intro r hu
  simp only[List.map_cons,List.flatten_cons,List.append_assoc,List.length_cons,getItems]
  rw[hp v _ (hu v (by simp))]
  simp only
  rw[ih r (fun u hx=>hu u (by simp[hx]))]
  rfl
theorem whole_read {p:Reads} {v:V} (h:p v.bytes=some (v,[])):whole p v.bytes=some v:=by
 unfold whole;rw[h];simp
theorem getN_zero (r:Bs):getN (0::r)=some (0,r):=by simp[getN]
theorem getFields_read {x:Sc} {t:Ty} {p:K->Reads} {Q:Fd->V->Prop} (hp:∀ f v,Q f v->p f.kind v.bytes=some (v,[])) :
  ∀ (es:List (Fd × V)) (m last:Nat) (r:Bs),(last::es.map (fun e=>e.1.tag)).Pairwise (· < ·) ->
   (∀ e,e∈es->t.field e.1.tag=some e.1/\e.1.tag<=200/\e.2.bytes.length<=999999/\Q e.1 e.2/\e.2.print≠standF x e.1)->es.length<m ->
   getFields x t p m last (((es.map tagged).map V.bytes).flatten++0::r)=some (es.map tagged,[],r):=by
 intro es
 induction es with
 | nil =>
  intro m last r _ _ hm
  cases m with
  | zero=>simp at hm
  | succ m=>simp[getFields,getN_zero]
 | cons e es ih =>
  intro m last r hpw he hm
  cases m with
  | zero=>simp at hm
  | succ m =>
   obtain⟨f,v⟩:=e
   obtain⟨a1,a2,a3,a4,a5⟩:=he (f,v) (by simp)
   simp only at a1 a2 a3 a4 a5
   simp only[List.map_cons] at hpw
   obtain⟨b1,b2⟩:=List.pairwise_cons.1 hpw
   have hlt:last<f.tag:=b1 f.tag (by simp)
   have et:(tagged (f,v)).bytes=putN f.tag++(putN v.bytes.length++v.bytes):=bytes_tag _ _
   simp only[List.map_cons,List.flatten_cons,et,List.append_assoc,getFields]
   rw[getN_putN _ (by omega)]
   simp only
   rw[if_neg (by omega),takeN_put a3]
   simp only
   rw[if_neg (by omega),a1]
   simp only
   rw[whole_read (hp f v a4)]
   simp only
   rw[ih m f.tag r b2 (fun e hx=>he e (by simp[hx])) (by simp at hm;omega)]
   simp only[Option.map_some,if_neg a5]
   rfl
theorem getB_bytes {x:Sc}:∀ (n:Nat) (k:K) (v:V) (r:Bs),Typed x n k v->v.print.length<16384->getB x n k (v.bytes++r)=some (v,r):=by
 intro n
 induction n with
 | zero=>intro k v r h;simp[Typed] at h
 | succ n ih =>
  intro k v r h hs
  have hlen:=bytes_len (n+1) k v h hs
  cases k with
  | num =>
   obtain⟨m,hm,rfl⟩:=h
   simp only[getB,bytes_num]
   rw[getN_putN _ hm];rfl
  | txt =>
   obtain⟨b,hb,hl,rfl⟩:=h
   simp only[getB,bytes_txt,List.append_assoc]
   rw[takeN_put (by omega)]
   simp[hb,hl]
  | flag =>
   rcases h with rfl|rfl
   ·simp[getB,bytes_yes]
   ·simp[getB,bytes_no]
  | list k =>
   obtain⟨l,hl,hu,rfl⟩:=h
   rw[print_list] at hs
   simp only[getB,bytes_list,List.append_assoc]
   rw[getN_putN _ (by omega)]
   simp only[hl,if_true]
   rw[getItems_read (Q:=fun u=>Typed x n k u/\u.print.length<16384) (fun v r hv=>ih k v r hv.1 hv.2) l r (fun u hx=>⟨hu u hx,by
    have:=commas_mem (l:=l.map V.print) (List.mem_map.2 ⟨u,hx,rfl⟩)
    simp only[List.length_cons,List.length_append] at hs;omega⟩)]
   rfl
  | opt k =>
   rcases h with rfl|⟨u,hu,rfl⟩
   ·simp[getB,bytes_none]
   ·rw[print_some] at hs
    simp only[getB,bytes_some,List.cons_append]
    rw[ih k u r hu (by simp at hs;omega)];rfl
  | ref nm =>
   obtain⟨t,ht,h⟩:=h
   simp only[getB,ht,getTy]
   rcases h with⟨h1,f,hf,h2,rfl⟩|⟨h1,h2,f,u,hf,h3,hu,rfl⟩|⟨h1,h2,l,hpw,hl,rfl⟩
   ·rw[if_pos h1,bytes_enm,getN_putN _ (by omega)]
    simp[hf]
   ·rw[print_uni] at hs
    simp only[List.length_cons,List.length_append,List.length_nil] at hs
    have hb:=bytes_len n f.kind u hu (by omega)
    rw[if_neg h1,if_pos h2,bytes_uni]
    simp only[List.append_assoc]
    rw[getN_putN _ (by omega)]
    simp only[hf]
    rw[takeN_put (by omega)]
    simp only
    have:=ih f.kind u [] hu (by omega)
    rw[List.append_nil] at this
    rw[whole_read (p:=fun s'=>getB x n f.kind s') this]
    rfl
   ·rw[print_rec] at hs
    rw[if_neg h1,if_neg h2,bytes_rec]
    have hsz:∀ e,e∈l->e.2.print.length<16384:=by
     intro e he
     have hx:V.mk 61 [] e.1.tag [e.2]∈(l.map fun e=>V.mk 61 [] e.1.tag [e.2]):=List.mem_map.2 ⟨e,he,rfl⟩
     have:=commas_mem (l:=(l.map fun e=>V.mk 61 [] e.1.tag [e.2]).map V.print) (List.mem_map.2 ⟨_,hx,rfl⟩)
     rw[print_tag] at this
     simp only[List.length_cons,List.length_append] at hs this;omega
    have hq:=getFields_read (x:=x) (t:=t) (p:=fun k' s'=>getB x n k' s') (Q:=fun f v=>Typed x n f.kind v/\v.print.length<16384)
     (fun f v hv=>by have:=ih f.kind v [] hv.1 hv.2;rwa[List.append_nil] at this) l
     (((l.map tagged).map V.bytes).flatten++[0]++r).length 0 r
     (List.pairwise_cons.2 ⟨by
      intro a ha
      obtain⟨g,hg,rfl⟩:=List.mem_map.1 ha
      exact(hl g hg).1,hpw⟩)
     (fun e he=>by
      obtain⟨_,c2,c3,c4,c5⟩:=hl e he
      have:=bytes_len n _ _ c4 (hsz e he)
      have:=hsz e he
      exact⟨c2,c3,by omega,⟨c4,hsz e he⟩,c5⟩)
     (by
      have:∀ L:List V,(∀ u,u∈L->u.bytes≠[])->L.length<=(L.map V.bytes).flatten.length:=by
       intro L
       induction L with
       | nil=>simp
       | cons u L ihL =>
        intro hL
        have h1:=List.length_pos_iff.2 (hL u (by simp))
        have h2:=ihL (fun w hw=>hL w (by simp[hw]))
        simp only[List.map_cons,List.flatten_cons,List.length_append,List.length_cons];omega
      have h0:=this (l.map tagged) (by
       intro u hu
       obtain⟨e,he,rfl⟩:=List.mem_map.1 hu
       have et:(tagged e).bytes=putN e.1.tag++(putN e.2.bytes.length++e.2.bytes):=bytes_tag _ _
       rw[et]
       obtain⟨_,_,c3,_⟩:=hl e he
       have:=(putN_len e.1.tag (by omega)).1
       intro h0
       have:=congrArg List.length h0
       simp only[List.length_append,List.length_nil] at this;omega)
      simp only[List.length_map,List.length_append,List.length_cons] at h0 ⊢;omega)
    have ee:(fun e:Fd × V=>V.mk 61 [] e.1.tag [e.2])=tagged:=rfl
    rw[ee]
    simp only[List.append_assoc,List.cons_append,List.nil_append] at hq ⊢
    rw[hq];rfl
end Wf

namespace Wf
theorem typed_mono {x:Sc}:∀ (n:Nat) (k:K) (v:V),Typed x n k v->∀ m,n<=m->Typed x m k v:=by
 intro n
 induction n with
 | zero=>intro k v h;simp[Typed] at h
 | succ n ih =>
  intro k v h m hm
  cases m with
  | zero=>omega
  | succ m =>
   have hm':n<=m:=by omega
   cases k with
   | num=>exact h
   | txt=>exact h
   | flag=>exact h
   | list k =>
    obtain⟨l,hl,hu,rfl⟩:=h
    exact⟨l,hl,fun u hx=>ih k u (hu u hx) m hm',rfl⟩
   | opt k =>
    rcases h with rfl|⟨u,hu,rfl⟩
    ·exact .inl rfl
    ·exact .inr ⟨u,ih k u hu m hm',rfl⟩
   | ref nm =>
    obtain⟨t,ht,h⟩:=h
    refine⟨t,ht,?_⟩
    rcases h with h|⟨h1,h2,f,u,hf,h3,hu,rfl⟩|⟨h1,h2,l,hpw,hl,rfl⟩
    ·exact .inl h
    ·exact .inr (.inl ⟨h1,h2,f,u,hf,h3,ih f.kind u hu m hm',rfl⟩)
    ·refine .inr (.inr ⟨h1,h2,l,hpw,fun e he=>?_,rfl⟩)
     obtain⟨a,b,c,d,e5⟩:=hl e he
     exact⟨a,b,c,ih _ _ d m hm',e5⟩
end Wf

namespace Wf
abbrev Asc (es:List (Fd × V)):Prop:=(es.map (fun e=>e.1.tag)).Pairwise (· < ·)
theorem bytes_inj {x:Sc} {n m:Nat} {k:K} {u v:V} (hu:Typed x n k u) (hv:Typed x m k v) (su:u.print.length<16384) (sv:v.print.length<16384) (h:u.bytes=v.bytes):u=v:=by
 have h1:=getB_bytes _ _ _ [] (typed_mono _ _ _ hu (max n m) (Nat.le_max_left _ _)) su
 have h2:=getB_bytes _ _ _ [] (typed_mono _ _ _ hv (max n m) (Nat.le_max_right _ _)) sv
 rw[h,h2] at h1
 simp only[Option.some.injEq,Prod.mk.injEq,and_true] at h1
 exact h1.symm
end Wf

namespace Go.Proofs.YtidjpalnmnehmaaGreatDoor
open Go.ChangeShapes Go.WideShapes Go.ChangeAt Go.RowKit Go.Lib
theorem of_ok {l:List UInt8} {lo:Nat} {e:Ending} {w':World} (h:OfOut l lo e w'):∃ a n c,e=.returned (.tuple #[.slice a n c,.bool (okL l)]):=by
 unfold OfOut at h
 unfold okL
 cases hs:Wf.schemaOf l with
 | none=>rw[hs] at h;exact h
 | some x =>
  rw[hs] at h
  obtain⟨b,v,he,hsp⟩:=h
  obtain⟨a,c,rfl,_⟩:=hsp.slice
  exact⟨_,_,_,he⟩
theorem schemaOk_s (s:ByteArray) (w:World) (hs:s.size<=1048576):Calls Tryz.prog 63 #[.string s] w fun e w'=>e=.returned (.bool (okL s.data.toList))/\Below w.heap.size w w':=by
 have HOF:=hid fun wz=>l3Of s wz hs
 go_enter Tryz.func63,Tryz.ntmps63
 go_wp2_with (go_at_call 81;refine(HOF.out _).mono ?_;rintro e w2 ⟨ho,hb2⟩;obtain⟨a,n,c,rfl⟩:=of_ok ho;have HB2:=hid hb2;clear ho hb2)
 go_ret
 exact⟨rfl,HB2.out⟩
end Go.Proofs.YtidjpalnmnehmaaGreatDoor

namespace Wf
def RecOf (x:Sc) (t:Ty) (n:Nat) (es:List (Fd × V)):Prop :=
 Asc es/\∀ e,e∈es->0<e.1.tag/\t.field e.1.tag=some e.1/\e.1.tag<=200/\Typed x n e.1.kind e.2/\e.2.print≠standF x e.1
abbrev recV (es:List (Fd × V)):V:=.mk 82 [] 0 (es.map tagged)
theorem rec_typed {x:Sc} {n:Nat} {nm:Bs} {t:Ty} {es:List (Fd × V)} (h:RecOf x t n es) (ht:x.find nm=some t) (h82:t.sort=82):Typed x (n+1) (.ref nm) (recV es):=by
 simp only[Typed]
 exact⟨t,ht,.inr (.inr ⟨by rw[h82];decide,by rw[h82];decide,es,h.1,h.2,rfl⟩)⟩
end Wf

namespace Go.Proofs.YtidjpalnmnehmaaGreatDoor
open Go.ChangeShapes Go.WideShapes Go.ChangeAt Go.RowKit Go.Lib
theorem one_law (s K T U:ByteArray):vfV (bytesVal s.data.toList K.data.toList T.data.toList)=.tuple #[.string ⟨#[]⟩,.bool false]\/∃ A:ByteArray,vfV (bytesVal s.data.toList K.data.toList T.data.toList)=.tuple #[.string A,.bool true] /\
  (vfV (bytesVal s.data.toList K.data.toList U.data.toList)=.tuple #[.string ⟨#[]⟩,.bool false]\/∃ B:ByteArray,vfV (bytesVal s.data.toList K.data.toList U.data.toList)=.tuple #[.string B,.bool true]/\(A.toList==B.toList)=(T.toList==U.toList)):=by
 cases ha:bytesVal s.data.toList K.data.toList T.data.toList with
 | none=>exact .inl rfl
 | some a =>
  refine .inr ⟨⟨a.toArray⟩,rfl,?_⟩
  cases hb:bytesVal s.data.toList K.data.toList U.data.toList with
  | none=>exact .inl rfl
  | some b =>
   refine .inr ⟨⟨b.toArray⟩,rfl,?_⟩
   unfold bytesVal at ha hb
   cases hv:valOf s.data.toList K.data.toList T.data.toList with
   | none=>rw[hv] at ha;cases ha
   | some y =>
    cases hu:valOf s.data.toList K.data.toList U.data.toList with
    | none=>rw[hu] at hb;cases hb
    | some z =>
     rw[hv] at ha
     rw[hu] at hb
     simp only[Option.map_some,Option.some.injEq] at ha hb
     subst ha
     subst hb
     obtain⟨k1,v1⟩:=valOf_some hv
     obtain⟨k2,v2⟩:=valOf_some hu
     rw[k1] at k2
     have hyz:y.1=z.1:=by simpa using k2
     rw[← hyz] at v2
     obtain⟨t1,p1,l1⟩:=Wf.valIn_some v1
     obtain⟨t2,p2,l2⟩:=Wf.valIn_some v2
     rw[ByteArray.toList_eq,ByteArray.toList_eq,ByteArray.toList_eq,ByteArray.toList_eq,p1,p2]
     show(y.2.bytes==z.2.bytes)=(y.2.print==z.2.print)
     by_cases h:y.2=z.2
     ·rw[h,beq_self_eq_true,beq_self_eq_true]
     ·rw[beq_eq_false_iff_ne.2 fun e=>h (Wf.bytes_inj t1 t2 (by rw[← p1];omega) (by rw[← p2];omega) e),beq_eq_false_iff_ne.2 fun e=>h (by
       have h1:T.data.toList=U.data.toList:=by rw[p1,p2,e]
       rw[h1,v2] at v1
       exact(Option.some.inj v1).symm)]

theorem cell_pick (c:List Value) {w1 w2:World} {rb et:Nat} (hb:Beside rb (w1.alloc (.cells c.toArray et)) w2) (hr:rb<w1.heap.size) (v:Int) (h0:0<=v) (h1:v<c.length):∃ x∈c,w2.cell? ⟨w1.heap.size,v.toNat,none⟩=some x:=by
 refine⟨c[v.toNat]'(by omega),List.getElem_mem _,?_⟩
 refine hb.cell_some ?_ (by omega)
 simp[List.getElem?_eq_getElem (show v.toNat<c.length by omega)]
theorem cell_picks (m:Nat) (l:List (List UInt8)) {w1 w2:World} {rb et:Nat} (hb:Beside rb (w1.alloc (.cells (l.map tx).toArray et)) w2) (hr:rb<w1.heap.size) (v:Int) (h0:0<=v) (h1:v<l.length) (hl:(l.all fun n=>decide (n.length<=m))=true):∃ x:ByteArray,x.size<=m/\x.data.toList∈l/\w2.cell? ⟨w1.heap.size,v.toNat,none⟩=some (.string x):=by
 obtain⟨x,hx,hc⟩:=cell_pick _ hb hr v h0 (by simpa using h1)
 obtain⟨n,hn,rfl⟩:=List.mem_map.1 hx
 have:=List.all_eq_true.1 hl n hn
 exact⟨⟨n.toArray⟩,by simpa[tx_size] using this,hn,hc⟩
theorem l91Kind (rb k:Nat) (w:World) (H:Rd w rb k) (hk:k<=900000) :
  Calls Tryz.prog 64 #[.pointer (some ⟨rb,0,none⟩)] w fun e w'=>∃ s:ByteArray,e=.returned (.string s)/\s.size<=100/\Rd w' rb (k+7)/\Beside rb w w':=by
 have R0:=H.lt
 go_enter Tryz.func64,Tryz.ntmps64
 go_wp2_with (first|(go_at_call 62;refine(pick rb (k+1) 4 _ hR2 (by omega) (by omega)).mono ?_;rintro e w3 ⟨n,rfl,hn,_,hR3,hBs3⟩;obtain⟨hn0,hn1⟩:=hn (by omega);have B3:=Lib.hid (B2.out.trans hBs3);clear hBs3)|(go_at_call 62;refine(pick rb k 8 _ (H.alloc _) (by omega) (by omega)).mono ?_;rintro e w2 ⟨v,rfl,hv,_,hR2,hBs⟩;obtain⟨hv0,hv1⟩:=hv (by omega);obtain⟨x,hx0,hx1,hxc⟩:=cell_picks 3 [[110],[116],[102],[110],[116],[64,97,59],[64,98,59],[64,99,59]] hBs H.lt v hv0 hv1 (by decide);have B2:=Lib.hid (((Beside.refl rb w).alloc _).trans hBs);clear hBs))
 go_loopw [3,4] (fun v3 v4 wr=>∃ (t:ByteArray) (i:Int) (m:Nat),v3=.string t/\v4=.int .i64 i/\0<=i/\i<=3/\m+i.toNat<=5/\t.size<=10*m/\m<=5/\Rd wr rb (k+m)/\Hid (Beside rb w wr)) (fun _ v _=>(RowKit.intOf v).toNat)
 case atStart=>exact⟨x,n,2,rfl,rfl,hn0,by omega,by omega,by omega,by omega,hR3,B3⟩
 case round =>
  obtain⟨t,i,m,rfl,rfl,hi0,hi1,hm,ht,hm5,hR,hBB⟩:=hrel
  by_cases hi:1<i
  ·go_wp2_with (go_at_call 62;refine(pick rb (k+m) 3 _ (hR.alloc _) (by omega) (by omega)).mono ?_;rintro e w4 ⟨u,rfl,hu,_,hR4,hBs4⟩;obtain⟨hu0,hu1⟩:=hu (by omega);obtain⟨y,hy0,hy1,hyc⟩:=cell_picks 1 [[91],[63],[91]] hBs4 hR.lt u hu0 hu1 (by decide);have B4:=Lib.hid ((hBB.out.alloc _).trans hBs4);clear hBs4)
   go_roundw
   case rel=>exact⟨_,_,m+1,rfl,rfl,by omega,by omega,by omega,by simp[ByteArray.size_append];omega,by omega,hR4,B4⟩
   case measure=>simp[RowKit.intOf];omega
  ·go_wp2_with (first|(go_at_call 62;refine(pick rb (k+m+1) 8 _ (hR5.alloc _) (by omega) (by omega)).mono ?_;rintro e w6 ⟨v6,rfl,hv6,_,hR6,hBs6⟩;obtain⟨hv60,hv61⟩:=hv6 (by omega);obtain⟨z,hz0,hz1,hzc⟩:=cell_picks 20 [[],[120],[64,59],[64,65,59],[91],[63,63,63,63,63,63,63,63,63,63,63,63,63,63,110],[64,97],[110,110]] hBs6 hR5.lt v6 hv60 hv61 (by decide);have B6:=Lib.hid ((B5.out.alloc _).trans hBs6);clear hBs6)|(go_at_call 62;refine(pick rb (k+m) 30 _ hR (by omega) (by omega)).mono ?_;rintro e w5 ⟨v5,rfl,hv5,_,hR5,hBs5⟩;have B5:=Lib.hid (hBB.out.trans hBs5);clear hBs5 hv5))
   all_goals go_ret
   ·exact⟨z,rfl,by omega,hR6.mono (by omega),B6.out⟩
   ·exact⟨t,rfl,by omega,hR5.mono (by omega),B5.out⟩

def Drew (n:Nat) (rb k:Nat) (w:World) (e:Ending) (w':World):Prop:=∃ s:ByteArray,e=.returned (.string s)/\s.size<=n/\Rd w' rb k/\Beside rb w w'
theorem l91Field (rb k:Nat) (T NM:ByteArray) (g:Nat) (hg:g<=999999) (hn:NM.size<=10) (w:World) (H:Rd w rb k) (hk:k<=900000) :
  Calls Tryz.prog 102 #[.pointer (some ⟨rb,0,none⟩),.string T,.int .i64 g,.string NM] w fun e w'=>Drew 130 rb (k+9) w e w':=by
 have R0:=H.lt
 have HD:=hid fun wz=>l6Dec g g wz (Nat.le_refl _) (by omega)
 have ld:=Wf.dec_len6 hg
 obtain⟨D,hD⟩:∃ D:ByteArray,(⟨(Wf.dec g).toArray⟩:ByteArray)=D:=⟨_,rfl⟩
 simp only[tx,hD] at HD
 have hds:D.size<=6:=by rw[← hD,tx_size];exact ld
 have HH:=hid H
 clear hD ld H
 go_enter Tryz.func102,Tryz.ntmps102
 go_wp2_with (first|(go_at_call 62;have _u:=hR4;have _t:(K.toList==[110])=true:=(by assumption);refine(pick rb (k+8) 8 _ (hR4.alloc _) (by omega) (by omega)).mono ?_;rintro e w5 ⟨u,rfl,hu,_,hR5,hBs5⟩;obtain⟨hu0,hu1⟩:=hu (by omega);obtain⟨x,hx0,hx1,hxc⟩:=cell_picks 6 [[53],[55,55],[57,57,57,57,57,57],[48]] hBs5 hR4.lt (u / 2 % 4) (by omega) (by simp;omega) (by decide);have B5:=Lib.hid ((B4.out.alloc _).trans hBs5);clear hBs5)|(go_at_call 62;have _u:=hR4;have _t:(K.toList==[116])=true:=(by assumption);refine(pick rb (k+8) 7 _ (hR4.alloc _) (by omega) (by omega)).mono ?_;rintro e w5 ⟨u,rfl,hu,_,hR5,hBs5⟩;obtain⟨hu0,hu1⟩:=hu (by omega);obtain⟨x,hx0,hx1,hxc⟩:=cell_picks 3 [[104,105],[97,32,98],[]] hBs5 hR4.lt (u / 3) (by omega) (by simp;omega) (by decide);have B5:=Lib.hid ((B4.out.alloc _).trans hBs5);clear hBs5)|(go_at_call 62;have _u:=hR4;have _t:(K.toList==[102])=true:=(by assumption);refine(pick rb (k+8) 7 _ (hR4.alloc _) (by omega) (by omega)).mono ?_;rintro e w5 ⟨u,rfl,hu,_,hR5,hBs5⟩;obtain⟨hu0,hu1⟩:=hu (by omega);obtain⟨x,hx0,hx1,hxc⟩:=cell_picks 3 [[121,101,115],[121,101,115],[110,111]] hBs5 hR4.lt (u / 3) (by omega) (by simp;omega) (by decide);have B5:=Lib.hid ((B4.out.alloc _).trans hBs5);clear hBs5)|(go_at_call 62;refine(pick rb (k+7) 3 _ R3.out (by omega) (by omega)).mono ?_;rintro e w4 ⟨v,rfl,hv,_,hR4,hBs⟩;obtain⟨hv0,hv1⟩:=hv (by omega);have B4:=Lib.hid (B3.out.trans hBs);clear hBs)|(go_at_call 64;refine(l91Kind rb k _ R1.out (by omega)).mono ?_;rintro e w3 ⟨K,rfl,hK,hR3,hBs3⟩;have B3:=Lib.hid (B1.out.trans hBs3);have R3:=Lib.hid hR3;clear hBs3 hR3)|(go_at_call 89;refine(HD.out _).mono ?_;rintro e w1 ⟨rfl,hb1⟩;have R1:=Lib.hid (HH.out.below hb1 R0);have B1:=Lib.hid (Beside.of_below (rb:=rb) hb1 (Nat.le_refl _));clear hb1))
 all_goals go_ret
 all_goals have c58:(⟨#[58]⟩:ByteArray).size=1:=rfl
 all_goals have c61:(⟨#[61]⟩:ByteArray).size=1:=rfl
 all_goals have c62:(⟨#[61,39]⟩:ByteArray).size=2:=rfl
 all_goals have c39:(⟨#[39]⟩:ByteArray).size=1:=rfl
 all_goals first|exact⟨_,rfl,by simp[ByteArray.size_append];omega,hR5.mono (by omega),B5.out⟩|exact⟨_,rfl,by simp[ByteArray.size_append];omega,hR4.mono (by omega),B4.out⟩|exact⟨_,rfl,by simp[ByteArray.size_append];omega,R3.out.mono (by omega),B3.out⟩|exact⟨_,rfl,by simp[ByteArray.size_append];omega,R1.out.mono (by omega),B1.out⟩
theorem l91FieldI (rb k:Nat) (T NM:ByteArray) (g:Int) (hg0:0<=g) (hg:g<=999999) (hn:NM.size<=10) (w:World) (H:Rd w rb k) (hk:k<=900000) :
  Calls Tryz.prog 102 #[.pointer (some ⟨rb,0,none⟩),.string T,.int .i64 g,.string NM] w fun e w'=>Drew 130 rb (k+9) w e w':=by
 obtain⟨n,rfl⟩:=Int.eq_ofNat_of_zero_le hg0
 exact l91Field rb k T NM n (by omega) hn w H hk
theorem l91Type (rb k:Nat) (T NM:ByteArray) (hT:T.size<=1) (hT1:1<=T.size) (hn:NM.size<=1) (w:World) (H:Rd w rb k) (hk:k<=800000) :
  Calls Tryz.prog 61 #[.pointer (some ⟨rb,0,none⟩),.string T,.string NM] w fun e w'=>∃ s:ByteArray,e=.returned (.string s)/\1<=s.size/\s.size<=600/\Rd w' rb (k+50)/\Beside rb w w':=by
 have R0:=H.lt
 have HH:=hid H
 have kc1:=fun W a c (q:Int) h=>run_convert_one (P:=Tryz.prog) 22 9 5 Tryz.underlying22 Tryz.underlying5 Tryz.underlying9 W a c q h
 have c61:(⟨#[61]⟩:ByteArray).size=1:=rfl
 have c44:(⟨#[44]⟩:ByteArray).size=1:=rfl
 have c10:(⟨#[10]⟩:ByteArray).size=1:=rfl
 clear H
 go_enter Tryz.func61,Tryz.ntmps61
 go_wp2_with (first|(go_at_call 62;have _u:=hR1;refine(pick rb (k+1) 8 _ hR1 (by omega) (by omega)).mono ?_;rintro e w2 ⟨v2,rfl,hv2,_,hR2,hBs2⟩;have B2:=Lib.hid (B1.out.trans hBs2);clear hBs2 hv2;rcases(Bool.eq_false_or_eq_true (v2==(0:Int))) with hq|hq)|(go_at_call 62;refine(pick rb k 4 _ HH.out (by omega) (by omega)).mono ?_;rintro e w1 ⟨v1,rfl,hv1,_,hR1,hBs⟩;obtain⟨hv10,hv11⟩:=hv1 (by omega);have B1:=Lib.hid hBs;clear hBs))
 all_goals
  go_loopw [7,8,10] (fun s tg iv wr=>∃ (S:ByteArray) (t:Int) (i:Nat),s=.string S/\tg=.int .i64 t/\iv=.int .i64 i/\i<=4/\0<=t/\t<=3*i/\S.size<=3+140*i/\1<=S.size/\Rd wr rb (k+2+11*i)/\Hid (Beside rb w wr)) (fun _ _ v _=>4-(RowKit.intOf v).toNat)
  case atStart=>exact⟨_,_,0,rfl,rfl,rfl,by omega,by omega,by omega,by simp[ByteArray.size_append];omega,by simp[ByteArray.size_append];omega,by first|exact hR2|exact hR1.mono (by omega),by first|exact B2|exact B1⟩
  case round =>
   obtain⟨S,t,i,rfl,rfl,rfl,hi4,ht0,ht1,hS,hS1,hR,hB⟩:=hrel
   go_wp2_with (first|(go_at_call 102;have _u:=hR7;refine(l91FieldI rb (k+2+11*i+2) T ⟨#[112+UInt8.ofNat i]⟩ _ (by omega) (by omega) (show(1:Nat)<=10 by omega) _ (hR7.alloc _) (by omega)).mono ?_;rintro e w8 ⟨F,rfl,hF,hR8,hBs8⟩;have B8:=Lib.hid ((B7.out.alloc _).trans hBs8);clear hBs8)|(go_at_call 62;have _u:=hR6;refine(pick rb (k+2+11*i+1) 2 _ hR6 (by omega) (by omega)).mono ?_;rintro e w7 ⟨v7,rfl,hv7,_,hR7,hBs7⟩;obtain⟨hv70,hv71⟩:=hv7 (by omega);have B7:=Lib.hid (B6.out.trans hBs7);clear hBs7;rcases(show v7=0\/v7=1 by omega) with rfl|rfl)|(go_at_call 62;refine(pick rb (k+2+11*i) 3 _ hR (by omega) (by omega)).mono ?_;rintro e w6 ⟨v6,rfl,hv6,_,hR6,hBs6⟩;obtain⟨hv60,hv61⟩:=hv6 (by omega);have B6:=Lib.hid (hB.out.trans hBs6);clear hBs6))
   all_goals first|(go_roundw;(case rel=>exact⟨_,_,i+1,rfl,rfl,by go_num,by omega,by omega,by omega,by simp[ByteArray.size_append];omega,by simp[ByteArray.size_append];omega,hR8.mono (by omega),B8⟩);(case measure=>simp[RowKit.intOf];omega))|(go_ret;exact⟨_,rfl,by simp[ByteArray.size_append];omega,by simp[ByteArray.size_append];omega,hR.mono (by omega),hB.out⟩)
end Go.Proofs.YtidjpalnmnehmaaGreatDoor
