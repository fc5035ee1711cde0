/- Packed. -/
import Derived.Test.YtmdacedmjbiekaaGreatDoorA1
set_option maxRecDepth 99999
set_option maxHeartbeats 40000000
set_option linter.all false
namespace Go.Proofs.YtmdacedmjbiekaaGreatDoor
open Go.ChangeShapes Go.WideShapes Go.ChangeAt Go.RowKit Go.Lib
def aJ (w:World) (b:Nat) (v:Value) (xs:List Value):Prop :=
 ∃ a cap,v=.slice a xs.length cap/\xs.length<=cap/\cap<=maxLen/\(xs=[]\/∃ o,a=some ⟨b,o,none⟩/\b<w.heap.size/\∀ i (h:i<xs.length),w.cell? ⟨b,o+i,none⟩=some xs[i]/\w.frozen? ⟨b,o+i,none⟩=false)
theorem aJ.keep {w w':World} {b:Nat} {v:Value} {xs:List Value} (h:aJ w b v xs) (hs:w.heap.size<=w'.heap.size) (hk:b<w.heap.size->w'.heap[b]? = w.heap[b]?):aJ w' b v xs:=by
 obtain⟨a,cap,h1,h2,h3,h4⟩:=h;refine⟨a,cap,h1,h2,h3,?_⟩;rcases h4 with h4|⟨o,h5,h6,h7⟩
 ·exact .inl h4
 ·refine .inr ⟨o,h5,Nat.lt_of_lt_of_le h6 hs,fun i hi=>?_⟩
  have h8:=hk h6;exact⟨(World.cell?_of_block (w:=w) (a:=⟨b,o+i,none⟩) h8).trans (h7 i hi).1,(World.frozen?_of_block (w:=w) (a:=⟨b,o+i,none⟩) h8).trans (h7 i hi).2⟩
theorem aJ.below {w w':World} {b B:Nat} {v:Value} {xs:List Value} (h:aJ w b v xs) (hb:Below B w w') (hB:b<w.heap.size->b<B):aJ w' b v xs:=h.keep hb.size fun hx=>hb.block b (hB hx)
theorem aJ.bJ {w:World} {base:Nat} {e:TypeId} {v:Value} {xs:List Value} (h:w.ownsRow base e 1 v xs.length xs):∃ b,base<=b/\aJ w b v xs:=by
 obtain⟨h1,h2|⟨g,cap,cur,h3,h4,h5,h6,h7,h8,h9⟩⟩:=h
 ·refine⟨base,Nat.le_refl _,none,0,?_,by omega,by unfold maxLen;omega,.inl (List.eq_nil_of_length_eq_zero h2.2)⟩
  rw[h2.1,h2.2]
 ·refine⟨g,h4,_,cap,h3,h6,h7,.inr ⟨0,rfl,(Array.getElem?_eq_some_iff.1 h5).1,fun i hi=>?_⟩⟩
  have hx:(cur.toList.take (xs.length*1))[i]? = xs[i]?:=by rw[h9]
  rw[List.getElem?_take,if_pos (by omega),List.getElem?_eq_getElem hi] at hx;have hx2:cur[i]? = some xs[i]:=by simpa using hx
  simp[World.cell?,World.frozen?,h5,hx2]
theorem nN {P:Program} (w:World) {ops:Array Oper} {rest:List Oper} {o:Oper} {a:Act} {Q:Exit->Act->World->Prop} (hgd:o.guard=none) (s x:Operand) (t:TypeId)
  (ho:o.op=.call { callee:=.builtin .append,args:=#[s,x],argTypes:=#[t,t] })
  (base:Nat) (e:TypeId) (z:Value) (bytes:Nat) (ht:P.underlying t=some (.slice e)) (hi:(P.info? e).map (fun i=>(i.zero,i.size,i.bytes))=some (some z,1,bytes)) (hz1:z.cells.size=1)
  (v:Value) (xs:List Value) (hs:a.eval s=v) (hown:w.ownsRow base e 1 v xs.length xs)
  (ad:Addr) (u:Value) (hx:a.eval x=.slice (some ad) 1 1) (hc:w.cell? ad=some u) (hu:u.oneCell'=true)
  (hn:(xs.length+1)*bytes<=140737488355328) (hn1:xs.length+1<=140737488355328) (hbase:base<=w.heap.size)
  (h:∀ v' w',w'.ownsRow base e 1 v' (xs++[u]).length (xs++[u])->Below base w w'->wpList P ops Q rest (a.put o.dst v') w'):wpList P ops Q (o::rest) a w:=by
 obtain⟨i0,hi0,hz0,hz2,hz3⟩:=info_parts hi;refine wpList_append_one w hgd s x t ho base e i0 z 1 bytes ht hi0 hz0 hz2 hz3 hz1 (by decide) v xs.length _ hs hown ad [u] hx rfl ?_ ?_ hn hn1 hbase ?_
 ·intro j u' hj
  match j,hj with
  | 0,hj=>simp at hj;subst hj;simpa[Addr.add] using hc
 ·intro u' hu';simp at hu';subst hu';exact hu
 ·intro v' w' g1 g2
  refine h v' w' ?_ g2;have e1:(xs++[u]).length=xs.length+1:=by simp
  rw[e1];exact g1
def digs (n:Nat):List UInt8:=if n=0 then [] else digs (n / 10)++[UInt8.ofNat (48+n % 10)]
termination_by n
decreasing_by omega
def mk (n:Nat):List UInt8:=109::digs n
end Go.Proofs.YtmdacedmjbiekaaGreatDoor

namespace Wf
def dec (n:Nat):Bs:=if n<10 then [UInt8.ofNat (48+n)] else dec (n / 10)++[UInt8.ofNat (48+n % 10)]
termination_by n
decreasing_by omega
def aB (c:UInt8):Bool:=decide (48<=c.toNat)&&decide (c.toNat<=57)
def val (s:Bs):Nat:=s.foldl (fun n c=>10*n+(c.toNat-48)) 0
def aF (s:Bs) (most:Nat):Option Nat :=
 if s≠[]/\s.length<=6/\s.all aB=true/\(s.head? = some 48->s.length=1)/\val s<=most then some (val s) else none
theorem u8 {n:Nat} (h:n<256):(UInt8.ofNat n).toNat=n:=by simp[UInt8.toNat_ofNat'];omega
theorem pI {P:Bs->Prop} (h0:P []) (h1:∀ s c,P s->P (s++[c])) (s:Bs):P s:=by
 have h:∀ t:Bs,P t.reverse:=by
  intro t;induction t with
  | nil=>exact h0
  | cons c t ih=>rw[List.reverse_cons];exact h1 _ _ ih
 have:=h s.reverse;rwa[List.reverse_reverse] at this
theorem nG {s t:Bs} (h:s≠[]):(s++t).head? = s.head?:=by cases s with|nil=>exact absurd rfl h|cons a s=>rfl
theorem dec_lt {n:Nat} (h:n<10):dec n=[UInt8.ofNat (48+n)]:=by rw[dec,if_pos h]
theorem eK {n:Nat} (h:10<=n):dec n=dec (n / 10)++[UInt8.ofNat (48+n % 10)]:=by rw[dec,if_neg (by omega)]
theorem lD {P:Nat->Prop} (h0:∀ n,n<10->P n) (h1:∀ n,10<=n->P (n / 10)->P n) (n:Nat):P n:=by
 induction n using Nat.strongRecOn with
 | ind n ih =>
  by_cases h:n<10
  ·exact h0 n h
  ·exact h1 n (by omega) (ih (n / 10) (by omega))
theorem rG {n:Nat} (h:n<10):aB (UInt8.ofNat (48+n))=true:=by
 have:=u8 (show 48+n<256 by omega);simp only[aB,this,Bool.and_eq_true,decide_eq_true_eq];omega
theorem kK (n:Nat):(dec n).all aB=true:=by
 induction n using lD with
 | h0 n h=>rw[dec_lt h];simp only[List.all_cons,List.all_nil,Bool.and_true];exact rG h
 | h1 n h ih =>
  rw[eK h,List.all_append,ih];simp only[List.all_cons,List.all_nil,Bool.and_true,Bool.true_and];exact rG (by omega)
theorem gI (n:Nat):dec n≠[]:=by
 by_cases h:n<10
 ·rw[dec_lt h];simp
 ·rw[eK (by omega)];simp
theorem kS (s:Bs) (c:UInt8):val (s++[c])=10*val s+(c.toNat-48):=by simp[val,List.foldl_append]
theorem gH (n:Nat):val (dec n)=n:=by
 induction n using lD with
 | h0 n h =>
  rw[dec_lt h];have:=u8 (show 48+n<256 by omega);simp only[val,List.foldl_cons,List.foldl_nil,this];omega
 | h1 n h ih =>
  rw[eK h,kS,ih,u8 (by omega)];omega
theorem a3R (n:Nat) (h:(dec n).head? = some 48):n=0:=by
 induction n using lD with
 | h0 n h' =>
  rw[dec_lt h'] at h;simp only[List.head?_cons,Option.some.injEq] at h;have:=congrArg UInt8.toNat h;rw[u8 (by omega)] at this;simp at this;exact this
 | h1 n h' ih =>
  rw[eK h'] at h;have hn:=gI (n / 10);rw[nG hn] at h;have:=ih h;omega
theorem eE (n k:Nat) (h:n<10 ^ (k+1)):(dec n).length<=k+1:=by
 induction k generalizing n with
 | zero=>rw[dec_lt (by simpa using h)];simp
 | succ k ih =>
  by_cases h1:n<10
  ·rw[dec_lt h1];simp
  ·rw[eK (by omega)]
   have:=ih (n / 10) (by have:(10:Nat) ^ (k+1+1)=10 ^ (k+1)*10:=rfl;omega);simp;omega
theorem cA {n:Nat} (h:n<=999999):(dec n).length<=6:=eE n 5 (by have:(10:Nat)^6=1000000:=rfl;omega)
theorem a3T (n k:Nat) (h:10 ^ k<=n):k+1<=(dec n).length:=by
 induction k generalizing n with
 | zero=>have:=List.length_pos_iff.2 (gI n);omega
 | succ k ih =>
  have e:(10:Nat) ^ (k+1)=10 ^ k*10:=rfl;have hp:0<(10:Nat)^k:=Nat.pow_pos (by omega);rw[eK (by omega)];have:=ih (n / 10) (by omega);simp;omega
theorem rZ {n most:Nat} (h:n<=most) (h6:n<=999999):aF (dec n) most=some n:=by
 rw[aF,if_pos,gH];refine⟨gI n,cA h6,kK n,fun h0=>?_,by rw[gH];exact h⟩;rw[a3R n h0,dec_lt (by omega)];rfl
theorem qX {s:Bs} (hs:s≠[]) (hd:s.all aB=true) (h0:s.head? = some 48->s.length=1):dec (val s)=s:=by
 induction s using pI with
 | h0=>exact absurd rfl hs
 | h1 s c ih =>
  simp only[List.all_append,List.all_cons,List.all_nil,Bool.and_true,Bool.and_eq_true,aB,decide_eq_true_eq] at hd;obtain⟨hd1,hc1,hc2⟩:=hd;have hcc:UInt8.ofNat (48+(c.toNat-48))=c:=by
   rw[show 48+(c.toNat-48)=c.toNat by omega];simp
  by_cases hn:s=[]
  ·subst hn
   simp only[List.nil_append,val,List.foldl_cons,List.foldl_nil];rw[dec_lt (by omega)];simp only[Nat.mul_zero,Nat.zero_add];rw[hcc]
  ·have h0':s.head? = some 48->s.length=1:=by
    intro hh;rw[nG hn] at h0;have:=h0 hh;simp at this;exact absurd this hn
   have ih':=ih hn hd1 h0';have hz:val s≠0:=by
    intro hz;rw[hz,dec_lt (by omega)] at ih';rw[nG hn,<-ih'] at h0;have:=h0 (by decide);simp at this
   rw[kS,eK (by omega)];rw[show(10*val s+(c.toNat-48)) / 10=val s by omega,show(10*val s+(c.toNat-48)) % 10=c.toNat-48 by omega,ih',hcc]
theorem dC {s:Bs} {most n:Nat} (h:aF s most=some n):s=dec n/\n<=most/\n<=999999:=by
 rw[aF] at h;split at h
 ·rename_i hx
  obtain⟨h1,h2,h3,h4,h5⟩:=hx;simp only[Option.some.injEq] at h;subst h;refine⟨(qX h1 h3 h4).symm,h5,?_⟩;have e:=qX h1 h3 h4;by_cases hb:val s<=999999
  ·exact hb
  ·have:=a3T (val s) 6 (by have:(10:Nat)^6=1000000:=rfl;omega)
   rw[e] at this;omega
 ·simp at h
end Wf

namespace Wf
structure Fd where
 tag:Nat
 name:Bs
 kind:K
 given:Bs
deriving Inhabited,DecidableEq
structure Ty where
 sort:UInt8
 name:Bs
 fields:List Fd
deriving Inhabited,DecidableEq
abbrev Sc:=List Ty
def Ty.field (t:Ty) (tag:Nat):Option Fd:=t.fields.find? (fun f=>f.tag==tag)
def Sc.find (x:Sc) (name:Bs):Option Ty:=List.find? (fun t=>t.name==name) x
def stands (x:Sc):Nat->K->Bs
 | _,.list _=>[91,93]
 | _,.opt _=>[45]
 | _,.num=>[48]
 | _,.txt=>[39,39]
 | _,.flag=>[110,111]
 | 0,.ref _=>[]
 | n+1,.ref nm =>
  match x.find nm with
  | none=>[]
  | some t =>
   if t.sort=82 then [123,125]
   else match t.fields with
    | []=>[]
    | f::_=>if t.sort=69 then 35::dec f.tag else 60::(dec f.tag++61::(stands x n f.kind++[62]))
def aH (x:Sc) (f:Fd):Bs:=if f.given=[] then stands x 9 f.kind else f.given
inductive V where
 | mk (what:UInt8) (text:Bs) (tag:Nat) (kids:List V)
deriving Inhabited
def V.what:V->UInt8 | .mk a _ _ _=>a
def V.text:V->Bs | .mk _ b _ _=>b
def V.tag:V->Nat | .mk _ _ c _=>c
def V.kids:V->List V | .mk _ _ _ d=>d
theorem V.induct {P:V->Prop} (h:∀ a b c d,(∀ v,v∈d->P v)->P (.mk a b c d)) (v:V):P v :=
 V.rec (motive_1:=P) (motive_2:=fun l=>∀ v,v∈l->P v) (fun a b c d ih=>h a b c d ih) (by simp) (fun v l hv hl=>by
  intro u hu;rcases List.mem_cons.1 hu with rfl|hu
  ·exact hv
  ·exact hl u hu) v
def commas:List Bs->Bs
 | []=>[]
 | [a]=>a
 | a::b::l=>a++44::commas (b::l)
def form (what:UInt8) (text:Bs) (tag:Nat) (parts:List Bs):Bs :=
 if what=116 then 39::(text++[39])
 else if what=91 then 91::(commas parts++[93])
 else if what=63 then (if parts=[] then [45] else 43::commas parts)
 else if what=61 then dec tag++61::commas parts
 else if what=82 then 123::(commas parts++[125])
 else if what=85 then 60::(dec tag++61::(commas parts++[62]))
 else if what=69 then 35::dec tag
 else text
mutual
def V.print:V->Bs
 | .mk what text tag kids=>form what text tag (V.prints kids)
def V.prints:List V->List Bs
 | []=>[]
 | v::l=>v.print::V.prints l
end
mutual
def V.deep:V->Nat
 | .mk what _ _ kids=>if what=61 then V.aK kids else V.aK kids+1
def V.aK:List V->Nat
 | []=>0
 | v::l=>max v.deep (V.aK l)
end
theorem V.fS (l:List V):V.prints l=l.map V.print:=by
 induction l with
 | nil=>rfl
 | cons v l ih=>simp[V.prints,ih]
theorem V.eS {l:List V} {n:Nat}:V.aK l<=n↔∀ v,v∈l->v.deep<=n:=by
 induction l with
 | nil=>simp[V.aK]
 | cons v l ih=>simp[V.aK,Nat.max_le,ih]
def aG (c:UInt8):Bool:=(decide (97<=c.toNat)&&decide (c.toNat<=122)) || (decide (48<=c.toNat)&&decide (c.toNat<=57)) || c==32
def aQ (most:Nat) (s:Bs):Option (Nat × Bs) :=
 (aF (s.takeWhile aB) most).map fun n=>(n,s.dropWhile aB)
abbrev Reads:=Bs->Option (V × Bs)
def itemsW (p:Reads):Nat->Bs->Option (List V × Bs)
 | 0,_=>none
 | m+1,s =>
  match p s with
  | none=>none
  | some (v,rest) =>
   match rest with
   | 44::r=>(itemsW p m r).map fun x=>(v::x.1,x.2)
   | 93::r=>some ([v],r)
   | _=>none
def fieldTok (t:Ty) (p:K->Reads) (s:Bs):Option (Fd × V × Bs) :=
 match aQ 200 s with
 | none=>none
 | some (tag,rest) =>
  match rest,t.field tag with
  | 61::r,some f=>(p f.kind r).map fun y=>(f,y.1,y.2)
  | _,_=>none
def fieldsW (x:Sc) (t:Ty) (p:K->Reads):Nat->Nat->Bs->Option (List V × Bs)
 | 0,_,_=>none
 | m+1,last,s =>
  match fieldTok t p s with
  | none=>none
  | some (f,v,rest) =>
   if f.tag<=last\/v.print=aH x f then none else
   match rest with
   | 44::r=>(fieldsW x t p m f.tag r).map fun y=>(.mk 61 [] f.tag [v]::y.1,y.2)
   | 125::r=>some ([.mk 61 [] f.tag [v]],r)
   | _=>none
def closeU (g:Nat) (v:V) (s:Bs):Option (V × Bs) :=
 match s with
 | 62::q=>some (.mk 85 [] g [v],q)
 | _=>none
def parseTy (x:Sc) (p:K->Reads) (t:Ty) (s:Bs):Option (V × Bs) :=
 if t.sort=69 then
  match s with
  | 35::r =>
   match aQ 200 r with
   | none=>none
   | some (tag,rest)=>if (t.field tag).isSome then some (.mk 69 [] tag [],rest) else none
  | _=>none
 else if t.sort=85 then
  match s with
  | 60::r =>
   match fieldTok t p r with
   | some (f,v,rest)=>closeU f.tag v rest
   | none=>none
  | _=>none
 else
  match s with
  | 123::r =>
   match r with
   | 125::q=>some (.mk 82 [] 0 [],q)
   | _=>(fieldsW x t p r.length 0 r).map fun y=>(.mk 82 [] 0 y.1,y.2)
  | _=>none
def parse (x:Sc):Nat->K->Reads
 | 0,_,_=>none
 | n+1,k,s =>
  match k with
  | .num=>(aQ 999999 s).map fun y=>(.mk 110 (dec y.1) 0 [],y.2)
  | .txt =>
   match s with
   | 39::r =>
    match r.dropWhile aG with
    | 39::q=>if (r.takeWhile aG).length<=12 then some (.mk 116 (r.takeWhile aG) 0 [],q) else none
    | _=>none
   | _=>none
  | .flag =>
   match s with
   | 121::101::115::q=>some (.mk 102 [121,101,115] 0 [],q)
   | 110::111::q=>some (.mk 102 [110,111] 0 [],q)
   | _=>none
  | .list k' =>
   match s with
   | 91::r =>
    match r with
    | 93::q=>some (.mk 91 [] 0 [],q)
    | _=>match itemsW (parse x n k') r.length r with
     | none=>none
     | some (l,q)=>if l.length<=20 then some (.mk 91 [] 0 l,q) else none
   | _=>none
  | .opt k' =>
   match s with
   | 45::q=>some (.mk 63 [] 0 [],q)
   | 43::r=>(parse x n k' r).map fun y=>(.mk 63 [] 0 [y.1],y.2)
   | _=>none
  | .ref nm =>
   match x.find nm with
   | none=>none
   | some t=>parseTy x (fun k' s'=>parse x n k' s') t s
def Typed (x:Sc):Nat->K->V->Prop
 | 0,_,_=>False
 | n+1,k,v =>
  match k with
  | .num=>∃ m,m<=999999/\v=.mk 110 (dec m) 0 []
  | .txt=>∃ b:Bs,b.all aG=true/\b.length<=12/\v=.mk 116 b 0 []
  | .flag=>v=.mk 102 [121,101,115] 0 []\/v=.mk 102 [110,111] 0 []
  | .list k'=>∃ l:List V,l.length<=20/\(∀ u,u∈l->Typed x n k' u)/\v=.mk 91 [] 0 l
  | .opt k'=>v=.mk 63 [] 0 []\/∃ u,Typed x n k' u/\v=.mk 63 [] 0 [u]
  | .ref nm=>∃ t,x.find nm=some t /\
   ((t.sort=69/\∃ f,t.field f.tag=some f/\f.tag<=200/\v=.mk 69 [] f.tag []) \/
    (t.sort≠69/\t.sort=85/\∃ f u,t.field f.tag=some f/\f.tag<=200/\Typed x n f.kind u/\v=.mk 85 [] f.tag [u]) \/
    (t.sort≠69/\t.sort≠85/\∃ l:List (Fd × V),(l.map (fun e=>e.1.tag)).Pairwise (· < ·) /\
     (∀ e,e∈l->0<e.1.tag/\t.field e.1.tag=some e.1/\e.1.tag<=200/\Typed x n e.1.kind e.2/\e.2.print≠aH x e.1) /\
     v=.mk 82 [] 0 (l.map fun e=>.mk 61 [] e.1.tag [e.2])))
end Wf

namespace Wf
def cutAt (c:UInt8):Bs->List Bs
 | []=>[[]]
 | a::r =>
  if a=c then []::cutAt c r
  else match cutAt c r with
   | []=>[[a]]
   | p::ps=>(a::p)::ps
def cut1 (c:UInt8):Bs->Bs × Bs × Bool
 | []=>([],[],false)
 | a::r=>if a=c then ([],r,true) else (a::(cut1 c r).1,(cut1 c r).2.1,(cut1 c r).2.2)
theorem bX (c:UInt8) (s:Bs):cutAt c s≠[]:=by
 cases s with
 | nil=>simp[cutAt]
 | cons a r =>
  simp only[cutAt];split
  ·simp
  ·split <;> simp
theorem eF {c:UInt8} {s:Bs} (h:(cut1 c s).2.2=false):(cut1 c s).1=s/\(cut1 c s).2.1=[]/\c ∉ s/\cutAt c s=[s]:=by
 induction s with
 | nil=>simp[cut1,cutAt]
 | cons a r ih =>
  simp only[cut1] at h ⊢;by_cases ha:a=c
  ·simp[ha] at h
  ·simp only[if_neg ha] at h ⊢
   obtain⟨h1,h2,h3,h4⟩:=ih h;refine⟨by rw[h1],h2,?_,?_⟩
   ·simp only[List.mem_cons,not_or];exact⟨fun e=>ha e.symm,h3⟩
   ·simp only[cutAt,if_neg ha,h4]
theorem eJ {c:UInt8} {s:Bs} (h:(cut1 c s).2.2=true):s=(cut1 c s).1++c::(cut1 c s).2.1/\c ∉ (cut1 c s).1/\cutAt c s=(cut1 c s).1::cutAt c (cut1 c s).2.1:=by
 induction s with
 | nil=>simp[cut1] at h
 | cons a r ih =>
  simp only[cut1] at h ⊢;by_cases ha:a=c
  ·simp[ha,cutAt]
  ·simp only[if_neg ha] at h ⊢
   obtain⟨h1,h2,h3⟩:=ih h;refine⟨by rw[List.cons_append,<-h1],?_,?_⟩
   ·simp only[List.mem_cons,not_or];exact⟨fun e=>ha e.symm,h2⟩
   ·simp only[cutAt,if_neg ha,h3]
theorem kR {c:UInt8} {s:Bs} (h:c ∉ s):cutAt c s=[s]:=by
 cases hb:(cut1 c s).2.2 with
 | false=>exact(eF hb).2.2.2
 | true =>
  have:=(eJ hb).1;rw[this] at h;simp at h
theorem rY {c:UInt8} {a b:Bs} (h:c ∉ a):cutAt c (a++c::b)=a::cutAt c b:=by
 induction a with
 | nil=>simp[cutAt]
 | cons x a ih =>
  simp only[List.mem_cons,not_or] at h;simp only[List.cons_append,cutAt,if_neg (Ne.symm h.1),ih h.2]
theorem dO {c:UInt8}:∀ (s p:Bs),p∈cutAt c s->c ∉ p/\∀ a,a∈p->a∈s:=by
 intro s;induction s with
 | nil=>intro p h;simp[cutAt] at h;subst h;simp
 | cons a r ih =>
  intro p h;simp only[cutAt] at h;split at h
  ·rcases List.mem_cons.1 h with rfl|h
   ·simp
   ·obtain⟨h1,h2⟩:=ih p h
    exact⟨h1,fun b hb=>List.mem_cons_of_mem _ (h2 b hb)⟩
  ·rename_i ha
   cases hr:cutAt c r with
   | nil=>exact absurd hr (bX c r)
   | cons q qs =>
    rw[hr] at h ih;simp only at h;rcases List.mem_cons.1 h with rfl|h
    ·obtain⟨h1,h2⟩:=ih q (by simp)
     refine⟨by simp only[List.mem_cons,not_or];exact⟨Ne.symm ha,h1⟩,?_⟩;intro b hb;rcases List.mem_cons.1 hb with rfl|hb
     ·simp
     ·exact List.mem_cons_of_mem _ (h2 b hb)
    ·obtain⟨h1,h2⟩:=ih p (by simp[h])
     exact⟨h1,fun b hb=>List.mem_cons_of_mem _ (h2 b hb)⟩
def quoted (s:Bs):Bool:=decide (s.head? = some 39)&&decide (s.tail.getLast? = some 39)&&s.tail.dropLast.all aG&&decide (s.length<=14)
theorem eM {s:Bs}:quoted s=true↔∃ b:Bs,s=39::(b++[39])/\b.all aG=true/\b.length<=12:=by
 constructor
 ·intro h
  simp only[quoted,Bool.and_eq_true,decide_eq_true_eq] at h;obtain⟨⟨⟨h1,h2⟩,h3⟩,h4⟩:=h;cases s with
  | nil=>simp at h1
  | cons a r =>
   simp only[List.head?_cons,Option.some.injEq] at h1;subst h1;simp only[List.tail_cons] at h2 h3;have hr:r≠[]:=(by intro e;subst e;simp at h2);rw[List.getLast?_eq_some_getLast hr] at h2;simp only[Option.some.injEq] at h2;refine⟨r.dropLast,?_,h3,?_⟩
   ·rw[<-h2,List.dropLast_concat_getLast hr]
   ·simp only[List.length_cons,List.length_dropLast] at h4 ⊢;omega
 ·rintro⟨b,rfl,h1,h2⟩
  simp only[quoted,Bool.and_eq_true,decide_eq_true_eq];refine⟨⟨⟨rfl,by simp⟩,by simpa using h1⟩,by simp;omega⟩
def stOk (k:K) (s:Bs):Bool :=
 match k with
 | .num=>(match aF s 999999 with|some m=>decide (0<m)|none=>false)
 | .txt=>quoted s&&decide (s≠[39,39])
 | .flag=>decide (s=[121,101,115])
 | _=>false
def fdA (sort:UInt8) (s:Bs):Option Fd :=
 let h:=cut1 61 s
 match cutAt 58 h.1 with
 | [a,b] =>
  if sort≠69 then none else
  match aF a 200 with
  | none=>none
  | some tag=>if tag<1\/isName b=false\/h.2.2=true then none else some ⟨tag,b,.num,[]⟩
 | [a,b,d] =>
  if sort=69 then none else
  match aF a 200 with
  | none=>none
  | some tag =>
   if tag<1\/isName b=false then none else
   match aN d with
   | none=>none
   | some k=>if h.2.2=true/\(sort≠82\/stOk k h.2.1=false) then none else some ⟨tag,b,k,h.2.1⟩
 | _=>none
def fdB (sort:UInt8) (s:Bs):Option Fd :=
 match cutAt 58 s with
 | [a,b] =>
  if sort≠69 then none else
  match aF a 200 with
  | none=>none
  | some tag=>if tag<1\/isName b=false then none else some ⟨tag,b,.num,[]⟩
 | [a,b,d] =>
  if sort=69 then none else
  match aF a 200 with
  | none=>none
  | some tag =>
   if tag<1\/isName b=false then none else
   match cutAt 61 d with
   | [e]=>(aN e).map fun k=>⟨tag,b,k,[]⟩
   | [e,g] =>
    match aN e with
    | none=>none
    | some k=>if sort=82/\stOk k g=true then some ⟨tag,b,k,g⟩ else none
   | _=>none
 | _=>none
theorem oA {s:Bs} {m n:Nat} (h:aF s m=some n):∀ c,c∈s->aB c=true:=by
 rw[(dC h).1];exact List.all_eq_true.1 (kK n)
theorem lY {s:Bs} (h:isName s=true):∀ c,c∈s->bM c=true:=by
 simp only[isName,Bool.and_eq_true] at h;exact List.all_eq_true.1 h.2
theorem vQ {k:K} {s:Bs} (h:stOk k s=true):(58:UInt8) ∉ s/\(61:UInt8) ∉ s:=by
 cases k with
 | num =>
  simp only[stOk] at h;cases hp:aF s 999999 with
  | none=>rw[hp] at h;simp at h
  | some m =>
   have:=oA hp;exact⟨fun hc=>absurd (this _ hc) (by decide),fun hc=>absurd (this _ hc) (by decide)⟩
 | txt =>
  simp only[stOk,Bool.and_eq_true,decide_eq_true_eq] at h;obtain⟨b,rfl,hb,_⟩:=eM.1 h.1;have ht:=List.all_eq_true.1 hb;have key:∀ c:UInt8,c∈(39::(b++[39]):Bs)->c=39\/aG c=true:=by
   intro c hc;simp only[List.mem_cons,List.mem_append,List.mem_nil_iff,or_false] at hc;rcases hc with h|h|h
   ·exact .inl h
   ·exact .inr (ht c h)
   ·exact .inl h
  refine⟨fun hc=>?_,fun hc=>?_⟩
  ·rcases key _ hc with h|h
   ·revert h;decide
   ·revert h;decide
  ·rcases key _ hc with h|h
   ·revert h;decide
   ·revert h;decide
 | flag=>simp only[stOk,decide_eq_true_eq] at h;subst h;decide
 | ref n=>simp[stOk] at h
 | list k=>simp[stOk] at h
 | opt k=>simp[stOk] at h
def joinAt (c:UInt8):List Bs->Bs
 | []=>[]
 | [a]=>a
 | a::b::l=>a++c::joinAt c (b::l)
theorem mF (c:UInt8) (s:Bs):joinAt c (cutAt c s)=s:=by
 induction s with
 | nil=>rfl
 | cons a r ih =>
  simp only[cutAt];cases hr:cutAt c r with
  | nil=>exact absurd hr (bX c r)
  | cons p ps =>
   rw[hr] at ih;split
   ·rename_i h;simp only[joinAt,List.nil_append,ih,h]
   ·cases ps with
    | nil=>simp only[joinAt] at ih ⊢;rw[ih]
    | cons q qs=>simp only[joinAt,List.cons_append] at ih ⊢;rw[ih]
theorem a8W {c:UInt8} {t:Bs} (ht:c ∉ t):∀ x:Bs,∀ ps q,cutAt c x=ps++[q]->cutAt c (x++t)=ps++[q++t]:=by
 intro x;induction x with
 | nil =>
  intro ps q h;simp only[cutAt] at h;cases ps with
  | nil=>simp only[List.nil_append,List.cons.injEq,and_true] at h;subst h;simp[kR ht]
  | cons p ps=>simp at h
 | cons a r ih =>
  intro ps q h;simp only[cutAt,List.cons_append] at h ⊢;by_cases ha:a=c
  ·rw[if_pos ha] at h ⊢
   cases ps with
   | nil=>simp at h;exact absurd h.2 (bX c r)
   | cons p ps =>
    simp only[List.cons_append,List.cons.injEq] at h ⊢;exact⟨h.1,ih ps q h.2⟩
  ·rw[if_neg ha] at h ⊢
   cases hr:cutAt c r with
   | nil=>exact absurd hr (bX c r)
   | cons p0 ps0 =>
    rw[hr] at h ih;simp only at h;cases ps with
    | nil =>
     simp only[List.nil_append,List.cons.injEq] at h;obtain⟨rfl,rfl⟩:=h;rw[ih [] p0 rfl];rfl
    | cons p ps =>
     simp only[List.cons_append,List.cons.injEq] at h;rw[ih (p0::ps) q (by rw[h.2];rfl)];simp[h.1]
theorem yE {c:UInt8} {p q:Bs} (h:c ∉ p):cut1 c (p++q)=(p++(cut1 c q).1,(cut1 c q).2.1,(cut1 c q).2.2):=by
 induction p with
 | nil=>simp
 | cons a p ih =>
  simp only[List.mem_cons,not_or] at h;simp only[List.cons_append,cut1,if_neg (Ne.symm h.1),ih h.2]
theorem a9R {c:UInt8} (s:Bs):∀ a,a∈(cut1 c s).2.1->a∈s:=by
 cases hb:(cut1 c s).2.2 with
 | false=>rw[(eF hb).2.1];simp
 | true =>
  have:=(eJ hb).1;intro a ha;rw[this];simp[ha]
theorem wE {sort:UInt8} {s:Bs} (hb:(cut1 61 s).2.2=true) (hs:∀ k,stOk k (cut1 61 s).2.1=false):fdA sort s=none:=by
 unfold fdA;simp only[hb];split
 ·split
  ·rfl
  ·split
   ·rfl
   ·simp
 ·split
  ·rfl
  ·split
   ·rfl
   ·split
    ·rfl
    ·split
     ·rfl
     ·simp[hs]
 ·rfl
theorem mC (sort:UInt8) (s:Bs):fdA sort s=fdB sort s:=by
 cases hb:(cut1 61 s).2.2 with
 | false =>
  obtain⟨h1,h2,h3,_⟩:=eF hb;unfold fdA fdB;simp only[hb,h1,h2];split
  ·simp
  ·rename_i a b d heq
   have hd:(61:UInt8) ∉ d:=fun hc=>h3 ((dO s d (by rw[heq];simp)).2 _ hc);rw[kR hd];split
   ·rfl
   ·cases aF a 200 with
    | none=>rfl
    | some tag =>
     simp only;split
     ·rfl
     ·cases aN d <;> simp
  ·rfl
 | true =>
  obtain⟨h1,h2,h3⟩:=eJ hb;by_cases hc:(58:UInt8)∈(cut1 61 s).2.1
  ·rw[wE hb (fun k=>by
    cases hs:stOk k (cut1 61 s).2.1 with
    | false=>rfl
    | true=>exact absurd hc (vQ hs).1)]
   have h61:(61:UInt8)∈s:=(by rw[h1];simp);unfold fdB;split
   ·rename_i a b heq
    have hj:=mF 58 s;rw[heq] at hj;split
    ·rfl
    ·cases hp:aF a 200 with
     | none=>rfl
     | some tag =>
      simp only;split
      ·rfl
      ·rename_i hh
       exfalso;simp only[not_or,Nat.not_lt,Bool.not_eq_false] at hh;rw[<-hj] at h61;simp only[joinAt,List.mem_append,List.mem_cons] at h61;rcases h61 with h|h|h
       ·exact absurd (oA hp _ h) (by decide)
       ·exact absurd h (by decide)
       ·exact absurd (lY hh.2 _ h) (by decide)
   ·rename_i a b d heq
    have hj:=mF 58 s;rw[heq] at hj;split
    ·rfl
    ·cases hp:aF a 200 with
     | none=>rfl
     | some tag =>
      simp only;split
      ·rfl
      ·rename_i hh
       exfalso;simp only[not_or,Nat.not_lt,Bool.not_eq_false] at hh;have n1:(61:UInt8) ∉ a:=fun h=>absurd (oA hp _ h) (by decide);have n2:(61:UInt8) ∉ b:=fun h=>absurd (lY hh.2 _ h) (by decide);have e:s=(a++58::(b++[58]))++d:=(by rw[<-hj];simp[joinAt]);have n3:(61:UInt8) ∉ (a++58::(b++[58])):=(by simp[n1,n2]);rw[e,yE n3] at hc;have:=a9R d _ hc;exact(dO s d (by rw[heq];simp)).1 this
   ·rfl
  ·have e:s=(cut1 61 s).1++61::(cut1 61 s).2.1:=h1
   have hp:cutAt 58 (cut1 61 s).1=(cutAt 58 (cut1 61 s).1).dropLast++[(cutAt 58 (cut1 61 s).1).getLast (bX _ _)]:=(List.dropLast_concat_getLast (bX _ _)).symm;have ht:=a8W (c:=58) (t:=61::(cut1 61 s).2.1) (by simp[hc]) _ _ _ hp;rw[<-e] at ht;generalize hx:(cut1 61 s).1=x at *;generalize hv:(cut1 61 s).2.1=v at *;generalize hq:(cutAt 58 x).getLast (bX _ _)=q at *;generalize hps:(cutAt 58 x).dropLast=ps at *;unfold fdA fdB;simp only[hb,hx,hv,ht,hp];have hqx:(61:UInt8) ∉ q:=fun hh=>h2 ((dO x q (by rw[hp];simp)).2 _ hh);match ps with
   | []=>rfl
   | [a] =>
    simp only[List.cons_append,List.nil_append];split
    ·rfl
    ·cases aF a 200 with
     | none=>rfl
     | some tag =>
      have:isName (q++61::v)=false:=by
       cases hn:isName (q++61::v) with
       | false=>rfl
       | true=>exact absurd (lY hn 61 (by simp)) (by decide)
      simp[this]
   | [a,b] =>
    simp only[List.cons_append,List.nil_append];split
    ·rfl
    ·cases aF a 200 with
     | none=>rfl
     | some tag =>
      simp only;split
      ·rfl
      ·rw[rY hqx]
       by_cases h61:(61:UInt8)∈v
       ·cases hcv:cutAt 61 v with
        | nil=>exact absurd hcv (bX _ _)
        | cons g gs =>
         cases gs with
         | nil =>
          have:=mF 61 v;rw[hcv] at this;simp only[joinAt] at this;subst this;exact absurd h61 (dO g g (by rw[hcv];simp)).1
         | cons g2 gs =>
          simp only;cases aN q with
          | none=>rfl
          | some k =>
           have:stOk k v=false:=by
            cases hs:stOk k v with
            | false=>rfl
            | true=>exact absurd h61 (vQ hs).2
           simp[this]
       ·rw[kR h61]
        simp only;cases aN q with
        | none=>rfl
        | some k =>
         by_cases hs:sort=82
         ·by_cases ho:stOk k v=true
          ·simp[hs,ho]
          ·simp only[Bool.not_eq_true] at ho;simp[hs,ho]
         ·simp[hs]
   | a::b::d::ps=>cases ps <;> rfl
end Wf

namespace Wf
def addFds (sort:UInt8):List Fd->List Bs->Option (List Fd)
 | acc,[]=>some acc
 | acc,s::l =>
  match fdA sort s with
  | none=>none
  | some f=>if acc.any (fun g=>decide (f.tag<=g.tag) || g.name==f.name) then none else addFds sort (acc++[f]) l
def lineTy (line:Bs):Option Ty :=
 match line with
 | []=>none
 | c::r =>
  if c≠82/\c≠85/\c≠69 then none else
  let h:=cut1 61 r
  if h.2.2=false\/isName h.1=false then none else
  if h.2.1=[] then (if c=82 then some ⟨c,h.1,[]⟩ else none) else
  match addFds c [] (cutAt 44 h.2.1) with
  | none=>none
  | some l=>if l.length<=8 then some ⟨c,h.1,l⟩ else none
def addTys:List Ty->List Bs->Option (List Ty)
 | acc,[]=>some acc
 | acc,s::l =>
  if acc.length=8 then none else
  match lineTy s with
  | none=>none
  | some t=>if acc.any (fun u=>u.name==t.name) then none else addTys (acc++[t]) l
def aO (x:Sc) (k:K):Bool:=decide (k.base≠[64]) || (x.find k.name).isSome
def endsIn (x:Sc):Nat->Ty->Bool
 | 0,_=>false
 | n+1,t =>
  if t.sort≠85 then true else
  match t.fields with
  | []=>true
  | f::_ =>
   match f.kind with
   | .ref nm=>(match x.find nm with|none=>true|some u=>endsIn x n u)
   | _=>true
def cJ (x:Sc):Bool:=x.all fun t=>decide (t.sort=69) || t.fields.all fun f=>aO x f.kind
def schemaOf (s:Bs):Option Sc :=
 if 400<s.length then none else
 if (cutAt 10 s).getLast? ≠ some [] then none else
 match addTys [] (cutAt 10 s).dropLast with
 | none=>none
 | some x=>if cJ x=true/\x.all (endsIn x 9)=true then some x else none
theorem rU {sort:UInt8}:∀ (l:List Bs) (acc r:List Fd),addFds sort acc l=some r->r.length=acc.length+l.length/\∃ q,r=acc++q:=by
 intro l;induction l with
 | nil=>intro acc r h;simp[addFds] at h;subst h;simp
 | cons s l ih =>
  intro acc r h;simp only[addFds] at h;split at h
  ·simp at h
  ·split at h
   ·simp at h
   ·obtain⟨h1,q,h2⟩:=ih _ _ h
    refine⟨by rw[h1];simp;omega,_::q,by rw[h2];simp;rfl⟩
structure FdOk (sort:UInt8) (f:Fd):Prop where
 tag1:1<=f.tag
 tag2:f.tag<=200
 name:isName f.name=true
 kind:sort≠69->∃ s,aN s=some f.kind
 given:f.given≠[]->sort=82/\stOk f.kind f.given=true
 enum:sort=69->f.kind=.num/\f.given=[]
theorem xB {sort:UInt8} {s:Bs} {f:Fd} (h:fdA sort s=some f):FdOk sort f:=by
 rw[mC] at h;unfold fdB at h;split at h
 ·split at h
  ·simp at h
  ·rename_i hs
   simp only[ne_eq,Decidable.not_not] at hs;split at h
   ·simp at h
   ·rename_i tag hp
    split at h
    ·simp at h
    ·rename_i hh
     simp only[not_or,Nat.not_lt,Bool.not_eq_false] at hh;simp only[Option.some.injEq] at h;subst h;exact⟨hh.1,(dC hp).2.1,hh.2,fun h=>absurd hs h,by simp,fun _=>⟨rfl,rfl⟩⟩
 ·split at h
  ·simp at h
  ·rename_i hs
   split at h
   ·simp at h
   ·rename_i tag hp
    split at h
    ·simp at h
    ·rename_i hh
     simp only[not_or,Nat.not_lt,Bool.not_eq_false] at hh;split at h
     ·rename_i e _
      cases hk:aN e with
      | none=>rw[hk] at h;simp at h
      | some k =>
       rw[hk] at h;simp only[Option.map_some,Option.some.injEq] at h;subst h;exact⟨hh.1,(dC hp).2.1,hh.2,fun _=>⟨e,hk⟩,by simp,fun h=>absurd h hs⟩
     ·rename_i e g _
      cases hk:aN e with
      | none=>rw[hk] at h;simp at h
      | some k =>
       rw[hk] at h;simp only at h;split at h
       ·rename_i ho
        simp only[Option.some.injEq] at h;subst h;exact⟨hh.1,(dC hp).2.1,hh.2,fun _=>⟨e,hk⟩,fun _=>ho,fun h=>absurd h hs⟩
       ·simp at h
     ·simp at h
 ·simp at h
theorem a8P {sort:UInt8}:∀ (l:List Bs) (acc r:List Fd),addFds sort acc l=some r ->
  (∀ f,f∈acc->FdOk sort f)->(acc.map (·.tag)).Pairwise (· < ·)->(acc.map (·.name)).Pairwise (· ≠ ·) ->
  (∀ f,f∈r->FdOk sort f)/\(r.map (·.tag)).Pairwise (· < ·)/\(r.map (·.name)).Pairwise (· ≠ ·):=by
 intro l;induction l with
 | nil=>intro acc r h h1 h2 h3;simp[addFds] at h;subst h;exact⟨h1,h2,h3⟩
 | cons s l ih =>
  intro acc r h h1 h2 h3;simp only[addFds] at h;split at h
  ·simp at h
  ·rename_i f hf
   split at h
   ·simp at h
   ·rename_i hh
    simp only[List.any_eq_true,not_exists,not_and,Bool.or_eq_true,decide_eq_true_eq,beq_iff_eq,not_or,Nat.not_le] at hh;refine ih _ _ h ?_ ?_ ?_
    ·intro g hg
     rcases List.mem_append.1 hg with hg|hg
     ·exact h1 g hg
     ·simp only[List.mem_singleton] at hg;subst hg;exact xB hf
    ·rw[List.map_append]
     refine List.pairwise_append.2 ⟨h2,by simp,?_⟩;intro a ha b hb;obtain⟨g,hg,rfl⟩:=List.mem_map.1 ha;simp only[List.map_cons,List.map_nil,List.mem_singleton] at hb;subst hb;exact(hh g hg).1
    ·rw[List.map_append]
     refine List.pairwise_append.2 ⟨h3,by simp,?_⟩;intro a ha b hb;obtain⟨g,hg,rfl⟩:=List.mem_map.1 ha;simp only[List.map_cons,List.map_nil,List.mem_singleton] at hb;subst hb;exact(hh g hg).2
structure TyOk (t:Ty):Prop where
 sort:t.sort=82\/t.sort=85\/t.sort=69
 name:isName t.name=true
 some:t.sort≠82->t.fields≠[]
 len:t.fields.length<=8
 fds:∀ f,f∈t.fields->FdOk t.sort f
 tags:(t.fields.map (·.tag)).Pairwise (· < ·)
 names:(t.fields.map (·.name)).Pairwise (· ≠ ·)
theorem nZ {s:Bs} {t:Ty} (h:lineTy s=some t):TyOk t:=by
 unfold lineTy at h;split at h
 ·simp at h
 ·rename_i c r
  split at h
  ·simp at h
  ·rename_i hc
   have hc':c=82\/c=85\/c=69:=by
    by_cases a:c=82
    ·exact .inl a
    ·by_cases b:c=85
     ·exact .inr (.inl b)
     ·exact .inr (.inr (Decidable.byContradiction fun d=>hc ⟨a,b,d⟩))
   simp only at h;split at h
   ·simp at h
   ·rename_i hn
    simp only[not_or,Bool.not_eq_false] at hn;split at h
    ·split at h
     ·rename_i h82
      simp only[Option.some.injEq] at h;subst h;exact⟨hc',hn.2,fun h=>absurd h82 h,by simp,by simp,by simp,by simp⟩
     ·simp at h
    ·rename_i hne
     cases ha:addFds c [] (cutAt 44 (cut1 61 r).2.1) with
     | none=>rw[ha] at h;simp at h
     | some l =>
      rw[ha] at h;simp only at h;split at h
      ·rename_i hl
       simp only[Option.some.injEq] at h;subst h;obtain⟨b1,b2,b3⟩:=a8P _ _ _ ha (by simp) (by simp) (by simp);obtain⟨b4,_⟩:=rU _ _ _ ha;refine⟨hc',hn.2,fun _ e=>?_,hl,b1,b2,b3⟩;simp only at e;subst e;have hpos:=List.length_pos_iff.2 (bX 44 (cut1 61 r).2.1);simp only[List.length_nil,Nat.zero_add] at b4;omega
      ·simp at h
theorem tO:∀ (l:List Bs) (acc r:List Ty),addTys acc l=some r ->
  (∀ t,t∈acc->TyOk t)->(acc.map (·.name)).Pairwise (· ≠ ·)->acc.length<=8 ->
  (∀ t,t∈r->TyOk t)/\(r.map (·.name)).Pairwise (· ≠ ·)/\r.length<=8:=by
 intro l;induction l with
 | nil=>intro acc r h h1 h2 h3;simp[addTys] at h;subst h;exact⟨h1,h2,h3⟩
 | cons s l ih =>
  intro acc r h h1 h2 h3;simp only[addTys] at h;split at h
  ·simp at h
  ·rename_i h8
   split at h
   ·simp at h
   ·rename_i t ht
    split at h
    ·simp at h
    ·rename_i hh
     simp only[List.any_eq_true,not_exists,not_and,beq_iff_eq] at hh;refine ih _ _ h ?_ ?_ (by simp;omega)
     ·intro u hu
      rcases List.mem_append.1 hu with hu|hu
      ·exact h1 u hu
      ·simp only[List.mem_singleton] at hu;subst hu;exact nZ ht
     ·rw[List.map_append]
      refine List.pairwise_append.2 ⟨h2,by simp,?_⟩;intro a ha b hb;obtain⟨g,hg,rfl⟩:=List.mem_map.1 ha;simp only[List.map_cons,List.map_nil,List.mem_singleton] at hb;subst hb;exact hh g hg
structure ScOk (x:Sc):Prop where
 tys:∀ t,t∈x->TyOk t
 names:(x.map (·.name)).Pairwise (· ≠ ·)
 len:x.length<=8
 refs:∀ t,t∈x->t.sort≠69->∀ f,f∈t.fields->aO x f.kind=true
 ends:∀ t,t∈x->endsIn x 9 t=true
theorem iX {s:Bs} {x:Sc} (h:schemaOf s=some x):ScOk x:=by
 unfold schemaOf at h;split at h
 ·simp at h
 ·split at h
  ·simp at h
  ·split at h
   ·simp at h
   ·rename_i y hy
    split at h
    ·rename_i hh
     simp only[Option.some.injEq] at h;subst h;obtain⟨b1,b2,b3⟩:=tO _ _ _ hy (by simp) (by simp) (by simp);refine⟨b1,b2,b3,?_,fun t ht=>List.all_eq_true.1 hh.2 t ht⟩;intro t ht hs f hf;have:=List.all_eq_true.1 hh.1 t ht;simp only[Bool.or_eq_true,decide_eq_true_eq] at this;rcases this with h|h
     ·exact absurd h hs
     ·exact List.all_eq_true.1 h f hf
    ·simp at h
theorem aY {x:Sc} {nm:Bs} {t:Ty} (h:x.find nm=some t):t∈x/\t.name=nm:=by
 refine⟨List.mem_of_find?_eq_some h,?_⟩;have:=List.find?_some h;simpa using this
theorem hJ {t:Ty} {g:Nat} {f:Fd} (h:t.field g=some f):f∈t.fields/\f.tag=g:=by
 refine⟨List.mem_of_find?_eq_some h,?_⟩;have:=List.find?_some h;simpa using this
end Wf

namespace Go.Proofs.YtmdacedmjbiekaaGreatDoor
open Go.ChangeShapes Go.WideShapes Go.ChangeAt Go.RowKit Go.Lib
def RowK (w:World) (b:Nat) (v:Value) (k:Nat) (es:List (List Value)):Prop :=
 ∃ a cap,v=.slice a es.length cap/\es.length<=cap/\cap<=maxLen/\(es=[]\/∃ o,a=some ⟨b,o,none⟩/\b<w.heap.size/\∀ i (h:i<es.length) j u,j<k->es[i][j]? = some u->w.cell? ⟨b,o+i*k+j,none⟩=some u)
theorem RowK.keep {w w':World} {b k:Nat} {v:Value} {es:List (List Value)} (h:RowK w b v k es) (hs:w.heap.size<=w'.heap.size) (hk:b<w.heap.size->w'.heap[b]? = w.heap[b]?):RowK w' b v k es:=by
 obtain⟨a,cap,h1,h2,h3,h4⟩:=h;refine⟨a,cap,h1,h2,h3,?_⟩;rcases h4 with h4|⟨o,h5,h6,h7⟩
 ·exact .inl h4
 ·exact .inr ⟨o,h5,Nat.lt_of_lt_of_le h6 hs,fun i hi j u hj hu=>(World.cell?_of_block (w:=w) (a:=⟨b,o+i*k+j,none⟩) (hk h6)).trans (h7 i hi j u hj hu)⟩
theorem RowK.below {w w':World} {b k:Nat} {v:Value} {es:List (List Value)} (h:RowK w b v k es) (hb:Below w.heap.size w w'):RowK w' b v k es:=h.keep hb.size fun hx=>hb.block b hx
theorem sV (k:Nat):∀ (es:List (List Value)),(∀ e∈es,e.length=k)->∀ i (hi:i<es.length) j,j<k->es.flatten[i*k+j]? = es[i][j]?:=by
 intro es;induction es with
 | nil=>intro _ i hi;simp at hi
 | cons e es ih =>
  intro hk i hi j hj;have he:e.length=k:=hk e (List.mem_cons_self ..);rw[List.flatten_cons];cases i with
  | zero =>
   rw[Nat.zero_mul,Nat.zero_add,List.getElem?_append_left (by omega)];rfl
  | succ i =>
   have e1:(i+1)*k+j=e.length+(i*k+j):=(by rw[Nat.succ_mul,he];omega);rw[e1,List.getElem?_append_right (by omega),Nat.add_sub_cancel_left];rw[ih (fun e' h'=>hk e' (List.mem_cons_of_mem _ h')) i (by simpa using hi) j hj];rfl
theorem zU (k:Nat):∀ (es:List (List Value)),(∀ e∈es,e.length=k)->es.flatten.length=es.length*k:=by
 intro es;induction es with
 | nil=>intro _;simp
 | cons e es ih =>
  intro hk;rw[List.flatten_cons,List.length_append,hk e (List.mem_cons_self ..),ih (fun e' h'=>hk e' (List.mem_cons_of_mem _ h')),List.length_cons,Nat.succ_mul];omega
theorem RowK.bJ {w:World} {base k:Nat} {e:TypeId} {v:Value} {es:List (List Value)} (h:w.ownsRow base e k v es.length es.flatten) (hk:∀ e∈es,e.length=k):∃ b,base<=b/\RowK w b v k es:=by
 obtain⟨h1,h2|⟨g,cap,cur,h3,h4,h5,h6,h7,h8,h9⟩⟩:=h
 ·refine⟨base,Nat.le_refl _,none,0,?_,by omega,by unfold maxLen;omega,.inl (List.eq_nil_of_length_eq_zero h2.2)⟩
  rw[h2.1,h2.2]
 ·refine⟨g,h4,_,cap,h3,h6,h7,.inr ⟨0,rfl,(Array.getElem?_eq_some_iff.1 h5).1,fun i hi j u hj hu=>?_⟩⟩
  have hlt:i*k+j<es.length*k:=by
   have:(i+1)*k<=es.length*k:=Nat.mul_le_mul_right k hi;rw[Nat.succ_mul] at this;omega
  have hx:(cur.toList.take (es.length*k))[i*k+j]? = es.flatten[i*k+j]?:=by rw[h9]
  rw[List.getElem?_take,if_pos hlt,sV k es hk i hi j hj,hu] at hx;have hx2:cur[i*k+j]? = some u:=by simpa using hx
  simp[World.cell?,h5,hx2]
def fdC (sort:UInt8) (f:Wf.Fd):List Value :=
 if sort=69 then [.int .i64 f.tag,tx f.name,tx [],tx [],tx [],tx []] else [.int .i64 f.tag,tx f.name,tx f.kind.signs,tx f.kind.base,tx f.kind.name,tx f.given]
theorem pZ (sort:UInt8) (f:Wf.Fd):(fdC sort f).length=6:=by unfold fdC;split <;> rfl
abbrev ptr (b:Nat):Value:=.pointer (some ⟨b,0,none⟩)
def ptrR:Value->Option (DataW Unit × List MemPlace)
 | .pointer (some ⟨b,0,none⟩)=>some (.lit (.int .i64 b),[])
 | .pointer none=>some (.nil,[])
 | _=>none
theorem a6Y {v:Value} {d:DataW Unit} {ps:List MemPlace} (h:ptrR v=some (d,ps)):(∃ b:Nat,v=ptr b/\d=.lit (.int .i64 b))\/(v=.pointer none/\d=.nil):=by
 unfold ptrR at h;split at h
 ·rename_i b;cases h;exact .inl ⟨b,rfl,rfl⟩
 ·cases h;exact .inr ⟨rfl,rfl⟩
 ·cases h
def bK (w:World) (mb:Nat) (n:Nat) (f:List UInt8->Option Nat):Prop:=∃ D,w.ownsMap Tryz.prog 9 ptrR mb n D /\
 ∀ nm,D.atKey (.string nm) .nil=match f nm with|some b=>.lit (.int .i64 b)|none=>.nil
end Go.Proofs.YtmdacedmjbiekaaGreatDoor

namespace Wf
end Wf

namespace Wf
theorem gY {most n:Nat} {s r:Bs} (h:aQ most s=some (n,r)) :
  s=dec n++r/\n<=most/\n<=999999/\(∀ c,r.head? = some c->aB c=false):=by
 unfold aQ at h;cases hp:aF (s.takeWhile aB) most with
 | none=>rw[hp] at h;simp at h
 | some m =>
  rw[hp] at h;simp only[Option.map_some,Option.some.injEq,Prod.mk.injEq] at h;obtain⟨rfl,rfl⟩:=h;obtain⟨h1,h2,h3⟩:=dC hp;refine⟨by rw[<-h1,List.takeWhile_append_dropWhile],h2,h3,fun c hc=>?_⟩;have:=List.head?_dropWhile_not aB s;rw[hc] at this;simpa using this
theorem kX {most n:Nat} {r:Bs} (h:n<=most) (h6:n<=999999) (hr:∀ c,r.head? = some c->aB c=false) :
  aQ most (dec n++r)=some (n,r):=by
 have ha:∀ a,a∈dec n->aB a=true:=List.all_eq_true.1 (kK n);have e1:(dec n++r).takeWhile aB=dec n:=by
  rw[List.takeWhile_append_of_pos ha];cases r with
  | nil=>simp
  | cons c q=>rw[List.takeWhile_cons,hr c rfl];simp
 have e2:(dec n++r).dropWhile aB=r:=by
  rw[List.dropWhile_append_of_pos ha];cases r with
  | nil=>simp
  | cons c q=>rw[List.dropWhile_cons,hr c rfl];simp
 rw[aQ,e1,e2,rZ h h6];rfl
theorem dZ (a:Bs) {l:List Bs} (h:l≠[]):commas (a::l)=a++44::commas l:=by
 cases l with
 | nil=>exact absurd rfl h
 | cons b l=>rfl
theorem a9A {p:Reads} {Q:V->Prop} (hp:∀ s v r,p s=some (v,r)->Q v/\s=v.print++r) :
  ∀ (m:Nat) (s:Bs) (l:List V) (r:Bs),itemsW p m s=some (l,r)->l≠[]/\(∀ u,u∈l->Q u)/\s=commas (l.map V.print)++93::r:=by
 intro m;induction m with
 | zero=>intro s l r h;simp[itemsW] at h
 | succ m ih =>
  intro s l r h;simp only[itemsW] at h;cases hq:p s with
  | none=>rw[hq] at h;simp at h
  | some y =>
   obtain⟨v,rest⟩:=y;rw[hq] at h;obtain⟨h1,h2⟩:=hp _ _ _ hq;simp only at h;split at h
   ·rename_i r'
    cases hi:itemsW p m r' with
    | none=>rw[hi] at h;simp at h
    | some y =>
     obtain⟨l',q⟩:=y;rw[hi] at h;simp only[Option.map_some,Option.some.injEq,Prod.mk.injEq] at h;obtain⟨rfl,rfl⟩:=h;obtain⟨h3,h4,h5⟩:=ih _ _ _ hi;refine⟨by simp,by simpa using ⟨h1,h4⟩,?_⟩;rw[List.map_cons,dZ _ (by simpa using h3),h2,h5];simp
   ·simp only[Option.some.injEq,Prod.mk.injEq] at h
    obtain⟨rfl,rfl⟩:=h;exact⟨by simp,by simpa using h1,by rw[h2];simp[commas]⟩
   ·simp at h
theorem yD {p:Reads} {Q:V->Prop} (hp:∀ v r,Q v->(∀ c,r.head? = some c->aB c=false)->p (v.print++r)=some (v,r)) :
  ∀ (l:List V) (m:Nat) (r:Bs),l≠[]->(∀ u,u∈l->Q u)->l.length<=m->itemsW p m (commas (l.map V.print)++93::r)=some (l,r):=by
 intro l;induction l with
 | nil=>intro m r h;exact absurd rfl h
 | cons v l ih =>
  intro m r _ hu hm;cases m with
  | zero=>simp at hm
  | succ m =>
   by_cases hl:l=[]
   ·subst hl
    simp only[List.map_cons,List.map_nil,commas,itemsW];rw[hp v _ (hu v (by simp)) (by simp[aB])];rfl
   ·rw[List.map_cons,dZ _ (by simpa using hl)]
    simp only[List.append_assoc,List.cons_append,itemsW];rw[hp v _ (hu v (by simp)) (by simp[aB])];simp only;rw[ih m r hl (fun u hx=>hu u (by simp[hx])) (by simp at hm;omega)];rfl
theorem pA {t:Ty} {g:Nat} {f:Fd} (h:t.field g=some f):f.tag=g:=by
 have:=List.find?_some h;simpa using this
theorem jH {t:Ty} {p:K->Reads} {Q:Fd->V->Prop} (hp:∀ f s v r,p f.kind s=some (v,r)->Q f v/\s=v.print++r)
  {s:Bs} {f:Fd} {v:V} {r:Bs} (h:fieldTok t p s=some (f,v,r)) :
  t.field f.tag=some f/\f.tag<=200/\Q f v/\s=dec f.tag++61::(v.print++r):=by
 unfold fieldTok at h;cases hn:aQ 200 s with
 | none=>rw[hn] at h;simp at h
 | some y =>
  obtain⟨tag,rest⟩:=y;rw[hn] at h;obtain⟨h1,h2,_,_⟩:=gY hn;simp only at h;cases hf:t.field tag with
  | none=>rw[hf] at h;simp at h
  | some f' =>
   rw[hf] at h;cases rest with
   | nil=>simp at h
   | cons c q =>
    by_cases hc:c=61
    ·subst hc
     simp only at h;cases hq:p f'.kind q with
     | none=>rw[hq] at h;simp at h
     | some y =>
      obtain⟨v',r'⟩:=y;rw[hq] at h;simp only[Option.map_some,Option.some.injEq,Prod.mk.injEq] at h;obtain⟨rfl,rfl,rfl⟩:=h;obtain⟨h3,h4⟩:=hp _ _ _ _ hq;have ht:=pA hf;subst ht;exact⟨hf,h2,h3,by rw[h1,h4]⟩
    ·split at h
     ·rename_i heq _
      simp only[List.cons.injEq] at heq;exact absurd heq.1 hc
     ·simp at h
theorem kU {t:Ty} {p:K->Reads} {f:Fd} {v:V} {r:Bs} (hf:t.field f.tag=some f) (h2:f.tag<=200)
  (hp:p f.kind (v.print++r)=some (v,r)):fieldTok t p (dec f.tag++61::(v.print++r))=some (f,v,r):=by
 unfold fieldTok;rw[kX h2 (by omega) (by simp[aB])];simp only[hf,hp,Option.map_some]
def tagged (e:Fd × V):V:=.mk 61 [] e.1.tag [e.2]
theorem dI (e:Fd × V):(tagged e).print=dec e.1.tag++61::e.2.print:=by
 simp[tagged,V.print,V.prints,form,commas]
theorem wD {x:Sc} {t:Ty} {p:K->Reads} {Q:Fd->V->Prop} (hp:∀ f s v r,p f.kind s=some (v,r)->Q f v/\s=v.print++r) :
  ∀ (m last:Nat) (s:Bs) (l:List V) (r:Bs),fieldsW x t p m last s=some (l,r) ->
   ∃ es:List (Fd × V),es≠[]/\l=es.map tagged/\(last::es.map (fun e=>e.1.tag)).Pairwise (· < ·) /\
    (∀ e,e∈es->t.field e.1.tag=some e.1/\e.1.tag<=200/\Q e.1 e.2/\e.2.print≠aH x e.1) /\
    s=commas (l.map V.print)++125::r:=by
 intro m;induction m with
 | zero=>intro last s l r h;simp[fieldsW] at h
 | succ m ih =>
  intro last s l r h;simp only[fieldsW] at h;cases hq:fieldTok t p s with
  | none=>rw[hq] at h;simp at h
  | some y =>
   obtain⟨f,v,rest⟩:=y;rw[hq] at h;obtain⟨h1,h2,h3,h4⟩:=jH hp hq;simp only at h;by_cases hc:f.tag<=last\/v.print=aH x f
   ·rw[if_pos hc] at h;simp at h
   ·rw[if_neg hc] at h
    simp only[not_or,Nat.not_le] at hc;obtain⟨hc1,hc2⟩:=hc;split at h
    ·rename_i r'
     cases hi:fieldsW x t p m f.tag r' with
     | none=>rw[hi] at h;simp at h
     | some y =>
      obtain⟨l',q⟩:=y;rw[hi] at h;simp only[Option.map_some,Option.some.injEq,Prod.mk.injEq] at h;obtain⟨rfl,rfl⟩:=h;obtain⟨es,e1,rfl,e3,e4,e5⟩:=ih _ _ _ _ hi;refine⟨(f,v)::es,by simp,rfl,?_,?_,?_⟩
      ·simp only[List.map_cons]
       refine List.pairwise_cons.2 ⟨?_,e3⟩;intro a ha;rcases List.mem_cons.1 ha with rfl|ha
       ·exact hc1
       ·exact Nat.lt_trans hc1 ((List.pairwise_cons.1 e3).1 a ha)
      ·intro e he
       rcases List.mem_cons.1 he with rfl|he
       ·exact⟨h1,h2,h3,hc2⟩
       ·exact e4 e he
      ·rw[List.map_cons,dZ _ (by simpa using e1),h4,e5]
       have:=dI (f,v);simp only[tagged] at this;rw[this];simp
    ·simp only[Option.some.injEq,Prod.mk.injEq] at h
     obtain⟨rfl,rfl⟩:=h;refine⟨[(f,v)],by simp,rfl,?_,?_,?_⟩
     ·simpa using hc1
     ·intro e he;simp at he;subst he;exact⟨h1,h2,h3,hc2⟩
     ·have:=dI (f,v)
      simp only[tagged] at this;rw[h4];simp[commas,this]
    ·simp at h
theorem a6R {x:Sc} {t:Ty} {p:K->Reads} {Q:Fd->V->Prop}
  (hp:∀ f v r,Q f v->(∀ c,r.head? = some c->aB c=false)->p f.kind (v.print++r)=some (v,r)) :
  ∀ (es:List (Fd × V)) (m last:Nat) (r:Bs),es≠[]->(last::es.map (fun e=>e.1.tag)).Pairwise (· < ·) ->
   (∀ e,e∈es->t.field e.1.tag=some e.1/\e.1.tag<=200/\Q e.1 e.2/\e.2.print≠aH x e.1)->es.length<=m ->
   fieldsW x t p m last (commas ((es.map tagged).map V.print)++125::r)=some (es.map tagged,r):=by
 intro es;induction es with
 | nil=>intro m last r h;exact absurd rfl h
 | cons e es ih =>
  intro m last r _ hpw he hm;cases m with
  | zero=>simp at hm
  | succ m =>
   obtain⟨f,v⟩:=e;obtain⟨a1,a2,a3,a4⟩:=he (f,v) (by simp);simp only[List.map_cons] at hpw;obtain⟨b1,b2⟩:=List.pairwise_cons.1 hpw;have hlt:last<f.tag:=b1 f.tag (by simp);have hg:¬ (f.tag<=last\/v.print=aH x f):=by
    simp only[not_or,Nat.not_le];exact⟨hlt,a4⟩
   by_cases hl:es=[]
   ·subst hl
    simp only[List.map_cons,List.map_nil,commas,dI,List.append_assoc,List.cons_append,fieldsW];rw[kU a1 a2 (hp _ _ _ a3 (by simp[aB]))];simp only[if_neg hg];rfl
   ·rw[List.map_cons,List.map_cons,dZ _ (by simpa using hl)]
    simp only[dI,List.append_assoc,List.cons_append,fieldsW];rw[kU a1 a2 (hp _ _ _ a3 (by simp[aB]))];simp only[if_neg hg];rw[ih m f.tag r hl b2 (fun e hx=>he e (by simp[hx])) (by simp at hm;omega)];rfl
end Wf
