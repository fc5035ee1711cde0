/- Packed by pack.py: PlainE PlainS Kc Kq. -/
import Derived.Test.YtmdacedmjbiekaaGreatDoorR0
import Derived.Test.YtmdacedmjbiekaaGreatDoorR2
import Derived.Test.YtmdacedmjbiekaaGreatDoorR1
namespace Wf
set_option linter.unusedVariables false
set_option linter.unusedSimpArgs false
structure Fd where
 tag:Nat
 name:Bs
 kind:K
 given:Bs
deriving Inhabited,DecidableEq
structure Ty where
 sort:UInt8
 name:Bs
 fields:List Fd
deriving Inhabited,DecidableEq
abbrev Sc:=List Ty
def Ty.field (t:Ty) (tag:Nat):Option Fd:=t.fields.find? (fun f=>f.tag==tag)
def Sc.find (x:Sc) (name:Bs):Option Ty:=List.find? (fun t=>t.name==name) x
def stands (x:Sc):Nat→K→Bs
 | _, .list _=>[91,93]
 | _, .opt _=>[45]
 | _, .num=>[48]
 | _, .txt=>[39,39]
 | _, .flag=>[110,111]
 | 0, .ref _=>[]
 | n+1, .ref nm =>
  match x.find nm with
  | none=>[]
  | some t =>
   if t.sort=82 then [123,125]
   else match t.fields with
    | []=>[]
    | f::_=>if t.sort=69 then 35::dec f.tag else 60::(dec f.tag++61::(stands x n f.kind++[62]))
def standF (x:Sc) (f:Fd):Bs:=if f.given=[] then stands x 9 f.kind else f.given
inductive V where
 | mk (what:UInt8) (text:Bs) (tag:Nat) (kids:List V)
deriving Inhabited
def V.what:V→UInt8 | .mk a _ _ _=>a
def V.text:V→Bs | .mk _ b _ _=>b
def V.tag:V→Nat | .mk _ _ c _=>c
def V.kids:V→List V | .mk _ _ _ d=>d
def commas:List Bs→Bs
 | []=>[]
 | [a]=>a
 | a::b::l=>a++44::commas (b::l)
def form (what:UInt8) (text:Bs) (tag:Nat) (parts:List Bs):Bs :=
 if what=116 then 39::(text++[39])
 else if what=91 then 91::(commas parts++[93])
 else if what=63 then (if parts=[] then [45] else 43::commas parts)
 else if what=61 then dec tag++61::commas parts
 else if what=82 then 123::(commas parts++[125])
 else if what=85 then 60::(dec tag++61::(commas parts++[62]))
 else if what=69 then 35::dec tag
 else text
mutual
def V.print:V→Bs
 | .mk what text tag kids=>form what text tag (V.prints kids)
def V.prints:List V→List Bs
 | []=>[]
 | v::l=>v.print::V.prints l
end
mutual
def V.deep:V→Nat
 | .mk what _ _ kids=>if what=61 then V.deeps kids else V.deeps kids+1
def V.deeps:List V→Nat
 | []=>0
 | v::l=>max v.deep (V.deeps l)
end
def isTxt (c:UInt8):Bool:=(decide (97≤c.toNat)&&decide (c.toNat≤122)) || (decide (48≤c.toNat)&&decide (c.toNat≤57)) || c==32
abbrev Reads:=Bs→Option (V × Bs)
end Wf

namespace Wf
set_option linter.unusedVariables false
set_option linter.unusedSimpArgs false
def cutAt (c:UInt8):Bs→List Bs
 | []=>[[]]
 | a::r =>
  if a=c then []::cutAt c r
  else match cutAt c r with
   | []=>[[a]]
   | p::ps=>(a::p)::ps
def cut1 (c:UInt8):Bs→Bs × Bs × Bool
 | []=>([],[],false)
 | a::r=>if a=c then ([],r,true) else (a::(cut1 c r).1,(cut1 c r).2.1,(cut1 c r).2.2)
theorem cutAt_ne (c:UInt8) (s:Bs):cutAt c s≠[]:=by
 cases s with
 | nil=>simp[cutAt]
 | cons a r =>
  simp only[cutAt]
  split
  ·simp
  ·split <;> simp
theorem cut1_false {c:UInt8} {s:Bs} (h:(cut1 c s).2.2=false):(cut1 c s).1=s∧(cut1 c s).2.1=[]∧c ∉ s∧cutAt c s=[s]:=by
 induction s with
 | nil=>simp[cut1,cutAt]
 | cons a r ih =>
  simp only[cut1] at h ⊢
  by_cases ha:a=c
  ·simp[ha] at h
  ·simp only[if_neg ha] at h ⊢
   obtain⟨h1,h2,h3,h4⟩:=ih h
   refine⟨by rw[h1],h2, ?_, ?_⟩
   ·simp only[List.mem_cons,not_or];exact⟨fun e=>ha e.symm,h3⟩
   ·simp only[cutAt,if_neg ha,h4]
theorem cut1_true {c:UInt8} {s:Bs} (h:(cut1 c s).2.2=true):s=(cut1 c s).1++c::(cut1 c s).2.1∧c ∉ (cut1 c s).1∧cutAt c s=(cut1 c s).1::cutAt c (cut1 c s).2.1:=by
 induction s with
 | nil=>simp[cut1] at h
 | cons a r ih =>
  simp only[cut1] at h ⊢
  by_cases ha:a=c
  ·simp[ha,cutAt]
  ·simp only[if_neg ha] at h ⊢
   obtain⟨h1,h2,h3⟩:=ih h
   refine⟨by rw[List.cons_append,← h1], ?_, ?_⟩
   ·simp only[List.mem_cons,not_or];exact⟨fun e=>ha e.symm,h2⟩
   ·simp only[cutAt,if_neg ha,h3]
theorem cutAt_single {c:UInt8} {s:Bs} (h:c ∉ s):cutAt c s=[s]:=by
 cases hb:(cut1 c s).2.2 with
 | false=>exact(cut1_false hb).2.2.2
 | true =>
  have:=(cut1_true hb).1
  rw[this] at h;simp at h
theorem cutAt_app {c:UInt8} {a b:Bs} (h:c ∉ a):cutAt c (a++c::b)=a::cutAt c b:=by
 induction a with
 | nil=>simp[cutAt]
 | cons x a ih =>
  simp only[List.mem_cons,not_or] at h
  simp only[List.cons_append,cutAt,if_neg (Ne.symm h.1),ih h.2]
theorem cutAt_mem {c:UInt8}:∀ (s p:Bs),p∈cutAt c s→c ∉ p∧∀ a,a∈p→a∈s:=by
 intro s
 induction s with
 | nil=>intro p h;simp[cutAt] at h;subst h;simp
 | cons a r ih =>
  intro p h
  simp only[cutAt] at h
  split at h
  ·rcases List.mem_cons.1 h with rfl|h
   ·simp
   ·obtain⟨h1,h2⟩:=ih p h
    exact⟨h1,fun b hb=>List.mem_cons_of_mem _ (h2 b hb)⟩
  ·rename_i ha
   cases hr:cutAt c r with
   | nil=>exact absurd hr (cutAt_ne c r)
   | cons q qs =>
    rw[hr] at h ih
    simp only at h
    rcases List.mem_cons.1 h with rfl|h
    ·obtain⟨h1,h2⟩:=ih q (by simp)
     refine⟨by simp only[List.mem_cons,not_or];exact⟨Ne.symm ha,h1⟩, ?_⟩
     intro b hb
     rcases List.mem_cons.1 hb with rfl|hb
     ·simp
     ·exact List.mem_cons_of_mem _ (h2 b hb)
    ·obtain⟨h1,h2⟩:=ih p (by simp[h])
     exact⟨h1,fun b hb=>List.mem_cons_of_mem _ (h2 b hb)⟩
def quoted (s:Bs):Bool:=decide (s.head? = some 39)&&decide (s.tail.getLast? = some 39)&&s.tail.dropLast.all isTxt&&decide (s.length≤14)
theorem quoted_iff {s:Bs}:quoted s=true↔∃ b:Bs,s=39::(b++[39])∧b.all isTxt=true∧b.length≤12:=by
 constructor
 ·intro h
  simp only[quoted,Bool.and_eq_true,decide_eq_true_eq] at h
  obtain⟨⟨⟨h1,h2⟩,h3⟩,h4⟩:=h
  cases s with
  | nil=>simp at h1
  | cons a r =>
   simp only[List.head?_cons,Option.some.injEq] at h1
   subst h1
   simp only[List.tail_cons] at h2 h3
   have hr:r≠[]:=by intro e;subst e;simp at h2
   rw[List.getLast?_eq_some_getLast hr] at h2
   simp only[Option.some.injEq] at h2
   refine⟨r.dropLast, ?_,h3, ?_⟩
   ·rw[← h2,List.dropLast_concat_getLast hr]
   ·simp only[List.length_cons,List.length_dropLast] at h4 ⊢;omega
 ·rintro⟨b,rfl,h1,h2⟩
  simp only[quoted,Bool.and_eq_true,decide_eq_true_eq]
  refine⟨⟨⟨rfl,by simp⟩,by simpa using h1⟩,by simp;omega⟩
def stOk (k:K) (s:Bs):Bool :=
 match k with
 | .num=>(match plainN s 999999 with|some m=>decide (0<m)|none=>false)
 | .txt=>quoted s&&decide (s≠[39,39])
 | .flag=>decide (s=[121,101,115])
 | _=>false
def fdA (sort:UInt8) (s:Bs):Option Fd :=
 let h:=cut1 61 s
 match cutAt 58 h.1 with
 | [a,b] =>
  if sort≠69 then none else
  match plainN a 200 with
  | none=>none
  | some tag=>if tag<1∨isName b=false∨h.2.2=true then none else some ⟨tag,b, .num,[]⟩
 | [a,b,d] =>
  if sort=69 then none else
  match plainN a 200 with
  | none=>none
  | some tag =>
   if tag<1∨isName b=false then none else
   match parseK d with
   | none=>none
   | some k=>if h.2.2=true∧(sort≠82∨stOk k h.2.1=false) then none else some ⟨tag,b,k,h.2.1⟩
 | _=>none
def fdB (sort:UInt8) (s:Bs):Option Fd :=
 match cutAt 58 s with
 | [a,b] =>
  if sort≠69 then none else
  match plainN a 200 with
  | none=>none
  | some tag=>if tag<1∨isName b=false then none else some ⟨tag,b, .num,[]⟩
 | [a,b,d] =>
  if sort=69 then none else
  match plainN a 200 with
  | none=>none
  | some tag =>
   if tag<1∨isName b=false then none else
   match cutAt 61 d with
   | [e]=>(parseK e).map fun k=>⟨tag,b,k,[]⟩
   | [e,g] =>
    match parseK e with
    | none=>none
    | some k=>if sort=82∧stOk k g=true then some ⟨tag,b,k,g⟩ else none
   | _=>none
 | _=>none
theorem plainN_dig {s:Bs} {m n:Nat} (h:plainN s m=some n):∀ c,c∈s→isDig c=true:=by
 rw[(plainN_some h).1];exact List.all_eq_true.1 (dec_all n)
theorem isName_low {s:Bs} (h:isName s=true):∀ c,c∈s→isLow c=true:=by
 simp only[isName,Bool.and_eq_true] at h
 exact List.all_eq_true.1 h.2
theorem stOk_no {k:K} {s:Bs} (h:stOk k s=true):(58:UInt8) ∉ s∧(61:UInt8) ∉ s:=by
 cases k with
 | num =>
  simp only[stOk] at h
  cases hp:plainN s 999999 with
  | none=>rw[hp] at h;simp at h
  | some m =>
   have:=plainN_dig hp
   exact⟨fun hc=>absurd (this _ hc) (by decide),fun hc=>absurd (this _ hc) (by decide)⟩
 | txt =>
  simp only[stOk,Bool.and_eq_true,decide_eq_true_eq] at h
  obtain⟨b,rfl,hb,_⟩:=quoted_iff.1 h.1
  have ht:=List.all_eq_true.1 hb
  have key:∀ c:UInt8,c∈(39::(b++[39]):Bs)→c=39∨isTxt c=true:=by
   intro c hc
   simp only[List.mem_cons,List.mem_append,List.mem_nil_iff,or_false] at hc
   rcases hc with h|h|h
   ·exact .inl h
   ·exact .inr (ht c h)
   ·exact .inl h
  refine⟨fun hc => ?_,fun hc => ?_⟩
  ·rcases key _ hc with h|h
   ·revert h;decide
   ·revert h;decide
  ·rcases key _ hc with h|h
   ·revert h;decide
   ·revert h;decide
 | flag=>simp only[stOk,decide_eq_true_eq] at h;subst h;decide
 | ref n=>simp[stOk] at h
 | list k=>simp[stOk] at h
 | opt k=>simp[stOk] at h
def joinAt (c:UInt8):List Bs→Bs
 | []=>[]
 | [a]=>a
 | a::b::l=>a++c::joinAt c (b::l)
theorem cutAt_join (c:UInt8) (s:Bs):joinAt c (cutAt c s)=s:=by
 induction s with
 | nil=>rfl
 | cons a r ih =>
  simp only[cutAt]
  cases hr:cutAt c r with
  | nil=>exact absurd hr (cutAt_ne c r)
  | cons p ps =>
   rw[hr] at ih
   split
   ·rename_i h;simp only[joinAt,List.nil_append,ih,h]
   ·cases ps with
    | nil=>simp only[joinAt] at ih ⊢;rw[ih]
    | cons q qs=>simp only[joinAt,List.cons_append] at ih ⊢;rw[ih]
theorem cutAt_tail {c:UInt8} {t:Bs} (ht:c ∉ t):∀ x:Bs,∀ ps q,cutAt c x=ps++[q]→cutAt c (x++t)=ps++[q++t]:=by
 intro x
 induction x with
 | nil =>
  intro ps q h
  simp only[cutAt] at h
  cases ps with
  | nil=>simp only[List.nil_append,List.cons.injEq,and_true] at h;subst h;simp[cutAt_single ht]
  | cons p ps=>simp at h
 | cons a r ih =>
  intro ps q h
  simp only[cutAt,List.cons_append] at h ⊢
  by_cases ha:a=c
  ·rw[if_pos ha] at h ⊢
   cases ps with
   | nil=>simp at h;exact absurd h.2 (cutAt_ne c r)
   | cons p ps =>
    simp only[List.cons_append,List.cons.injEq] at h ⊢
    exact⟨h.1,ih ps q h.2⟩
  ·rw[if_neg ha] at h ⊢
   cases hr:cutAt c r with
   | nil=>exact absurd hr (cutAt_ne c r)
   | cons p0 ps0 =>
    rw[hr] at h ih
    simp only at h
    cases ps with
    | nil =>
     simp only[List.nil_append,List.cons.injEq] at h
     obtain⟨rfl,rfl⟩:=h
     rw[ih [] p0 rfl];rfl
    | cons p ps =>
     simp only[List.cons_append,List.cons.injEq] at h
     rw[ih (p0::ps) q (by rw[h.2];rfl)]
     simp[h.1]
theorem cut1_app {c:UInt8} {p q:Bs} (h:c ∉ p):cut1 c (p++q)=(p++(cut1 c q).1,(cut1 c q).2.1,(cut1 c q).2.2):=by
 induction p with
 | nil=>simp
 | cons a p ih =>
  simp only[List.mem_cons,not_or] at h
  simp only[List.cons_append,cut1,if_neg (Ne.symm h.1),ih h.2]
theorem cut1_sub {c:UInt8} (s:Bs):∀ a,a∈(cut1 c s).2.1→a∈s:=by
 cases hb:(cut1 c s).2.2 with
 | false=>rw[(cut1_false hb).2.1];simp
 | true =>
  have:=(cut1_true hb).1
  intro a ha
  rw[this];simp[ha]
theorem fdA_no {sort:UInt8} {s:Bs} (hb:(cut1 61 s).2.2=true) (hs:∀ k,stOk k (cut1 61 s).2.1=false):fdA sort s=none:=by
 unfold fdA
 simp only[hb]
 split
 ·split
  ·rfl
  ·split
   ·rfl
   ·simp
 ·split
  ·rfl
  ·split
   ·rfl
   ·split
    ·rfl
    ·split
     ·rfl
     ·simp[hs]
 ·rfl
theorem fdA_fdB (sort:UInt8) (s:Bs):fdA sort s=fdB sort s:=by
 cases hb:(cut1 61 s).2.2 with
 | false =>
  obtain⟨h1,h2,h3,_⟩:=cut1_false hb
  unfold fdA fdB
  simp only[hb,h1,h2]
  split
  ·simp
  ·rename_i a b d heq
   have hd:(61:UInt8) ∉ d:=fun hc=>h3 ((cutAt_mem s d (by rw[heq];simp)).2 _ hc)
   rw[cutAt_single hd]
   split
   ·rfl
   ·cases plainN a 200 with
    | none=>rfl
    | some tag =>
     simp only
     split
     ·rfl
     ·cases parseK d <;> simp
  ·rfl
 | true =>
  obtain⟨h1,h2,h3⟩:=cut1_true hb
  by_cases hc:(58:UInt8)∈(cut1 61 s).2.1
  ·rw[fdA_no hb (fun k=>by
    cases hs:stOk k (cut1 61 s).2.1 with
    | false=>rfl
    | true=>exact absurd hc (stOk_no hs).1)]
   have h61:(61:UInt8)∈s:=by rw[h1];simp
   unfold fdB
   split
   ·rename_i a b heq
    have hj:=cutAt_join 58 s
    rw[heq] at hj
    split
    ·rfl
    ·cases hp:plainN a 200 with
     | none=>rfl
     | some tag =>
      simp only
      split
      ·rfl
      ·rename_i hh
       exfalso
       simp only[not_or,Nat.not_lt,Bool.not_eq_false] at hh
       rw[← hj] at h61
       simp only[joinAt,List.mem_append,List.mem_cons] at h61
       rcases h61 with h|h|h
       ·exact absurd (plainN_dig hp _ h) (by decide)
       ·exact absurd h (by decide)
       ·exact absurd (isName_low hh.2 _ h) (by decide)
   ·rename_i a b d heq
    have hj:=cutAt_join 58 s
    rw[heq] at hj
    split
    ·rfl
    ·cases hp:plainN a 200 with
     | none=>rfl
     | some tag =>
      simp only
      split
      ·rfl
      ·rename_i hh
       exfalso
       simp only[not_or,Nat.not_lt,Bool.not_eq_false] at hh
       have n1:(61:UInt8) ∉ a:=fun h=>absurd (plainN_dig hp _ h) (by decide)
       have n2:(61:UInt8) ∉ b:=fun h=>absurd (isName_low hh.2 _ h) (by decide)
       have e:s=(a++58::(b++[58]))++d:=by rw[← hj];simp[joinAt]
       have n3:(61:UInt8) ∉ (a++58::(b++[58])):=by simp[n1,n2]
       rw[e,cut1_app n3] at hc
       have:=cut1_sub d _ hc
       exact(cutAt_mem s d (by rw[heq];simp)).1 this
   ·rfl
  ·have e:s=(cut1 61 s).1++61::(cut1 61 s).2.1:=h1
   have hp:cutAt 58 (cut1 61 s).1=(cutAt 58 (cut1 61 s).1).dropLast++[(cutAt 58 (cut1 61 s).1).getLast (cutAt_ne _ _)]:=(List.dropLast_concat_getLast (cutAt_ne _ _)).symm
   have ht:=cutAt_tail (c:=58) (t:=61::(cut1 61 s).2.1) (by simp[hc]) _ _ _ hp
   rw[← e] at ht
   generalize hx:(cut1 61 s).1=x at *
   generalize hv:(cut1 61 s).2.1=v at *
   generalize hq:(cutAt 58 x).getLast (cutAt_ne _ _)=q at *
   generalize hps:(cutAt 58 x).dropLast=ps at *
   unfold fdA fdB
   simp only[hb,hx,hv,ht,hp]
   have hqx:(61:UInt8) ∉ q:=fun hh=>h2 ((cutAt_mem x q (by rw[hp];simp)).2 _ hh)
   match ps with
   | []=>rfl
   | [a] =>
    simp only[List.cons_append,List.nil_append]
    split
    ·rfl
    ·cases plainN a 200 with
     | none=>rfl
     | some tag =>
      have:isName (q++61::v)=false:=by
       cases hn:isName (q++61::v) with
       | false=>rfl
       | true=>exact absurd (isName_low hn 61 (by simp)) (by decide)
      simp[this]
   | [a,b] =>
    simp only[List.cons_append,List.nil_append]
    split
    ·rfl
    ·cases plainN a 200 with
     | none=>rfl
     | some tag =>
      simp only
      split
      ·rfl
      ·rw[cutAt_app hqx]
       by_cases h61:(61:UInt8)∈v
       ·cases hcv:cutAt 61 v with
        | nil=>exact absurd hcv (cutAt_ne _ _)
        | cons g gs =>
         cases gs with
         | nil =>
          have:=cutAt_join 61 v
          rw[hcv] at this
          simp only[joinAt] at this
          subst this
          exact absurd h61 (cutAt_mem g g (by rw[hcv];simp)).1
         | cons g2 gs =>
          simp only
          cases parseK q with
          | none=>rfl
          | some k =>
           have:stOk k v=false:=by
            cases hs:stOk k v with
            | false=>rfl
            | true=>exact absurd h61 (stOk_no hs).2
           simp[this]
       ·rw[cutAt_single h61]
        simp only
        cases parseK q with
        | none=>rfl
        | some k =>
         by_cases hs:sort=82
         ·by_cases ho:stOk k v=true
          ·simp[hs,ho]
          ·simp only[Bool.not_eq_true] at ho;simp[hs,ho]
         ·simp[hs]
   | a::b::d::ps=>cases ps <;> rfl
end Wf

namespace Go.Proofs.YtmdacedmjbiekaaGreatDoor
open Go.ChangeShapes Go.WideShapes Go.ChangeAt Go.RowKit Go.Lib
set_option linter.unusedVariables false
theorem sgn_of {c:UInt8} (h:c.toNat=91∨c.toNat=63):Wf.isSgn c=true:=by
 rcases h with h|h
 ·have:c=91:=UInt8.toNat_inj.1 (by rw[h];rfl)
  rw[this];rfl
 ·have:c=63:=UInt8.toNat_inj.1 (by rw[h];rfl)
  rw[this];rfl
theorem sgn_not {c:UInt8} (h:¬ (c.toNat=91∨c.toNat=63)):Wf.isSgn c=false:=by
 cases hc:Wf.isSgn c with
 | false=>rfl
 | true =>
  simp only[Wf.isSgn,Bool.or_eq_true,beq_iff_eq] at hc
  rcases hc with rfl|rfl
  ·exact absurd (.inl rfl) h
  ·exact absurd (.inr rfl) h
theorem core_drop {t:ByteArray} {c:UInt8} (hc:t.data.toList[0]? = some c) (h:c.toNat=91∨c.toNat=63):(t.extract 1 t.size).data.toList.dropWhile Wf.isSgn=t.data.toList.dropWhile Wf.isSgn:=by
 have hl:=size_list t
 rw[ext_list]
 cases hd:t.data.toList with
 | nil=>rw[hd] at hc;simp at hc
 | cons x r =>
  rw[hd] at hc hl
  have hx:x=c:=by simpa using hc
  subst hx
  rw[List.drop_one,List.tail_cons,List.take_of_length_le (by simp at hl;omega),List.dropWhile_cons_of_pos (sgn_of h)]
theorem core_end {t:ByteArray} {c:UInt8} (hc:t.data.toList[0]? = some c) (h:¬ (c.toNat=91∨c.toNat=63)):t=⟨(t.data.toList.dropWhile Wf.isSgn).toArray⟩:=by
 rw[eq_list]
 cases hd:t.data.toList with
 | nil=>rfl
 | cons x r =>
  rw[hd] at hc
  have hx:x=c:=by simpa using hc
  subst hx
  rw[List.dropWhile_cons_of_neg (by rw[sgn_not h];decide)]
set_option maxRecDepth 20000 in
theorem core_spec (s:ByteArray) (w:World) (hs:s.size≤1048576) (hd:s.data.toList.dropWhile Wf.isSgn≠[]):Calls Tryz.prog 74 #[.string s] w fun e w'=>e=.returned (.string ⟨(s.data.toList.dropWhile Wf.isSgn).toArray⟩)∧w=w':=by
 have HD:=hid hd
 clear hd
 go_enter Tryz.func74,Tryz.ntmps74
 go_wp2
 go_loopw [0] (fun v wr=>∃ t:ByteArray,v=.string t∧t.size≤1048576∧Hid (t.data.toList.dropWhile Wf.isSgn=s.data.toList.dropWhile Wf.isSgn)∧w=wr)
  (fun v _=>match v with | .string t=>t.size|_=>0)
 case atStart=>exact⟨s,rfl,hs,hid (show _=_ from rfl),rfl⟩
 case round =>
  obtain⟨t,rfl,ht,hx,rfl⟩:=hrel
  have h1:1≤t.size:=by
   rcases Nat.eq_zero_or_pos t.size with h|h
   ·have hl:=size_list t
    have h0:t.data.toList=[]:=List.eq_nil_of_length_eq_zero (by omega)
    have:=hx.out
    rw[h0] at this
    exact absurd this.symm HD.out
   ·exact h
  obtain⟨c,hc,e0⟩:=byte_at t 0 (by omega)
  have HC:=hid hc
  clear hc
  obtain⟨a,ha⟩:∃ a,c.toNat=a:=⟨_,rfl⟩
  have HA:=hid ha
  rw[ha] at e0
  clear ha
  by_cases h91:a=91∨a=63
  ·have HN:=hid (show(t.extract 1 t.size).data.toList.dropWhile Wf.isSgn=s.data.toList.dropWhile Wf.isSgn by rw[← hx.out];exact core_drop HC.out (by rw[HA.out];exact h91))
   have hsz:(t.extract 1 t.size).size=t.size-1:=by rw[ByteArray.size_extract];omega
   rcases h91 with h|h
   ·subst h
    go_wp2
    go_roundw
    case rel=>exact⟨_,rfl,by omega,HN.out,trivial⟩
    case measure=>show(t.extract 1 t.size).size<t.size;omega
   ·subst h
    go_wp2
    go_roundw
    case rel=>exact⟨_,rfl,by omega,HN.out,trivial⟩
    case measure=>show(t.extract 1 t.size).size<t.size;omega
  ·have t1:((a:Int)==91)=false:=by rw[beq_eq_false_iff_ne];omega
   have t2:((a:Int)==63)=false:=by rw[beq_eq_false_iff_ne];omega
   have HE:=hid (show t=⟨(s.data.toList.dropWhile Wf.isSgn).toArray⟩ by rw[← hx.out];exact core_end HC.out (by rw[HA.out];exact h91))
   clear h91
   go_wp2
   go_ret
   exact⟨by rw[← HE.out];rfl,rfl⟩

theorem len_core (l:List UInt8):(l.takeWhile Wf.isSgn).length+(l.dropWhile Wf.isSgn).length=l.length:=by
 rw[← List.length_append,List.takeWhile_append_dropWhile]
theorem ret_v {a b:Value} (h1:a=b):Ending.returned a=.returned b:=by rw[h1]
def refV (l:List UInt8):Value :=
 match l with
 | []=>.tuple #[.string ⟨#[]⟩, .bool false]
 | c::r=>if c=64 then .tuple #[.string ⟨r.dropLast.toArray⟩, .bool true] else .tuple #[.string ⟨#[]⟩, .bool false]
set_option maxRecDepth 20000 in
theorem ref_spec (s:ByteArray) (w:World) (hs:s.size≤1048576) (h1:1≤s.size) (h2:s.data.toList.head? = some 64→2≤s.size):Calls Tryz.prog 73 #[.string s] w fun e w'=>e=.returned (refV s.data.toList)∧w=w':=by
 have hl:=size_list s
 obtain⟨c,hc,e0⟩:=byte_at s 0 (by omega)
 obtain⟨a,ha⟩:∃ a,c.toNat=a:=⟨_,rfl⟩
 rw[ha] at e0
 cases hd:s.data.toList with
 | nil=>rw[hd] at hl;simp at hl;omega
 | cons x r =>
  rw[hd] at hc hl h2
  have hx:x=c:=by simpa using hc
  subst hx
  by_cases h64:a=64
  ·have hx:x=64:=UInt8.toNat_inj.1 (by rw[ha,h64];rfl)
   subst hx
   have h22:=h2 rfl
   have HV:=hid (show refV (64::r)=.tuple #[.string (s.extract 1 (s.size-1)), .bool true] by
    rw[refV,if_pos rfl]
    have he:s.extract 1 (s.size-1)=⟨r.dropLast.toArray⟩:=by
     rw[eq_list,ext_list,hd,List.drop_one,List.tail_cons,List.dropLast_eq_take]
     congr 1
     simp at hl;omega
    rw[he])
   subst h64
   clear hc ha hl h2 hd
   go_enter Tryz.func73,Tryz.ntmps73
   go_wp2
   go_ret2
   exact⟨ret_v HV.out.symm,rfl⟩
  ·have HV:=hid (show refV (x::r)=.tuple #[.string ⟨#[]⟩, .bool false] by
    rw[refV,if_neg (fun h=>h64 (by rw[← ha,h];rfl))])
   have t1:((a:Int)==64)=false:=by rw[beq_eq_false_iff_ne];omega
   have t3:((a:Int) != 64)=true:=by unfold bne;rw[t1];rfl
   clear hc ha hl h2 hd h64
   go_enter Tryz.func73,Tryz.ntmps73
   go_wp2
   go_ret2
   exact⟨ret_v HV.out.symm,rfl⟩
theorem parse_text {l:List UInt8} {k:Wf.K} (h:Wf.parseK l=some k):k.text=l:=by
 unfold Wf.parseK at h
 by_cases h1:l.length≤12
 ·rw[if_pos h1] at h;exact Wf.kindIn_text h
 ·rw[if_neg h1] at h;cases h
theorem ok_some {l:List UInt8} {k:Wf.K} (h:Wf.parseK l=some k):okB l=true:=by rw[okB,h];rfl
theorem ok_none {l:List UInt8} (h:Wf.parseK l=none):okB l=false:=by rw[okB,h];rfl
theorem tx_size (l:List UInt8):(⟨l.toArray⟩:ByteArray).size=l.length:=rfl
theorem drop_core (k:Wf.K):k.text.dropWhile Wf.isSgn=k.core.text:=by
 induction k with
 | list k ih=>rw[Wf.K.text,List.dropWhile_cons_of_pos (by decide),ih];rfl
 | opt k ih=>rw[Wf.K.text,List.dropWhile_cons_of_pos (by decide),ih];rfl
 | _=>rfl
theorem core_base (k:Wf.K):k.core.base=k.base∧k.core.name=k.name:=by
 induction k with
 | list k ih=>exact ih
 | opt k ih=>exact ih
 | _=>exact⟨rfl,rfl⟩
theorem core_plain (k:Wf.K):(∃ n,k.core=.ref n)∨k.core.text.head? ≠ some 64∧k.core.base≠[64]:=by
 induction k with
 | list k ih=>exact ih
 | opt k ih=>exact ih
 | ref n=>exact .inl ⟨n,rfl⟩
 | _=>exact .inr ⟨by decide,by decide⟩
end Go.Proofs.YtmdacedmjbiekaaGreatDoor
