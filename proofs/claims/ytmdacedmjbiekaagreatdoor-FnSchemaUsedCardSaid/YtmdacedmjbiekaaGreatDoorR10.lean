/- Packed by pack.py: PlainT Mr. -/
import Derived.Test.YtmdacedmjbiekaaGreatDoorR5
import Derived.Test.YtmdacedmjbiekaaGreatDoorR9
namespace Wf
set_option linter.unusedVariables false
set_option linter.unusedSimpArgs false
def addFds (sort:UInt8):List Fd→List Bs→Option (List Fd)
 | acc,[]=>some acc
 | acc,s::l =>
  match fdA sort s with
  | none=>none
  | some f=>if acc.any (fun g=>decide (f.tag≤g.tag) || g.name==f.name) then none else addFds sort (acc++[f]) l
def lineTy (line:Bs):Option Ty :=
 match line with
 | []=>none
 | c::r =>
  if c≠82∧c≠85∧c≠69 then none else
  let h:=cut1 61 r
  if h.2.2=false∨isName h.1=false then none else
  if h.2.1=[] then (if c=82 then some ⟨c,h.1,[]⟩ else none) else
  match addFds c [] (cutAt 44 h.2.1) with
  | none=>none
  | some l=>if l.length≤8 then some ⟨c,h.1,l⟩ else none
def addTys:List Ty→List Bs→Option (List Ty)
 | acc,[]=>some acc
 | acc,s::l =>
  if acc.length=8 then none else
  match lineTy s with
  | none=>none
  | some t=>if acc.any (fun u=>u.name==t.name) then none else addTys (acc++[t]) l
def hasRef (x:Sc) (k:K):Bool:=decide (k.base≠[64]) || (x.find k.name).isSome
def endsIn (x:Sc):Nat→Ty→Bool
 | 0,_=>false
 | n+1,t =>
  if t.sort≠85 then true else
  match t.fields with
  | []=>true
  | f::_ =>
   match f.kind with
   | .ref nm=>(match x.find nm with|none=>true|some u=>endsIn x n u)
   | _=>true
def refsOk (x:Sc):Bool:=x.all fun t=>decide (t.sort=69) || t.fields.all fun f=>hasRef x f.kind
def schemaOf (s:Bs):Option Sc :=
 if 400<s.length then none else
 if (cutAt 10 s).getLast? ≠ some [] then none else
 match addTys [] (cutAt 10 s).dropLast with
 | none=>none
 | some x=>if refsOk x=true∧x.all (endsIn x 9)=true then some x else none
theorem addFds_len {sort:UInt8}:∀ (l:List Bs) (acc r:List Fd),addFds sort acc l=some r→r.length=acc.length+l.length∧∃ q,r=acc++q:=by
 intro l
 induction l with
 | nil=>intro acc r h;simp[addFds] at h;subst h;simp
 | cons s l ih =>
  intro acc r h
  simp only[addFds] at h
  split at h
  ·simp at h
  ·split at h
   ·simp at h
   ·obtain⟨h1,q,h2⟩:=ih _ _ h
    refine⟨by rw[h1];simp;omega,_::q,by rw[h2];simp;rfl⟩
structure FdOk (sort:UInt8) (f:Fd):Prop where
 tag1:1≤f.tag
 tag2:f.tag≤200
 name:isName f.name=true
 kind:sort≠69→∃ s,parseK s=some f.kind
 given:f.given≠[]→sort=82∧stOk f.kind f.given=true
 enum:sort=69→f.kind=.num∧f.given=[]
theorem fdA_ok {sort:UInt8} {s:Bs} {f:Fd} (h:fdA sort s=some f):FdOk sort f:=by
 rw[fdA_fdB] at h
 unfold fdB at h
 split at h
 ·split at h
  ·simp at h
  ·rename_i hs
   simp only[ne_eq,Decidable.not_not] at hs
   split at h
   ·simp at h
   ·rename_i tag hp
    split at h
    ·simp at h
    ·rename_i hh
     simp only[not_or,Nat.not_lt,Bool.not_eq_false] at hh
     simp only[Option.some.injEq] at h
     subst h
     exact⟨hh.1,(plainN_some hp).2.1,hh.2,fun h=>absurd hs h,by simp,fun _=>⟨rfl,rfl⟩⟩
 ·split at h
  ·simp at h
  ·rename_i hs
   split at h
   ·simp at h
   ·rename_i tag hp
    split at h
    ·simp at h
    ·rename_i hh
     simp only[not_or,Nat.not_lt,Bool.not_eq_false] at hh
     split at h
     ·rename_i e _
      cases hk:parseK e with
      | none=>rw[hk] at h;simp at h
      | some k =>
       rw[hk] at h
       simp only[Option.map_some,Option.some.injEq] at h
       subst h
       exact⟨hh.1,(plainN_some hp).2.1,hh.2,fun _=>⟨e,hk⟩,by simp,fun h=>absurd h hs⟩
     ·rename_i e g _
      cases hk:parseK e with
      | none=>rw[hk] at h;simp at h
      | some k =>
       rw[hk] at h
       simp only at h
       split at h
       ·rename_i ho
        simp only[Option.some.injEq] at h
        subst h
        exact⟨hh.1,(plainN_some hp).2.1,hh.2,fun _=>⟨e,hk⟩,fun _=>ho,fun h=>absurd h hs⟩
       ·simp at h
     ·simp at h
 ·simp at h
theorem addFds_ok {sort:UInt8}:∀ (l:List Bs) (acc r:List Fd),addFds sort acc l=some r →
  (∀ f,f∈acc→FdOk sort f)→(acc.map (·.tag)).Pairwise (· < ·)→(acc.map (·.name)).Pairwise (· ≠ ·) →
  (∀ f,f∈r→FdOk sort f)∧(r.map (·.tag)).Pairwise (· < ·)∧(r.map (·.name)).Pairwise (· ≠ ·):=by
 intro l
 induction l with
 | nil=>intro acc r h h1 h2 h3;simp[addFds] at h;subst h;exact⟨h1,h2,h3⟩
 | cons s l ih =>
  intro acc r h h1 h2 h3
  simp only[addFds] at h
  split at h
  ·simp at h
  ·rename_i f hf
   split at h
   ·simp at h
   ·rename_i hh
    simp only[List.any_eq_true,not_exists,not_and,Bool.or_eq_true,decide_eq_true_eq,beq_iff_eq,not_or,Nat.not_le] at hh
    refine ih _ _ h ?_ ?_ ?_
    ·intro g hg
     rcases List.mem_append.1 hg with hg|hg
     ·exact h1 g hg
     ·simp only[List.mem_singleton] at hg;subst hg;exact fdA_ok hf
    ·rw[List.map_append]
     refine List.pairwise_append.2 ⟨h2,by simp, ?_⟩
     intro a ha b hb
     obtain⟨g,hg,rfl⟩:=List.mem_map.1 ha
     simp only[List.map_cons,List.map_nil,List.mem_singleton] at hb
     subst hb
     exact(hh g hg).1
    ·rw[List.map_append]
     refine List.pairwise_append.2 ⟨h3,by simp, ?_⟩
     intro a ha b hb
     obtain⟨g,hg,rfl⟩:=List.mem_map.1 ha
     simp only[List.map_cons,List.map_nil,List.mem_singleton] at hb
     subst hb
     exact(hh g hg).2
structure TyOk (t:Ty):Prop where
 sort:t.sort=82∨t.sort=85∨t.sort=69
 name:isName t.name=true
 some:t.sort≠82→t.fields≠[]
 len:t.fields.length≤8
 fds:∀ f,f∈t.fields→FdOk t.sort f
 tags:(t.fields.map (·.tag)).Pairwise (· < ·)
 names:(t.fields.map (·.name)).Pairwise (· ≠ ·)
theorem lineTy_ok {s:Bs} {t:Ty} (h:lineTy s=some t):TyOk t:=by
 unfold lineTy at h
 split at h
 ·simp at h
 ·rename_i c r
  split at h
  ·simp at h
  ·rename_i hc
   have hc':c=82∨c=85∨c=69:=by
    by_cases a:c=82
    ·exact .inl a
    ·by_cases b:c=85
     ·exact .inr (.inl b)
     ·exact .inr (.inr (Decidable.byContradiction fun d=>hc ⟨a,b,d⟩))
   simp only at h
   split at h
   ·simp at h
   ·rename_i hn
    simp only[not_or,Bool.not_eq_false] at hn
    split at h
    ·split at h
     ·rename_i h82
      simp only[Option.some.injEq] at h
      subst h
      exact⟨hc',hn.2,fun h=>absurd h82 h,by simp,by simp,by simp,by simp⟩
     ·simp at h
    ·rename_i hne
     cases ha:addFds c [] (cutAt 44 (cut1 61 r).2.1) with
     | none=>rw[ha] at h;simp at h
     | some l =>
      rw[ha] at h
      simp only at h
      split at h
      ·rename_i hl
       simp only[Option.some.injEq] at h
       subst h
       obtain⟨b1,b2,b3⟩:=addFds_ok _ _ _ ha (by simp) (by simp) (by simp)
       obtain⟨b4,_⟩:=addFds_len _ _ _ ha
       refine⟨hc',hn.2,fun _ e => ?_,hl,b1,b2,b3⟩
       simp only at e
       subst e
       have hpos:=List.length_pos_iff.2 (cutAt_ne 44 (cut1 61 r).2.1)
       simp only[List.length_nil,Nat.zero_add] at b4
       omega
      ·simp at h
theorem addTys_ok:∀ (l:List Bs) (acc r:List Ty),addTys acc l=some r →
  (∀ t,t∈acc→TyOk t)→(acc.map (·.name)).Pairwise (· ≠ ·)→acc.length≤8 →
  (∀ t,t∈r→TyOk t)∧(r.map (·.name)).Pairwise (· ≠ ·)∧r.length≤8:=by
 intro l
 induction l with
 | nil=>intro acc r h h1 h2 h3;simp[addTys] at h;subst h;exact⟨h1,h2,h3⟩
 | cons s l ih =>
  intro acc r h h1 h2 h3
  simp only[addTys] at h
  split at h
  ·simp at h
  ·rename_i h8
   split at h
   ·simp at h
   ·rename_i t ht
    split at h
    ·simp at h
    ·rename_i hh
     simp only[List.any_eq_true,not_exists,not_and,beq_iff_eq] at hh
     refine ih _ _ h ?_ ?_ (by simp;omega)
     ·intro u hu
      rcases List.mem_append.1 hu with hu|hu
      ·exact h1 u hu
      ·simp only[List.mem_singleton] at hu;subst hu;exact lineTy_ok ht
     ·rw[List.map_append]
      refine List.pairwise_append.2 ⟨h2,by simp, ?_⟩
      intro a ha b hb
      obtain⟨g,hg,rfl⟩:=List.mem_map.1 ha
      simp only[List.map_cons,List.map_nil,List.mem_singleton] at hb
      subst hb
      exact hh g hg
structure ScOk (x:Sc):Prop where
 tys:∀ t,t∈x→TyOk t
 names:(x.map (·.name)).Pairwise (· ≠ ·)
 len:x.length≤8
 refs:∀ t,t∈x→t.sort≠69→∀ f,f∈t.fields→hasRef x f.kind=true
 ends:∀ t,t∈x→endsIn x 9 t=true
theorem schemaOf_ok {s:Bs} {x:Sc} (h:schemaOf s=some x):ScOk x:=by
 unfold schemaOf at h
 split at h
 ·simp at h
 ·split at h
  ·simp at h
  ·split at h
   ·simp at h
   ·rename_i y hy
    split at h
    ·rename_i hh
     simp only[Option.some.injEq] at h
     subst h
     obtain⟨b1,b2,b3⟩:=addTys_ok _ _ _ hy (by simp) (by simp) (by simp)
     refine⟨b1,b2,b3, ?_,fun t ht=>List.all_eq_true.1 hh.2 t ht⟩
     intro t ht hs f hf
     have:=List.all_eq_true.1 hh.1 t ht
     simp only[Bool.or_eq_true,decide_eq_true_eq] at this
     rcases this with h|h
     ·exact absurd h hs
     ·exact List.all_eq_true.1 h f hf
    ·simp at h
theorem find_mem {x:Sc} {nm:Bs} {t:Ty} (h:x.find nm=some t):t∈x∧t.name=nm:=by
 refine⟨List.mem_of_find?_eq_some h, ?_⟩
 have:=List.find?_some h
 simpa using this
end Wf

namespace Go.Proofs.YtmdacedmjbiekaaGreatDoor
open Go.ChangeShapes Go.WideShapes Go.ChangeAt Go.RowKit Go.Lib
set_option linter.unusedVariables false
def RowK (w:World) (b:Nat) (v:Value) (k:Nat) (es:List (List Value)):Prop :=
 ∃ a cap,v=.slice a es.length cap∧es.length≤cap∧cap≤maxLen∧(es=[]∨∃ o,a=some ⟨b,o,none⟩∧b<w.heap.size∧∀ i (h:i<es.length) j u,j<k→es[i][j]? = some u→w.cell? ⟨b,o+i * k+j,none⟩=some u)
theorem RowK.keep {w w':World} {b k:Nat} {v:Value} {es:List (List Value)} (h:RowK w b v k es) (hs:w.heap.size≤w'.heap.size) (hk:b<w.heap.size→w'.heap[b]? = w.heap[b]?):RowK w' b v k es:=by
 obtain⟨a,cap,h1,h2,h3,h4⟩:=h
 refine⟨a,cap,h1,h2,h3, ?_⟩
 rcases h4 with h4|⟨o,h5,h6,h7⟩
 ·exact .inl h4
 ·exact .inr ⟨o,h5,Nat.lt_of_lt_of_le h6 hs,fun i hi j u hj hu=>(World.cell?_of_block (w:=w) (a:=⟨b,o+i * k+j,none⟩) (hk h6)).trans (h7 i hi j u hj hu)⟩
theorem RowK.below {w w':World} {b k:Nat} {v:Value} {es:List (List Value)} (h:RowK w b v k es) (hb:Below w.heap.size w w'):RowK w' b v k es:=h.keep hb.size fun hx=>hb.block b hx
theorem RowK.drewN {w:World} {b k:Nat} {v:Value} {es:List (List Value)} (h:RowK w b v k es) (n:Nat):RowK (w.drewN n) b v k es:=h.keep (Nat.le_refl _) fun _=>rfl
theorem flat_get (k:Nat):∀ (es:List (List Value)),(∀ e∈es,e.length=k)→∀ i (hi:i<es.length) j,j<k→es.flatten[i * k+j]? = es[i][j]?:=by
 intro es
 induction es with
 | nil=>intro _ i hi;simp at hi
 | cons e es ih =>
  intro hk i hi j hj
  have he:e.length=k:=hk e (List.mem_cons_self ..)
  rw[List.flatten_cons]
  cases i with
  | zero =>
   rw[Nat.zero_mul,Nat.zero_add,List.getElem?_append_left (by omega)]
   rfl
  | succ i =>
   have e1:(i+1) * k+j=e.length+(i * k+j):=by rw[Nat.succ_mul,he];omega
   rw[e1,List.getElem?_append_right (by omega),Nat.add_sub_cancel_left]
   rw[ih (fun e' h'=>hk e' (List.mem_cons_of_mem _ h')) i (by simpa using hi) j hj]
   rfl
theorem RowK.of_owns {w:World} {base k:Nat} {e:TypeId} {v:Value} {es:List (List Value)} (h:w.ownsRow base e k v es.length es.flatten) (hk:∀ e∈es,e.length=k):∃ b,base≤b∧RowK w b v k es:=by
 obtain⟨h1,h2|⟨g,cap,cur,h3,h4,h5,h6,h7,h8,h9⟩⟩:=h
 ·refine⟨base,Nat.le_refl _,none,0, ?_,by omega,by unfold maxLen;omega, .inl (List.eq_nil_of_length_eq_zero h2.2)⟩
  rw[h2.1,h2.2]
 ·refine⟨g,h4,_,cap,h3,h6,h7, .inr ⟨0,rfl,(Array.getElem?_eq_some_iff.1 h5).1,fun i hi j u hj hu => ?_⟩⟩
  have hlt:i * k+j<es.length * k:=by
   have:(i+1) * k≤es.length * k:=Nat.mul_le_mul_right k hi
   rw[Nat.succ_mul] at this;omega
  have hx:(cur.toList.take (es.length * k))[i * k+j]? = es.flatten[i * k+j]?:=by rw[h9]
  rw[List.getElem?_take,if_pos hlt,flat_get k es hk i hi j hj,hu] at hx
  have hx2:cur[i * k+j]? = some u:=by simpa using hx
  simp[World.cell?,h5,hx2]
def fdC (sort:UInt8) (f:Wf.Fd):List Value :=
 if sort=69 then [.int .i64 f.tag,tx f.name,tx [],tx [],tx [],tx []] else [.int .i64 f.tag,tx f.name,tx f.kind.signs,tx f.kind.base,tx f.kind.name,tx f.given]
theorem fdC_len (sort:UInt8) (f:Wf.Fd):(fdC sort f).length=6:=by unfold fdC;split <;> rfl
def TyAt (w:World) (b:Nat) (t:Wf.Ty):Prop:=∃ fb v line,b<w.heap.size∧w.cell? ⟨b,0,none⟩=some (.int .u8 t.sort.toNat)∧w.cell? ⟨b,1,none⟩=some (tx t.name)∧w.cell? ⟨b,2,none⟩=some v∧w.cell? ⟨b,3,none⟩=some (.string line)∧RowK w fb v 6 (t.fields.map (fdC t.sort))
theorem TyAt.below {w w':World} {b:Nat} {t:Wf.Ty} (h:TyAt w b t) (hb:Below w.heap.size w w'):TyAt w' b t:=by
 obtain⟨fb,v,line,h0,h1,h2,h3,h4,h5⟩:=h
 refine⟨fb,v,line,Nat.lt_of_lt_of_le h0 hb.size, ?_, ?_, ?_, ?_,h5.below hb⟩
 ·exact(hb.cell (p:=⟨b,0,none⟩) h0).trans h1
 ·exact(hb.cell (p:=⟨b,1,none⟩) h0).trans h2
 ·exact(hb.cell (p:=⟨b,2,none⟩) h0).trans h3
 ·exact(hb.cell (p:=⟨b,3,none⟩) h0).trans h4
abbrev ptr (b:Nat):Value:=.pointer (some ⟨b,0,none⟩)
def ptrR:Value→Option (DataW Unit × List MemPlace)
 | .pointer (some ⟨b,0,none⟩)=>some (.lit (.int .i64 b),[])
 | .pointer none=>some (.nil,[])
 | _=>none
theorem ptrR_inv {v:Value} {d:DataW Unit} {ps:List MemPlace} (h:ptrR v=some (d,ps)):(∃ b:Nat,v=ptr b∧d=.lit (.int .i64 b))∨(v=.pointer none∧d=.nil):=by
 unfold ptrR at h
 split at h
 ·rename_i b;cases h;exact .inl ⟨b,rfl,rfl⟩
 ·cases h;exact .inr ⟨rfl,rfl⟩
 ·cases h
def MapIs (w:World) (mb:Nat) (n:Nat) (f:List UInt8→Option Nat):Prop:=∃ D,w.ownsMap Tryz.prog 9 ptrR mb n D ∧
 ∀ nm,D.atKey (.string nm) .nil=match f nm with|some b=>.lit (.int .i64 b)|none=>.nil
end Go.Proofs.YtmdacedmjbiekaaGreatDoor
