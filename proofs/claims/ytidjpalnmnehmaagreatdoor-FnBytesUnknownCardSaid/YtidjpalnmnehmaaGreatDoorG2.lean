/- Packed. -/
import Derived.Test.YtidjpalnmnehmaaGreatDoorG1
set_option maxRecDepth 99999
set_option maxHeartbeats 40000000
set_option linter.all false
namespace Wf
theorem wX {x:Sc} {t:Ty} {p:K->Reads} {Q:Fd->V->Prop} {tail r:Bs} {sk:List Nat} {k:Nat} (hp:∀ f v,Q f v->p f.kind v.bytes=some (v,[]))
  (hk:∀ m last,k<=m->last<=200->getFields x t p m last tail=some ([],sk,r)) :
  ∀ (es:List (Fd × V)) (m last:Nat),last<=200->(last::es.map (fun e=>e.1.tag)).Pairwise (· < ·) ->
   (∀ e,e∈es->t.field e.1.tag=some e.1/\e.1.tag<=200/\e.2.bytes.length<=999999/\Q e.1 e.2/\e.2.print≠aO x e.1)->es.length+k<=m ->
   getFields x t p m last (((es.map tagged).map V.bytes).flatten++tail)=some (es.map tagged,sk,r):=by
 intro es;induction es with
 | nil =>
  intro m last hl _ _ hm;simp only[List.map_nil,List.flatten_nil,List.nil_append];exact hk m last (by simpa using hm) hl
 | cons e es ih =>
  intro m last _ hpw he hm;cases m with
  | zero=>simp at hm
  | succ m =>
   obtain⟨f,v⟩:=e;obtain⟨a1,a2,a3,a4,a5⟩:=he (f,v) (by simp);simp only at a1 a2 a3 a4 a5;simp only[zaX] at hpw;obtain⟨b1,b2⟩:=List.pairwise_cons.1 hpw;have hlt:last<f.tag:=b1 f.tag (by simp);have et:(tagged (f,v)).bytes=putN f.tag++(putN v.bytes.length++v.bytes):=gH _ _;simp only[zaX,List.flatten_cons,et,zaT,getFields];rw[eI _ (by omega)];simp only;rw[if_neg (by omega),gL a3];simp only;rw[if_neg (by omega),a1];simp only;rw[lO (hp f v a4)];simp only;rw[ih m f.tag a2 b2 (fun e hx=>he e (by simp[hx])) (by simp at hm;omega)];simp only[zaL,if_neg a5];rfl
theorem yH {x:Sc} {t:Ty} {p:K->Reads} {g:Nat} (hg:t.field g=none) (h1:200<g) (h2:g<=300) :
  ∀ m last,2<=m->last<=200->getFields x t p m last (putN g++[2,7,200,0])=some ([],[g],[]):=by
 intro m last hm hl;match m,hm with
 | m+2,_ =>
  simp only[getFields];rw[eI g (by omega)];simp only;rw[if_neg (by omega)];have ht:takeN [2,7,200,0]=some ([7,200],[0]):=by decide
  rw[ht];simp only;rw[if_neg (by omega),hg];simp only[qD];rfl
theorem qA {x:Sc} {n:Nat} {nm:Bs} {t:Ty} {v:V} {g:Nat} (ht:x.find nm=some t) (h69:t.sort≠69) (h85:t.sort≠85)
  (hv:Typed x (n+1) (.ref nm) v) (hs:v.print.length<16384) (hg:t.field g=none) (h1:200<g) (h2:g<=300) :
  ∃ b0,v.bytes=b0++[0]/\getFields x t (fun k' s'=>getB x n k' s') (b0++(putN g++[2,7,200,0])).length 0 (b0++(putN g++[2,7,200,0]))=some (v.kids,[g],[]) /\
   getB x (n+1) (.ref nm) (b0++(putN g++[2,7,200,0]))=some (v,[]):=by
 obtain⟨t',ht',h⟩:=hv;rw[ht] at ht';simp only[zaE] at ht';subst ht';rcases h with⟨h,_⟩|⟨_,h,_⟩|⟨_,_,l,hpw,hl,rfl⟩
 ·exact absurd h h69
 ·exact absurd h h85
 ·have ee:(fun e:Fd × V=>V.mk 61 [] e.1.tag [e.2])=tagged:=rfl
  rw[ee] at hs ⊢;refine⟨((l.map tagged).map V.bytes).flatten,iC _,?_⟩;rw[cN] at hs;have hsz:∀ e,e∈l->e.2.print.length<16384:=by
   intro e he;have:=cV (l:=(l.map tagged).map V.print) (List.mem_map.2 ⟨_,List.mem_map.2 ⟨e,he,rfl⟩,rfl⟩);rw[eE] at this;simp only[zaF,zaD] at hs this;omega
  have hlen:∀ L:List V,(∀ u,u∈L->u.bytes≠[])->L.length<=(L.map V.bytes).flatten.length:=by
   intro L;induction L with
   | nil=>simp
   | cons u L ihL =>
    intro hL;have h1:=List.length_pos_iff.2 (hL u (by simp));have h2:=ihL (fun w hw=>hL w (by simp[hw]));simp only[zaX,List.flatten_cons,zaD,zaF];omega
  have h0:=hlen (l.map tagged) (by
   intro u hu;obtain⟨e,he,rfl⟩:=List.mem_map.1 hu;have et:(tagged e).bytes=putN e.1.tag++(putN e.2.bytes.length++e.2.bytes):=gH _ _;rw[et];obtain⟨_,_,c3,_⟩:=hl e he;have:=(bH e.1.tag (by omega)).1;intro h0;have:=congrArg List.length h0;simp only[zaD,zaM] at this;omega)
  have key:=wX (x:=x) (t:=t) (p:=fun k' s'=>getB x n k' s') (Q:=fun f v=>Typed x n f.kind v/\v.print.length<16384)
   (fun f v hv=>by have:=qK n f.kind v [] hv.1 hv.2;rwa[List.append_nil] at this) (yH hg h1 h2) l
   ((((l.map tagged).map V.bytes).flatten++(putN g++[2,7,200,0])).length) 0 (by omega)
   (List.pairwise_cons.2 ⟨by
    intro a ha;obtain⟨e,he,rfl⟩:=List.mem_map.1 ha;exact(hl e he).1,hpw⟩)
   (fun e he=>by
    obtain⟨_,c2,c3,c4,c5⟩:=hl e he;have:=eC n _ _ c4 (hsz e he);have:=hsz e he;exact⟨c2,c3,by omega,⟨c4,hsz e he⟩,c5⟩)
   (by simp only[zaG,zaD,zaF,zaM] at h0 ⊢;omega)
  refine⟨key,?_⟩;simp only[getB,ht,eD,if_neg h69,if_neg h85];rw[key];rfl
end Wf

namespace Wf
def nxt (x:Sc) (t:Ty):Option Ty :=
 if t.sort≠85 then none else
 match t.fields with
 | []=>none
 | f::_ =>
  match f.kind with
  | .ref nm=>x.find nm
  | _=>none
theorem endsIn_succ (x:Sc) (n:Nat) (t:Ty):endsIn x (n+1) t=(match nxt x t with|none=>true|some u=>endsIn x n u):=by
 simp only[endsIn,nxt];split
 ·rfl
 ·cases t.fields with
  | nil=>rfl
  | cons f fs =>
   simp only;cases f.kind with
   | ref nm=>simp only;cases x.find nm <;> rfl
   | num=>rfl
   | txt=>rfl
   | flag=>rfl
   | list k=>rfl
   | opt k=>rfl
theorem gZ {x:Sc}:∀ (n:Nat) (t:Ty),endsIn x n t=true->∀ m,n<=m->endsIn x m t=true:=by
 intro n;induction n with
 | zero=>intro t h;simp[endsIn] at h
 | succ n ih =>
  intro t h m hm;cases m with
  | zero=>omega
  | succ m =>
   rw[endsIn_succ] at h ⊢;cases hn:nxt x t with
   | none=>rfl
   | some u=>rw[hn] at h;exact ih u h m (by omega)
def walked (x:Sc):Nat->Ty->List Ty
 | 0,_=>[]
 | n+1,t=>t::(match nxt x t with|none=>[]|some u=>walked x n u)
theorem kS {x:Sc}:∀ (n:Nat) (t:Ty),endsIn x n t=true->endsIn x (walked x n t).length t=true/\(∀ m,endsIn x m t=true->(walked x n t).length<=m):=by
 intro n;induction n with
 | zero=>intro t h;simp[endsIn] at h
 | succ n ih =>
  intro t h;rw[endsIn_succ] at h;simp only[walked];cases hn:nxt x t with
  | none =>
   refine⟨by simp[endsIn_succ,hn],fun m hm=>?_⟩;cases m with
   | zero=>simp[endsIn] at hm
   | succ m=>simp
  | some u =>
   rw[hn] at h;obtain⟨h1,h2⟩:=ih u h;simp only[zaF];refine⟨by rw[endsIn_succ,hn];exact h1,fun m hm=>?_⟩;cases m with
   | zero=>simp[endsIn] at hm
   | succ m =>
    rw[endsIn_succ,hn] at hm;have:=h2 m hm;omega
theorem a5Z {x:Sc}:∀ (n:Nat) (t:Ty),endsIn x n t=true->∀ v,v∈walked x n t->endsIn x (walked x n t).length v=true/\(v≠t->endsIn x ((walked x n t).length-1) v=true):=by
 intro n;induction n with
 | zero=>intro t h;simp[endsIn] at h
 | succ n ih =>
  intro t h v hv;have hl:=(kS (n+1) t h).1;rw[endsIn_succ] at h;simp only[walked] at hv hl ⊢;cases hn:nxt x t with
  | none =>
   rw[hn] at hv;simp only[List.mem_singleton] at hv;subst hv;rw[hn] at hl;exact⟨hl,fun e=>absurd rfl e⟩
  | some u =>
   rw[hn] at hv h hl;simp only at h;rcases List.mem_cons.1 hv with rfl|hv
   ·exact⟨hl,fun e=>absurd rfl e⟩
   ·obtain⟨a1,_⟩:=ih u h v hv
    simp only[zaF,Nat.add_sub_cancel];exact⟨gZ _ _ a1 _ (by omega),fun _=>a1⟩
theorem a1P {x:Sc}:∀ (n:Nat) (t:Ty),endsIn x n t=true->(walked x n t).Nodup:=by
 intro n;induction n with
 | zero=>intro t h;simp[endsIn] at h
 | succ n ih =>
  intro t h;have h0:=h;rw[endsIn_succ] at h;simp only[walked];cases hn:nxt x t with
  | none=>simp
  | some u =>
   rw[hn] at h;simp only at h;refine List.nodup_cons.2 ⟨fun hm=>?_,ih u h⟩;obtain⟨a1,_⟩:=a5Z n u h t hm;have:=(kS (n+1) t h0).2 _ a1;simp only[walked,hn,zaF] at this;omega
theorem a5M {x:Sc} {t u:Ty} (h:nxt x t=some u):u∈x:=by
 unfold nxt at h;split at h
 ·simp at h
 ·split at h
  ·simp at h
  ·split at h
   ·exact(bK h).1
   ·simp at h
theorem vF {x:Sc}:∀ (n:Nat) (t:Ty),t∈x->∀ v,v∈walked x n t->v∈x:=by
 intro n;induction n with
 | zero=>intro t _ v h;simp[walked] at h
 | succ n ih =>
  intro t ht v hv;simp only[walked] at hv;rcases List.mem_cons.1 hv with rfl|hv
  ·exact ht
  ·cases hn:nxt x t with
   | none=>rw[hn] at hv;simp at hv
   | some u=>rw[hn] at hv;exact ih u (a5M hn) v hv
theorem vX {α:Type} [DecidableEq α]:∀ (l x:List α),l.Nodup->(∀ a,a∈l->a∈x)->l.length<=x.length:=by
 intro l;induction l with
 | nil=>intro x _ _;simp
 | cons a l ih =>
  intro x hn hs;obtain⟨h1,h2⟩:=List.nodup_cons.1 hn;have ha:=hs a (by simp);have:=ih (x.erase a) h2 (fun b hb=>(List.mem_erase_of_ne (fun e=>h1 (by rw[<-e];exact hb))).2 (hs b (by simp[hb])));rw[List.length_erase_of_mem ha] at this;have:=List.length_pos_of_mem ha;simp only[zaF];omega
theorem qH {x:Sc} {t:Ty} (ht:t∈x) {n:Nat} (h:endsIn x n t=true):endsIn x x.length t=true:=by
 have h1:=(kS n t h).1;have h2:=vX _ x (a1P n t h) (vF n t ht);exact gZ _ _ h1 _ h2
theorem a2P {x:Sc} (hx:∀ t,t∈x->TyOk t):∀ (n m:Nat) (t:Ty) (nm:Bs),x.find nm=some t->endsIn x n t=true->n<=m->stands x m (.ref nm)=stands x n (.ref nm):=by
 intro n;induction n with
 | zero=>intro m t nm _ h;simp[endsIn] at h
 | succ n ih =>
  intro m t nm ht h hm;cases m with
  | zero=>omega
  | succ m =>
   simp only[stands,ht];split
   ·rfl
   ·rename_i h82
    split
    ·rfl
    ·rename_i f fs hf
     split
     ·rfl
     ·rename_i h69
      by_cases h85:t.sort=85
      ·rw[endsIn_succ] at h
       have hn:nxt x t=(match f.kind with | .ref nm=>x.find nm|_=>none):=(by simp[nxt,h85,hf]);rw[hn] at h;cases hk:f.kind with
       | ref nm2 =>
        rw[hk] at h;simp only at h;cases hu:x.find nm2 with
        | none=>cases m <;> cases n <;> simp[stands,hu]
        | some u =>
         rw[hu] at h;simp only at h;rw[ih m u nm2 hu h (by omega)]
       | num=>cases m <;> cases n <;> simp[stands]
       | txt=>cases m <;> cases n <;> simp[stands]
       | flag=>cases m <;> cases n <;> simp[stands]
       | list k=>cases m <;> cases n <;> simp[stands]
       | opt k=>cases m <;> cases n <;> simp[stands]
      ·rcases(hx t (bK ht).1).sort with h|h|h
       ·exact absurd h h82
       ·exact absurd h h85
       ·exact absurd h h69
end Wf

namespace Wf
def mapTys:List Bs->Option (List Ty)
 | []=>some []
 | s::l =>
  match lineTy s with
  | none=>none
  | some t=>(mapTys l).map (t :: ·)
def dI (x:List Ty):Bool:=decide ((x.map (·.name)).Pairwise (· ≠ ·))
theorem addTys_eq:∀ (l:List Bs) (acc:List Ty),acc.length<=8->(acc.map (·.name)).Pairwise (· ≠ ·) ->
  addTys acc l=if acc.length+l.length<=8 then (match mapTys l with|none=>none|some r=>if dI (acc++r)=true then some (acc++r) else none) else none:=by
 intro l;induction l with
 | nil=>intro acc h hn;simp[addTys,mapTys,h,dI,hn]
 | cons s l ih =>
  intro acc h hn;simp only[addTys,mapTys,zaF];by_cases h8:acc.length=8
  ·rw[if_pos h8,if_neg (by omega)]
  ·rw[if_neg h8]
   cases ht:lineTy s with
   | none=>simp
   | some t =>
    simp only;by_cases ha:acc.any (fun u=>u.name==t.name)=true
    ·rw[if_pos ha]
     simp only[List.any_eq_true,beq_iff_eq] at ha;obtain⟨u,hu,hut⟩:=ha;split
     ·cases mapTys l with
      | none=>rfl
      | some r =>
       simp only[zaL];rw[if_neg];simp only[dI,decide_eq_true_eq,List.map_append,zaX];intro hp;exact(List.pairwise_append.1 hp).2.2 u.name (List.mem_map.2 ⟨u,hu,rfl⟩) t.name (by simp) hut
     ·rfl
    ·rw[if_neg ha]
     simp only[List.any_eq_true,beq_iff_eq,not_exists,not_and] at ha;rw[ih (acc++[t]) (by simp;omega) (by
      rw[List.map_append];refine List.pairwise_append.2 ⟨hn,by simp,?_⟩;intro a hx b hb;obtain⟨g,hg,rfl⟩:=List.mem_map.1 hx;simp only[zaX,List.map_nil,List.mem_singleton] at hb;subst hb;exact ha g hg)]
     simp only[zaD,zaF,zaM];by_cases hl:acc.length+(l.length+1)<=8
     ·rw[if_pos (by omega),if_pos hl]
      cases mapTys l with
      | none=>rfl
      | some r=>simp
     ·rw[if_neg (by omega),if_neg hl]
def mF (s:Bs):Option Sc :=
 if 400<s.length\/9<(cutAt 10 s).length\/(cutAt 10 s).getLast? ≠ some [] then none else
 match mapTys (cutAt 10 s).dropLast with
 | none=>none
 | some x=>if dI x=true/\cB x=true/\x.all (endsIn x (x.length+1))=true then some x else none
theorem vP (s:Bs):mF s=schemaOf s:=by
 unfold mF schemaOf;by_cases h1:400<s.length
 ·simp[h1]
 ·by_cases h2:(cutAt 10 s).getLast? ≠ some []
  ·simp[h1,h2]
  ·have hlen:=List.length_pos_iff.2 (cH 10 s)
   have hdl:(cutAt 10 s).dropLast.length=(cutAt 10 s).length-1:=(by simp);rw[addTys_eq _ _ (by simp) (by simp)];simp only[h1,h2,if_false,or_false,false_or,zaM,Nat.zero_add,List.nil_append];by_cases h3:9<(cutAt 10 s).length
   ·rw[if_pos h3,if_neg (by omega)]
   ·rw[if_neg h3,if_pos (by omega)]
    cases hm:mapTys (cutAt 10 s).dropLast with
    | none=>rfl
    | some x =>
     have hxl:x.length<=8:=by
      have:∀ (l:List Bs) (r:List Ty),mapTys l=some r->r.length=l.length:=by
       intro l;induction l with
       | nil=>intro r h;simp[mapTys] at h;subst h;rfl
       | cons a l ih =>
        intro r h;simp only[mapTys] at h;split at h
        ·simp at h
        ·cases hr:mapTys l with
         | none=>rw[hr] at h;simp at h
         | some r'=>rw[hr] at h;simp at h;subst h;simp[ih r' hr]
      have:=this _ _ hm;omega
     simp only;by_cases hn:dI x=true
     ·simp only[hn,true_and,if_true]
      have he:x.all (endsIn x (x.length+1))=x.all (endsIn x 9):=by
       rw[Bool.eq_iff_iff,List.all_eq_true,List.all_eq_true];constructor
       ·intro h t ht;exact gZ _ _ (h t ht) _ (by omega)
       ·intro h t ht;exact gZ _ _ (qH ht (h t ht)) _ (by omega)
      rw[he]
     ·simp[hn]
end Wf

namespace Wf
abbrev Asc (es:List (Fd × V)):Prop:=(es.map (fun e=>e.1.tag)).Pairwise (· < ·)
theorem mS {x:Sc} {nm:Bs} (h:aL x (.ref nm)=true):∃ t,x.find nm=some t:=by
 simp only[aL,K.base,K.name,ne_eq,not_true_eq_false,decide_false,Bool.false_or] at h;exact Option.isSome_iff_exists.1 h
theorem gW {x:Sc} (hx:ScOk x):lD x:=by
 intro nm t ht g f hf;obtain⟨h1,_⟩:=eK hf;have:=((hx.tys t (bK ht).1).fds f h1);exact⟨this.tag1,this.tag2⟩
end Wf

namespace Wf
theorem dP {x:Sc} {n:Nat} {k:K} {s r:Bs} {v:V} (h:parse x n k s=some (v,r)):r.length<s.length:=by
 obtain⟨ht,hs⟩:=eH n k s v r h;obtain⟨c,t,hc,_⟩:=iY ht;rw[hs,hc];simp;omega
theorem nH {p:Reads} (hp:∀ s v r,p s=some (v,r)->r.length<s.length):∀ (m m':Nat) (s:Bs),s.length<=m->s.length<=m'->itemsW p m s=itemsW p m' s:=by
 intro m;induction m with
 | zero =>
  intro m' s h1 h2;cases m' with
  | zero=>rfl
  | succ m' =>
   have hs:s=[]:=List.eq_nil_of_length_eq_zero (by omega);subst hs;simp only[itemsW];cases hq:p [] with
   | none=>rfl
   | some y=>have:=hp [] y.1 y.2 hq;simp at this
 | succ m ih =>
  intro m' s h1 h2;cases m' with
  | zero =>
   have hs:s=[]:=List.eq_nil_of_length_eq_zero (by omega);subst hs;simp only[itemsW];cases hq:p [] with
   | none=>rfl
   | some y=>have:=hp [] y.1 y.2 hq;simp at this
  | succ m' =>
   simp only[itemsW];cases hq:p s with
   | none=>rfl
   | some y =>
    obtain⟨v,rest⟩:=y;have hlt:=hp s v rest hq;dsimp only;split
    ·rename_i r
     simp only[zaF] at hlt;rw[ih m' r (by omega) (by omega)]
    ·rfl
    ·rfl
def items (p:Reads) (s:Bs):Option (List V × Bs):=itemsW p s.length s
theorem items_step {p:Reads} (hp:∀ s v r,p s=some (v,r)->r.length<s.length) (s:Bs):items p s=match p s with
  | none=>none
  | some (v,rest) =>
   match rest with
   | 44::r=>(items p r).map fun x=>(v::x.1,x.2)
   | 93::r=>some ([v],r)
   | _=>none:=by
 unfold items;rw[nH hp s.length (s.length+1) s (zaA) (by omega)];simp only[itemsW];cases hq:p s with
 | none=>rfl
 | some y =>
  obtain⟨v,rest⟩:=y;have hlt:=hp s v rest hq;dsimp only;split
  ·rename_i r
   simp only[zaF] at hlt;rw[nH hp s.length r.length r (by omega) (zaA)];rfl
  ·rfl
  ·rename_i h1 h2
   split
   ·exact(h1 _ rfl).elim
   ·exact(h2 _ rfl).elim
   ·rfl
theorem xH {p:Reads} (hp:∀ s v r,p s=some (v,r)->r.length<s.length) {s:Bs} {l:List V} {q:Bs} (h:items p s=some (l,q)):l≠[]:=by
 rw[items_step hp] at h;split at h
 ·cases h
 ·split at h
  ·rw[Option.map_eq_some_iff] at h
   obtain⟨y,_,hy⟩:=h;simp only[zaK] at hy;rw[<-hy.1];simp
  ·simp only[zaE,zaK] at h
   rw[<-h.1];simp
  ·cases h
theorem iF {most n:Nat} {s r:Bs} (h:aM most s=some (n,r)):r.length<s.length:=by
 obtain⟨m,h1,h2⟩:=Option.map_eq_some_iff.1 h;simp only[zaK] at h2;have hne:s.takeWhile aB≠[]:=by
  intro e;rw[e] at h1;simp[aH] at h1
 have:=congrArg List.length (List.takeWhile_append_dropWhile (p:=aB) (l:=s));rw[zaD] at this;have h3:=List.length_pos_iff.2 hne;rw[<-h2.2];omega
theorem jI {t:Ty} {p:K->Reads} (hp:∀ k s v r,p k s=some (v,r)->r.length<s.length) {s r:Bs} {f:Fd} {v:V} (h:fieldTok t p s=some (f,v,r)):r.length+2<s.length:=by
 unfold fieldTok at h;cases hn:aM 200 s with
 | none=>rw[hn] at h;cases h
 | some y =>
  obtain⟨tag,rest⟩:=y;have h1:=iF hn;rw[hn] at h;dsimp only at h;split at h
  ·rename_i q f' hf
   simp only[zaF] at h1;obtain⟨y,hy,h2⟩:=Option.map_eq_some_iff.1 h;simp only[zaK] at h2;have:=hp _ _ _ _ hy;rw[<-h2.2.2];omega
  ·cases h
theorem oE {x:Sc} {t:Ty} {p:K->Reads} (hp:∀ k s v r,p k s=some (v,r)->r.length<s.length):∀ (m m' last:Nat) (s:Bs),s.length<=m->s.length<=m'->fieldsW x t p m last s=fieldsW x t p m' last s:=by
 intro m;induction m with
 | zero =>
  intro m' last s h1 h2;cases m' with
  | zero=>rfl
  | succ m' =>
   have hs:s=[]:=List.eq_nil_of_length_eq_zero (by omega);subst hs;simp only[fieldsW];cases hq:fieldTok t p [] with
   | none=>rfl
   | some y=>have:=jI hp hq;simp at this
 | succ m ih =>
  intro m' last s h1 h2;cases m' with
  | zero =>
   have hs:s=[]:=List.eq_nil_of_length_eq_zero (by omega);subst hs;simp only[fieldsW];cases hq:fieldTok t p [] with
   | none=>rfl
   | some y=>have:=jI hp hq;simp at this
  | succ m' =>
   simp only[fieldsW];cases hq:fieldTok t p s with
   | none=>rfl
   | some y =>
    obtain⟨f,v,rest⟩:=y;have hlt:=jI hp hq;dsimp only;split
    ·rfl
    ·split
     ·rename_i r
      simp only[zaF] at hlt;rw[ih m' _ r (by omega) (by omega)]
     ·rfl
     ·rfl
def flds (x:Sc) (t:Ty) (p:K->Reads) (last:Nat) (s:Bs):Option (List V × Bs):=fieldsW x t p s.length last s
theorem flds_step {x:Sc} {t:Ty} {p:K->Reads} (hp:∀ k s v r,p k s=some (v,r)->r.length<s.length) (last:Nat) (s:Bs):flds x t p last s=match fieldTok t p s with
  | none=>none
  | some (f,v,rest) =>
   if f.tag<=last\/v.print=aO x f then none else
   match rest with
   | 44::r=>(flds x t p f.tag r).map fun y=>(.mk 61 [] f.tag [v]::y.1,y.2)
   | 125::r=>some ([.mk 61 [] f.tag [v]],r)
   | _=>none:=by
 unfold flds;rw[oE hp s.length (s.length+1) last s (zaA) (by omega)];simp only[fieldsW];cases hq:fieldTok t p s with
 | none=>rfl
 | some y =>
  obtain⟨f,v,rest⟩:=y;have hlt:=jI hp hq;dsimp only;split
  ·rfl
  ·split
   ·rename_i r
    simp only[zaF] at hlt;rw[oE hp s.length r.length _ r (by omega) (zaA)];rfl
   ·rfl
   ·rename_i h1 h2
    split
    ·exact(h1 _ rfl).elim
    ·exact(h2 _ rfl).elim
    ·rfl
def valIn (x:Sc) (k:K) (s:Bs):Option V:=if s.length<=400 then (match parse x 12 k s with|some (v,[])=>some v|_=>none) else none
theorem sV {x:Sc} {k:K} {s:Bs} (h:¬ s.length<=400):valIn x k s=none:=by rw[valIn,if_neg h]
theorem a2H {x:Sc} {k:K} {s:Bs} (h:s.length<=400):valIn x k s=match parse x 401 k s with
  | some (v,r)=>if r=[]/\v.deep<=12 then some v else none
  | none=>none:=by
 rw[valIn,if_pos h,vU 12 401 (by omega) k s];cases parse x 401 k s with
 | none=>rfl
 | some y =>
  obtain⟨v,r⟩:=y;by_cases hd:v.deep<=12
  ·simp only[zaP,hd,decide_true,if_true]
   cases r <;> simp
  ·simp only[zaP,hd,decide_false]
   simp
theorem gT {x:Sc} {k:K} {s:Bs} {v:V} (h:valIn x k s=some v):Typed x 12 k v/\s=v.print/\s.length<=400:=by
 unfold valIn at h;split at h
 ·rename_i hs
  split at h
  ·rename_i v' hp
   cases h;obtain⟨h1,h2⟩:=eH _ _ _ _ _ hp;exact⟨h1,by simpa using h2,hs⟩
  ·cases h
 ·cases h
theorem a5T {x:Sc} {n:Nat} {k:K} {v:V} (h:Typed x n k v) (hd:v.deep<=12) (hs:v.print.length<=400):valIn x k v.print=some v:=by
 have h12:=a0Y n k v h 12 hd;have:=wH 12 k v [] h12 (by intro c hc;simp at hc);rw[List.append_nil] at this;rw[valIn,if_pos hs,this]
end Wf

namespace Wf
theorem jV (x:Sc) (n:Nat) (s:Bs):parse x (n+1) .num s=(aM 999999 s).map fun y=>(.mk 110 (dec y.1) 0 [],y.2):=by simp only[parse]
theorem mL (x:Sc) (n:Nat) {s r q:Bs} (h1:s=39::r) (h2:r.dropWhile aG=39::q) (h3:(r.takeWhile aG).length<=12):parse x (n+1) .txt s=some (.mk 116 (r.takeWhile aG) 0 [],q):=by
 subst h1;simp only[parse,h2,h3,if_true]
theorem kR (x:Sc) (n:Nat) {s:Bs} (h:s.head? ≠ some 39):parse x (n+1) .txt s=none:=by
 simp only[parse];split
 ·simp at h
 ·rfl
theorem mV (x:Sc) (n:Nat) {s r:Bs} (h1:s=39::r) (h2:(r.dropWhile aG).head? ≠ some 39):parse x (n+1) .txt s=none:=by
 subst h1;simp only[parse];split
 ·rename_i q hq
  rw[hq] at h2;simp at h2
 ·rfl
theorem rW (x:Sc) (n:Nat) {s r:Bs} (h1:s=39::r) (h3:¬ (r.takeWhile aG).length<=12):parse x (n+1) .txt s=none:=by
 subst h1;simp only[parse,h3,if_false];split <;> rfl
theorem parse_list (x:Sc) (n:Nat) (k:K) (s:Bs):parse x (n+1) (.list k) s=match s with
  | 91::r=>(match r with
   | 93::q=>some (.mk 91 [] 0 [],q)
   | _=>match items (parse x n k) r with
    | none=>none
    | some (l,q)=>if l.length<=20 then some (.mk 91 [] 0 l,q) else none)
  | _=>none:=by
 simp only[parse,items];rfl
theorem parse_opt (x:Sc) (n:Nat) (k:K) (s:Bs):parse x (n+1) (.opt k) s=match s with
  | 45::q=>some (.mk 63 [] 0 [],q)
  | 43::r=>(parse x n k r).map fun y=>(.mk 63 [] 0 [y.1],y.2)
  | _=>none:=by
 simp only[parse];rfl
theorem dX (x:Sc) (n:Nat) (nm:Bs) (t:Ty) (h:x.find nm=some t) (s:Bs):parse x (n+1) (.ref nm) s=parseTy x (fun k' s'=>parse x n k' s') t s:=by
 simp only[parse];rw[h]
theorem parseTy_rec (x:Sc) (p:K->Reads) (t:Ty) (s:Bs) (h:t.sort=82):parseTy x p t s=match s with
  | 123::r=>(match r with
   | 125::q=>some (.mk 82 [] 0 [],q)
   | _=>(flds x t p 0 r).map fun y=>(.mk 82 [] 0 y.1,y.2))
  | _=>none:=by
 unfold parseTy flds;rw[if_neg (by rw[h];decide),if_neg (by rw[h];decide)];rfl
theorem parseTy_uni (x:Sc) (p:K->Reads) (t:Ty) (s:Bs) (h:t.sort=85):parseTy x p t s=match s with
  | 60::r=>(match fieldTok t p r with
   | some (f,v,rest)=>closeU f.tag v rest
   | none=>none)
  | _=>none:=by
 unfold parseTy;rw[if_neg (by rw[h];decide),if_pos h];rfl
theorem parseTy_enm (x:Sc) (p:K->Reads) (t:Ty) (s:Bs) (h:t.sort=69):parseTy x p t s=match s with
  | 35::r=>(match aM 200 r with
   | none=>none
   | some (tag,rest)=>if (t.field tag).isSome then some (.mk 69 [] tag [],rest) else none)
  | _=>none:=by
 unfold parseTy;rw[if_pos h];rfl
def Badv (s r:Bs) (v:V):Prop:=v.print.length+8*r.length<=8*s.length+8/\r.length<=s.length
theorem a5L:(V.mk 0 [] 0 []).print=[]:=by simp[V.print,form]
theorem a0K {s r:Bs} {m:Nat} (hm:m<=999999) (h:r.length<=s.length):Badv s r (.mk 110 (dec m) 0 []):=by
 refine⟨?_,h⟩;rw[eR];have:=bW hm;omega
theorem a5Y {s r t:Bs} (h:t.length+r.length<=s.length):Badv s r (.mk 116 t 0 []):=by
 refine⟨?_,by omega⟩;rw[eM];simp;omega
theorem wW {s r t:Bs} (ht:t.length<=3) (h:r.length<=s.length):Badv s r (.mk 102 t 0 []):=by
 refine⟨?_,h⟩;rw[cQ];omega
theorem a5H {s r:Bs} {g:Nat} (hg:g<=999999) (h:r.length<=s.length):Badv s r (.mk 69 [] g []):=by
 refine⟨?_,h⟩;rw[eT];have:=bW hg;simp;omega
theorem a2L {s r q:Bs} {c:UInt8} {v:V} (hs:s=c::q) (h:Badv q r v):Badv s r (.mk 63 [] 0 [v]):=by
 obtain⟨h1,h2⟩:=h;subst hs;refine⟨?_,by simp;omega⟩;rw[dA];simp;omega
theorem a4I {s:Bs}:Badv s s (.mk 63 [] 0 [.mk 0 [] 0 []]):=by
 refine⟨?_,zaA⟩;rw[dA,a5L];simp;omega
theorem a3O {s r:Bs} (h:r.length<=s.length):Badv s r (.mk 85 [] 0 []):=by
 refine⟨?_,h⟩;have:(V.mk 85 [] 0 []).print=[60,48,61,62]:=by
  simp[V.print,form,V.prints,commas];rw[dec_lt (by omega)];decide
 rw[this];simp;omega
def pl (l:List V):Nat:=(l.map V.print).flatten.length+l.length
theorem kC:pl []=0:=rfl
theorem gM (l:List V) (v:V):pl (l++[v])=pl l+v.print.length+1:=by
 unfold pl;simp;omega
theorem kT {l:List V} (h:l≠[]):(commas (l.map V.print)).length+1=pl l:=by
 rw[gK _ (by simpa using h),pl,zaG]
theorem jR {w:UInt8} (hw:w=91\/w=82) (l:List V):(V.mk w [] 0 l).print.length=(commas (l.map V.print)).length+2:=by
 rcases hw with rfl|rfl
 ·rw[dD];simp
 ·rw[cN];simp
theorem sZ {w:UInt8} (hw:w=91\/w=82) {s s0 s1 r:Bs} {l:List V} {u:V} (h0:s.length=s0.length+1) (h1:pl l+s1.length=s0.length) (h:Badv s1 r u):Badv s r (.mk w [] 0 (l++[u])):=by
 obtain⟨h2,h3⟩:=h;refine⟨?_,by omega⟩;rw[jR hw];have:=kT (l:=l++[u]) (by simp);rw[gM] at this;omega
theorem lH {w:UInt8} (hw:w=91\/w=82) {s s0 r:Bs} {l:List V} (h0:s.length=s0.length+1) (hl:l≠[]) (h1:pl l+r.length<=s0.length+1):Badv s r (.mk w [] 0 l):=by
 have h2:=kT hl;have h3:1<=pl l:=by unfold pl;have:=List.length_pos_iff.2 hl;omega
 refine⟨?_,by omega⟩;rw[jR hw];omega
theorem kM {w:UInt8} (hw:w=91\/w=82) {s r:Bs} (h:r.length<=s.length):Badv s r (.mk w [] 0 []):=by
 refine⟨?_,h⟩;rw[jR hw];simp[commas];omega
theorem mR {s q r:Bs} {g:Nat} {u:V} (hg:g<=200) (hq:q.length+2<=s.length) (h:Badv q r u):Badv s r (.mk 61 [] g [u]):=by
 obtain⟨h1,h2⟩:=h;refine⟨?_,by omega⟩;rw[dO];have:=dZ g 2 (by omega);simp;omega
theorem oS {s q r:Bs} {c:UInt8} {g:Nat} {u:V} (hs:s=c::q) (h:Badv q r (.mk 61 [] g [u])):Badv s r (.mk 85 [] g [u]):=by
 obtain⟨h1,h2⟩:=h;subst hs;refine⟨?_,by simp;omega⟩;rw[dO] at h1;rw[dH];simp at h1 ⊢;omega
end Wf

namespace Wf
def bI (c:UInt8):Bool:=c != 39
theorem a4T {c:UInt8} (h:aG c=true):bI c=true:=by
 unfold bI;rw[bne_iff_ne];intro e;rw[e,iS] at h;cases h
theorem rL {p q:UInt8->Bool} (hpq:∀ c,p c=true->q c=true):∀ (b:Bs) (c:UInt8) (r:Bs),b.all p=true->q c=false->(b++c::r).takeWhile q=b/\(b++c::r).dropWhile q=c::r:=by
 intro b;induction b with
 | nil=>intro c r _ hc;simp[hc]
 | cons a b ih =>
  intro c r hb hc;simp only[List.all_cons,Bool.and_eq_true] at hb;obtain⟨h1,h2⟩:=ih c r hb.2 hc;simp[hpq a hb.1,h1,h2]
def cR (s:Bs):Nat:=min (1+(s.tail.takeWhile bI).length+1) s.length
theorem a4R (s:Bs):cR s<=s.length:=Nat.min_le_right _ _
theorem a6E (x:Sc) (n:Nat) (c0:UInt8) (r:Bs):parse x (n+1) .txt (c0::r)=if quoted ((c0::r).take (cR (c0::r)))=true then some (.mk 116 ((c0::r).take (cR (c0::r))).tail.dropLast 0 [],(c0::r).drop (cR (c0::r))) else none:=by
 have hsp:=List.takeWhile_append_dropWhile (p:=bI) (l:=r);cases hd:r.dropWhile bI with
 | nil =>
  rw[hd,List.append_nil] at hsp;have hno:(39:UInt8) ∉ r:=by
   intro hm;rw[<-hsp] at hm;have hall:(r.takeWhile bI).all bI=true:=List.all_takeWhile;have:=List.all_eq_true.1 hall 39 hm;simp[bI] at this
  have he:cR (c0::r)=(c0::r).length:=by
   unfold cR;rw[List.tail_cons,hsp];simp
  rw[he,List.take_length,if_neg]
  ·by_cases h0:c0=39
   ·subst h0
    refine mV x n rfl ?_;intro h;have hm:(39:UInt8)∈r.dropWhile aG:=List.mem_of_head? h;exact hno ((List.dropWhile_sublist _).subset hm)
   ·exact kR x n (by simpa using h0)
  ·intro hq
   obtain⟨b,hb,_,_⟩:=fG.1 hq;simp only[List.cons.injEq] at hb;exact hno (by rw[hb.2];simp)
 | cons d q =>
  have hd39:d=39:=by
   have:=List.head?_dropWhile_not (p:=bI) (l:=r);rw[hd] at this;simpa[bI] using this
  subst hd39;rw[hd] at hsp;obtain⟨b,hbdef⟩:∃ b,r.takeWhile bI=b:=⟨_,rfl⟩;rw[hbdef] at hsp;have he:cR (c0::r)=b.length+2:=by
   unfold cR;rw[List.tail_cons,hbdef,<-hsp];simp;omega
  have ht:(c0::r).take (b.length+2)=c0::(b++[39]):=by
   rw[<-hsp,List.take_succ_cons,List.take_append,zaS (by omega)];simp
  have hdr:(c0::r).drop (b.length+2)=q:=by
   rw[<-hsp,List.drop_succ_cons,List.drop_append,List.drop_of_length_le (by omega)];simp
  rw[he,ht,hdr];have htl:(c0::(b++[39])).tail.dropLast=b:=by simp
  rw[htl];have hb39:b.all bI=true:=by rw[<-hbdef];exact List.all_takeWhile
  by_cases h0:c0=39
  ·subst h0
   by_cases hall:b.all aG=true
   ·obtain⟨e1,e2⟩:=rL (p:=aG) (q:=aG) (fun _ h=>h) b 39 q hall iS
    rw[hsp] at e1 e2;by_cases hl:b.length<=12
    ·rw[if_pos (fG.2 ⟨b,rfl,hall,hl⟩),mL x n rfl e2 (by rw[e1];exact hl),e1]
    ·rw[if_neg,rW x n rfl (by rw[e1];exact hl)]
     intro hq;obtain⟨b',hb',_,h12⟩:=fG.1 hq;simp only[List.cons.injEq,true_and] at hb';have:=congrArg List.length hb';simp at this;omega
   ·rw[if_neg]
    ·refine mV x n rfl ?_
     intro h;cases hdd:r.dropWhile aG with
     | nil=>rw[hdd] at h;simp at h
     | cons d2 q2 =>
      rw[hdd] at h;simp only[List.head?_cons,zaE] at h;subst h;have hs2:=List.takeWhile_append_dropWhile (p:=aG) (l:=r);rw[hdd] at hs2;have ha2:(r.takeWhile aG).all aG=true:=List.all_takeWhile;obtain⟨e1,_⟩:=rL (p:=aG) (q:=bI) (fun _ h=>a4T h) (r.takeWhile aG) 39 q2 ha2 (by decide);rw[hs2,hbdef] at e1;rw[e1] at hall;exact hall ha2
    ·intro hq
     obtain⟨b',hb',ha,_⟩:=fG.1 hq;simp only[List.cons.injEq,true_and] at hb';have:=List.append_inj_left' hb' rfl;rw[this] at hall;exact hall ha
  ·rw[if_neg,kR x n (by simpa using h0)]
   intro hq;obtain⟨b',hb',_,_⟩:=fG.1 hq;simp only[List.cons.injEq] at hb';exact h0 hb'.1
end Wf

namespace Wf
theorem tM (x:Sc) (n:Nat) (q:Bs):parse x (n+1) .flag (121::101::115::q)=some (.mk 102 [121,101,115] 0 [],q):=by simp only[parse]
theorem rT (x:Sc) (n:Nat) (q:Bs):parse x (n+1) .flag (110::111::q)=some (.mk 102 [110,111] 0 [],q):=by simp only[parse]
theorem qN (x:Sc) (n:Nat) {s:Bs} (h1:¬ [121,101,115] <+: s) (h2:¬ [110,111] <+: s):parse x (n+1) .flag s=none:=by
 simp only[parse];split
 ·rename_i q;exact absurd ⟨q,rfl⟩ h1
 ·rename_i q;exact absurd ⟨q,rfl⟩ h2
 ·rfl
theorem sH (x:Sc) (n:Nat) (k:K):parse x n k []=none:=by
 cases hp:parse x n k [] with
 | none=>rfl
 | some y=>have:=dP (v:=y.1) (r:=y.2) hp;simp at this
theorem a5K (x:Sc) (k:K) (s:Bs):parse x 0 k s=none:=rfl
def itemsL (p:Reads) (acc:List V) (s:Bs):Option (List V × Bs):=match items p s with
 | some (l,q)=>if acc.length+l.length<=20 then some (acc++l,q) else none
 | none=>none
theorem itemsL_step {p:Reads} (hp:∀ s v r,p s=some (v,r)->r.length<s.length) (acc:List V) (s:Bs):itemsL p acc s=match p s with
  | none=>none
  | some (v,rest) =>
   match rest with
   | 44::r=>itemsL p (acc++[v]) r
   | 93::r=>if acc.length+1<=20 then some (acc++[v],r) else none
   | _=>none:=by
 unfold itemsL;rw[items_step hp];cases hq:p s with
 | none=>rfl
 | some y =>
  obtain⟨v,rest⟩:=y;dsimp only;split
  ·rename_i l q hl
   split at hl
   ·rename_i r
    rw[Option.map_eq_some_iff] at hl;obtain⟨z,hz,hz2⟩:=hl;simp only[zaK] at hz2;obtain⟨rfl,rfl⟩:=hz2;simp only[hz];simp only[zaF,zaD,zaM,zaT,zaN,List.nil_append];by_cases h20:acc.length+(z.1.length+1)<=20
    ·rw[if_pos h20,if_pos (by omega)]
    ·rw[if_neg h20,if_neg (by omega)]
   ·simp only[zaE,zaK] at hl
    obtain⟨rfl,rfl⟩:=hl;rfl
   ·cases hl
  ·rename_i hl
   split at hl
   ·rename_i r
    rw[Option.map_eq_none_iff] at hl;simp only[hl]
   ·cases hl
   ·rename_i h1 h2
    first
    | rfl
    | (split;exact(h1 _ rfl).elim;exact(h2 _ rfl).elim;rfl)
theorem a1I {p:Reads} (hp:∀ s v r,p s=some (v,r)->r.length<s.length) {acc:List V} (h:20<=acc.length) (s:Bs):itemsL p acc s=none:=by
 unfold itemsL;cases hi:items p s with
 | none=>rfl
 | some y =>
  have:=List.length_pos_iff.2 (xH hp (l:=y.1) (q:=y.2) hi);dsimp only;rw[if_neg (by omega)]
theorem a3P {p:Reads} (s:Bs):itemsL p [] s=match items p s with
  | none=>none
  | some (l,q)=>if l.length<=20 then some (l,q) else none:=by
 unfold itemsL;cases items p s with
 | none=>rfl
 | some y=>simp
theorem tU (x:Sc) (n:Nat) (k:K) {s:Bs} (h:s.head? ≠ some 91):parse x (n+1) (.list k) s=none:=by
 rw[parse_list];split
 ·simp at h
 ·rfl
theorem rX (x:Sc) (n:Nat) (k:K) (q:Bs):parse x (n+1) (.list k) (91::93::q)=some (.mk 91 [] 0 [],q):=by simp only[parse_list]
theorem sY (x:Sc) (n:Nat) (k:K) {r:Bs} (h:r.head? ≠ some 93):parse x (n+1) (.list k) (91::r)=(itemsL (parse x n k) [] r).map fun y=>(.mk 91 [] 0 y.1,y.2):=by
 simp only[parse_list];split
 ·simp at h
 ·rw[a3P]
  cases items (parse x n k) r with
  | none=>rfl
  | some y=>simp only[];split <;> rfl
theorem pM (x:Sc) (n:Nat) (k:K) (q:Bs):parse x (n+1) (.opt k) (45::q)=some (.mk 63 [] 0 [],q):=by simp only[parse_opt]
theorem tZ (x:Sc) (n:Nat) (k:K) (r:Bs):parse x (n+1) (.opt k) (43::r)=(parse x n k r).map fun y=>(.mk 63 [] 0 [y.1],y.2):=by simp only[parse_opt]
theorem uB (x:Sc) (n:Nat) (k:K) {s:Bs} (h1:s.head? ≠ some 45) (h2:s.head? ≠ some 43):parse x (n+1) (.opt k) s=none:=by
 rw[parse_opt];split
 ·simp at h1
 ·simp at h2
 ·rfl
def bX (x:Sc) (t:Ty) (p:K->Reads) (acc:List V) (last:Nat) (s:Bs):Option (List V × Bs):=(flds x t p last s).map fun y=>(acc++y.1,y.2)
theorem fldsL_step {x:Sc} {t:Ty} {p:K->Reads} (hp:∀ k s v r,p k s=some (v,r)->r.length<s.length) (acc:List V) (last:Nat) (s:Bs):bX x t p acc last s=match fieldTok t p s with
  | none=>none
  | some (f,v,rest) =>
   if f.tag<=last\/v.print=aO x f then none else
   match rest with
   | 44::r=>bX x t p (acc++[.mk 61 [] f.tag [v]]) f.tag r
   | 125::r=>some (acc++[.mk 61 [] f.tag [v]],r)
   | _=>none:=by
 unfold bX;rw[flds_step hp];cases hq:fieldTok t p s with
 | none=>rfl
 | some y =>
  obtain⟨f,v,rest⟩:=y;dsimp only;split
  ·rfl
  ·split
   ·rw[Option.map_map]
    congr 1
    funext y
    simp
   ·rfl
   ·rename_i h1 h2
    first
    | rfl
    | (split;exact(h1 _ rfl).elim;exact(h2 _ rfl).elim;rfl)
theorem nM (x:Sc) (n:Nat) {nm:Bs} {t:Ty} (h:x.find nm=some t) (h82:t.sort=82) {s:Bs} (hs:s.head? ≠ some 123):parse x (n+1) (.ref nm) s=none:=by
 rw[dX x n nm t h,parseTy_rec _ _ _ _ h82];split
 ·simp at hs
 ·rfl
theorem oY (x:Sc) (n:Nat) {nm:Bs} {t:Ty} (h:x.find nm=some t) (h82:t.sort=82) (q:Bs):parse x (n+1) (.ref nm) (123::125::q)=some (.mk 82 [] 0 [],q):=by
 simp only[dX x n nm t h,parseTy_rec _ _ _ _ h82]
theorem tA (x:Sc) (n:Nat) {nm:Bs} {t:Ty} (h:x.find nm=some t) (h82:t.sort=82) {r:Bs} (hr:r.head? ≠ some 125):parse x (n+1) (.ref nm) (123::r)=(bX x t (fun k' s'=>parse x n k' s') [] 0 r).map fun y=>(.mk 82 [] 0 y.1,y.2):=by
 simp only[dX x n nm t h,parseTy_rec _ _ _ _ h82];split
 ·simp at hr
 ·unfold bX
  rw[Option.map_map];congr 1
theorem pV (x:Sc) (n:Nat) {nm:Bs} {t:Ty} (h:x.find nm=some t) (h85:t.sort=85) {s:Bs} (hs:s.head? ≠ some 60):parse x (n+1) (.ref nm) s=none:=by
 rw[dX x n nm t h,parseTy_uni _ _ _ _ h85];split
 ·simp at hs
 ·rfl
theorem rP (x:Sc) (n:Nat) {nm:Bs} {t:Ty} (h:x.find nm=some t) (h85:t.sort=85) {r q:Bs} {f:Fd} {v:V} (hf:fieldTok t (fun k' s'=>parse x n k' s') r=some (f,v,62::q)):parse x (n+1) (.ref nm) (60::r)=some (.mk 85 [] f.tag [v],q):=by
 simp only[dX x n nm t h,parseTy_uni _ _ _ _ h85,hf];rfl
theorem pF (x:Sc) (n:Nat) {nm:Bs} {t:Ty} (h:x.find nm=some t) (h85:t.sort=85) {r q:Bs} {f:Fd} {v:V} (hf:fieldTok t (fun k' s'=>parse x n k' s') r=some (f,v,q)) (hq:q.head? ≠ some 62):parse x (n+1) (.ref nm) (60::r)=none:=by
 simp only[dX x n nm t h,parseTy_uni _ _ _ _ h85,hf];unfold closeU;split
 ·simp at hq
 ·rfl
theorem kN (x:Sc) (n:Nat) {nm:Bs} {t:Ty} (h:x.find nm=some t) (h85:t.sort=85) {r:Bs} (hf:fieldTok t (fun k' s'=>parse x n k' s') r=none):parse x (n+1) (.ref nm) (60::r)=none:=by
 simp only[dX x n nm t h,parseTy_uni _ _ _ _ h85,hf]
theorem tW (x:Sc) (n:Nat) {nm:Bs} {t:Ty} (h:x.find nm=some t) (h69:t.sort=69) {s:Bs} (hs:s.head? ≠ some 35):parse x (n+1) (.ref nm) s=none:=by
 rw[dX x n nm t h,parseTy_enm _ _ _ _ h69];split
 ·simp at hs
 ·rfl
theorem sU (x:Sc) (n:Nat) {nm:Bs} {t:Ty} (h:x.find nm=some t) (h69:t.sort=69) {r:Bs} (hr:aM 200 r=none):parse x (n+1) (.ref nm) (35::r)=none:=by
 simp only[dX x n nm t h,parseTy_enm _ _ _ _ h69,hr]
theorem mU (x:Sc) (n:Nat) {nm:Bs} {t:Ty} (h:x.find nm=some t) (h69:t.sort=69) {r q:Bs} {g:Nat} (hr:aM 200 r=some (g,q)):parse x (n+1) (.ref nm) (35::r)=if (t.field g).isSome then some (.mk 69 [] g [],q) else none:=by
 simp only[dX x n nm t h,parseTy_enm _ _ _ _ h69,hr]
theorem mN (t:Ty) (p:K->Reads) {s:Bs} (h:aM 200 s=none):fieldTok t p s=none:=by
 unfold fieldTok;rw[h]
theorem nI (t:Ty) (p:K->Reads) {s r:Bs} {g:Nat} (h:aM 200 s=some (g,r)) (hr:r.head? ≠ some 61):fieldTok t p s=none:=by
 unfold fieldTok;rw[h];dsimp only;split
 ·simp at hr
 ·rfl
theorem nL (t:Ty) (p:K->Reads) {s r:Bs} {g:Nat} (h:aM 200 s=some (g,r)) (hf:t.field g=none):fieldTok t p s=none:=by
 unfold fieldTok;simp only[h,hf]
theorem uD (t:Ty) (p:K->Reads) {s r:Bs} {g:Nat} {f:Fd} (h:aM 200 s=some (g,61::r)) (hf:t.field g=some f):fieldTok t p s=(p f.kind r).map fun y=>(f,y.1,y.2):=by
 unfold fieldTok;simp only[h,hf]
end Wf

namespace Wf
inductive BOk:V->Prop
 | mk {what:UInt8} {text:Bs} {tag:Nat} {kids:List V} (h1:what=110->∃ m,m<=999999/\text=dec m) (h2:what=116->text.length<=12) (h3:what=63->kids.length<=1) (h4:what=85\/what=61->∃ u,kids=[u]) (ht:tag<=999999) (hl:kids.length<=1000)
   (h7:what=110\/what=116\/what=102\/what=91\/what=63\/what=69\/what=85\/what=61\/what=82) (hk:∀ u,u∈kids->BOk u):BOk (.mk what text tag kids)
theorem BOk.leaf {what:UInt8} {text:Bs} {tag:Nat} (h:what=110\/what=116\/what=102\/what=91\/what=63\/what=69\/what=82) (h1:what=110->∃ m,m<=999999/\text=dec m) (h2:what=116->text.length<=12) (h3:tag<=999999):BOk (.mk what text tag []) :=
 .mk h1 h2 (fun _=>Nat.zero_le _) (fun h'=>by rcases h with rfl|rfl|rfl|rfl|rfl|rfl|rfl <;> rcases h' with h'|h' <;> exact absurd h' (by decide)) h3 (Nat.zero_le _) (by rcases h with h|h|h|h|h|h|h <;> simp[h]) (fun u hu=>absurd hu List.not_mem_nil)
theorem typed_bok {x:Sc}:∀ (n:Nat) (k:K) (v:V),Typed x n k v->BOk v:=by
 intro n;induction n with
 | zero=>intro k v h;exact h.elim
 | succ n ih =>
  intro k v h;cases k with
  | num=>obtain⟨m,hm,rfl⟩:=h;exact .leaf (.inl rfl) (fun _=>⟨m,hm,rfl⟩) (fun h=>absurd h (by decide)) (Nat.zero_le _)
  | txt=>obtain⟨b,_,hb,rfl⟩:=h;exact .leaf (.inr (.inl rfl)) (fun h=>absurd h (by decide)) (fun _=>hb) (Nat.zero_le _)
  | flag =>
   rcases h with rfl|rfl
   ·exact .leaf (.inr (.inr (.inl rfl))) (fun h=>absurd h (by decide)) (fun h=>absurd h (by decide)) (Nat.zero_le _)
   ·exact .leaf (.inr (.inr (.inl rfl))) (fun h=>absurd h (by decide)) (fun h=>absurd h (by decide)) (Nat.zero_le _)
  | list k' =>
   obtain⟨l,hl,hk,rfl⟩:=h;exact .mk (fun h=>absurd h (by decide)) (fun h=>absurd h (by decide)) (fun h=>absurd h (by decide)) (fun h=>by rcases h with h|h <;> exact absurd h (by decide)) (Nat.zero_le _) (by omega) (by simp) fun u hu=>ih k' u (hk u hu)
  | opt k' =>
   rcases h with rfl|⟨u,hu,rfl⟩
   ·exact .leaf (.inr (.inr (.inr (.inr (.inl rfl))))) (fun h=>absurd h (by decide)) (fun h=>absurd h (by decide)) (Nat.zero_le _)
   ·exact .mk (fun h=>absurd h (by decide)) (fun h=>absurd h (by decide)) (fun _=>zaA) (fun h=>by rcases h with h|h <;> exact absurd h (by decide)) (Nat.zero_le _) (by simp) (by simp) fun w hw=>by rw[List.mem_singleton.1 hw];exact ih k' u hu
  | ref nm =>
   obtain⟨t,ht,h⟩:=h;rcases h with⟨_,f,_,hf,rfl⟩|⟨_,_,f,u,_,hf,hu,rfl⟩|⟨_,_,l,hs,hl,rfl⟩
   ·exact .leaf (.inr (.inr (.inr (.inr (.inr (.inl rfl)))))) (fun h=>absurd h (by decide)) (fun h=>absurd h (by decide)) (by omega)
   ·exact .mk (fun h=>absurd h (by decide)) (fun h=>absurd h (by decide)) (fun h=>absurd h (by decide)) (fun _=>⟨u,rfl⟩) (by omega) (by simp) (by simp) fun w hw=>by rw[List.mem_singleton.1 hw];exact ih f.kind u hu
   ·have hlen:l.length<=1000:=by
     refine zaI ?_ (show 200<=1000 by omega);have h1:(l.map fun e=>e.1.tag).length<=(List.range 201).length-1:=by
      have hp:∀ (m:List Nat) (lo:Nat),(∀ g,g∈m->lo<g/\g<=200)->m.Pairwise (· < ·)->m.length<=200-lo:=by
       intro m;induction m with
       | nil=>intro lo _ _;exact Nat.zero_le _
       | cons g m ihm =>
        intro lo hg hpw;obtain⟨hp1,hp2⟩:=List.pairwise_cons.1 hpw;have h1:=hg g List.mem_cons_self;have h2:=ihm g (fun c hc=>⟨hp1 c hc,(hg c (List.mem_cons_of_mem _ hc)).2⟩) hp2;rw[zaF];omega
      have h2:=hp (l.map fun e=>e.1.tag) 0 (fun g hg=>by
       obtain⟨e,he,rfl⟩:=List.mem_map.1 hg;exact⟨(hl e he).1,(hl e he).2.2.1⟩) hs
      simpa using h2
     simpa using h1
    refine .mk (fun h=>absurd h (by decide)) (fun h=>absurd h (by decide)) (fun h=>absurd h (by decide)) (fun h=>by rcases h with h|h <;> exact absurd h (by decide)) (Nat.zero_le _) (by rw[zaG];exact hlen) (by simp) fun u hu=>?_;obtain⟨e,he,rfl⟩:=List.mem_map.1 hu;have h:=hl e he;exact .mk (fun h=>absurd h (by decide)) (fun h=>absurd h (by decide)) (fun h=>absurd h (by decide)) (fun _=>⟨e.2,rfl⟩) (by omega) (by simp) (by simp) fun w hw=>by rw[List.mem_singleton.1 hw];exact ih e.1.kind e.2 h.2.2.2.1
theorem bytes_by {what:UInt8} {text:Bs} {tag:Nat} {kids:List V} (h:BOk (.mk what text tag kids)) (q:Nat) (hq:what.toNat=q) :
  (q=110/\∃ m,m<=999999/\text=dec m/\(V.mk what text tag kids).bytes=putN m)\/(q=116/\text.length<=12/\(V.mk what text tag kids).bytes=putN text.length++text) \/
  (q=102/\text=[121,101,115]/\(V.mk what text tag kids).bytes=[1])\/(q=102/\text≠[121,101,115]/\(V.mk what text tag kids).bytes=[0]) \/
  (q=91/\(V.mk what text tag kids).bytes=putN kids.length++(kids.map V.bytes).flatten)\/(q=63/\kids=[]/\(V.mk what text tag kids).bytes=[0])\/(q=63/\∃ u,kids=[u]/\(V.mk what text tag kids).bytes=1::u.bytes) \/
  (q=69/\(V.mk what text tag kids).bytes=putN tag)\/((q=85\/q=61)/\∃ u,kids=[u]/\(V.mk what text tag kids).bytes=putN tag++(putN u.bytes.length++u.bytes)) \/
  (q=82/\(V.mk what text tag kids).bytes=(kids.map V.bytes).flatten++[0]):=by
 subst hq;cases h with
 | mk h1 h2 h3 h4 h5 h6 h7 h8 =>
  rcases h7 with rfl|rfl|rfl|rfl|rfl|rfl|rfl|rfl|rfl
  ·obtain⟨m,hm,rfl⟩:=h1 rfl
   exact .inl ⟨rfl,m,hm,rfl,by simp[V.bytes,bF,eU]⟩
  ·exact .inr (.inl ⟨rfl,h2 rfl,by simp[V.bytes,bF]⟩)
  ·by_cases ht:text=[121,101,115]
   ·exact .inr (.inr (.inl ⟨rfl,ht,by simp[V.bytes,bF,ht]⟩))
   ·exact .inr (.inr (.inr (.inl ⟨rfl,ht,by simp[V.bytes,bF,ht]⟩)))
  ·exact .inr (.inr (.inr (.inr (.inl ⟨rfl,by simp[V.bytes,bF,V.dT]⟩))))
  ·cases kids with
   | nil=>exact .inr (.inr (.inr (.inr (.inr (.inl ⟨rfl,rfl,by simp[V.bytes,bF,V.dT]⟩)))))
   | cons u l =>
    have hl:l=[]:=by
     have:=h3 rfl;cases l with
     | nil=>rfl
     | cons a l=>simp at this
    subst hl;exact .inr (.inr (.inr (.inr (.inr (.inr (.inl ⟨rfl,u,rfl,by simp[V.bytes,bF,V.dT]⟩))))))
  ·exact .inr (.inr (.inr (.inr (.inr (.inr (.inr (.inl ⟨rfl,by simp[V.bytes,bF]⟩)))))))
  ·obtain⟨u,rfl⟩:=h4 (.inl rfl)
   exact .inr (.inr (.inr (.inr (.inr (.inr (.inr (.inr (.inl ⟨.inl rfl,u,rfl,by simp[V.bytes,bF,V.dT]⟩))))))))
  ·obtain⟨u,rfl⟩:=h4 (.inr rfl)
   exact .inr (.inr (.inr (.inr (.inr (.inr (.inr (.inr (.inl ⟨.inr rfl,u,rfl,by simp[V.bytes,bF,V.dT]⟩))))))))
  ·exact .inr (.inr (.inr (.inr (.inr (.inr (.inr (.inr (.inr ⟨rfl,by simp[V.bytes,bF,V.dT]⟩))))))))
end Wf

namespace Wf
end Wf

namespace Wf
def getVal (x:Sc) (k:K) (s:Bs):Option V :=
 if s.length<=600 then (match getB x 13 k s with|some (v,[])=>if v.print.length<=400/\v.deep<=12 then some v else none|_=>none) else none
theorem getVal_some {x:Sc} {k:K} {s:Bs} {v:V} (h:getVal x k s=some v):s.length<=600/\getB x 13 k s=some (v,[])/\v.print.length<=400/\v.deep<=12:=by
 unfold getVal at h;split at h
 ·rename_i hs
  split at h
  ·rename_i v' hg
   split at h
   ·rename_i hp
    cases h;exact⟨hs,hg,hp.1,hp.2⟩
   ·cases h
  ·cases h
 ·cases h
theorem getVal_bytes {x:Sc} {k:K} {v:V} (h:Typed x 12 k v) (hp:v.print.length<=400):getVal x k v.bytes=some v:=by
 have hb:=eC 12 k v h (by omega);have h13:=iD 12 k v h 13 (by omega);have hg:=qK 13 k v [] h13 (by omega);rw[List.append_nil] at hg;unfold getVal;rw[if_pos (by omega),hg];exact if_pos ⟨hp,(iE 12 k v h).2⟩
theorem getVal_cut {x:Sc} {k:K} {v:V} (h:Typed x 12 k v) (hp:v.print.length<=400) {j:Nat} (hj:j<v.bytes.length):getVal x k (v.bytes.take j)=none:=by
 cases hg:getVal x k (v.bytes.take j) with
 | none=>rfl
 | some u =>
  obtain⟨_,h2,_⟩:=getVal_some hg;obtain⟨_,h3,_⟩:=getVal_some (getVal_bytes h hp);refine absurd ?_ (tV (c:=v.bytes.drop j) (u:=v) h2 (fun e=>?_))
  ·rw[List.take_append_drop];exact h3
  ·have:=congrArg List.length e
   rw[List.length_drop,zaM] at this;omega
theorem getVal_more {x:Sc} {k:K} {v:V} (h:Typed x 12 k v) (hp:v.print.length<=400) {c:Bs} (hc:c≠[]):getVal x k (v.bytes++c)=none:=by
 cases hg:getVal x k (v.bytes++c) with
 | none=>rfl
 | some u =>
  obtain⟨_,h2,_⟩:=getVal_some hg;obtain⟨_,h3,_⟩:=getVal_some (getVal_bytes h hp);exact absurd h2 (tV h3 hc)
def canonB (x:Sc) (k:K) (s:Bs):Bool:=match getVal x k s with|some v=>decide (v.bytes=s)|none=>false
theorem canon_bytes {x:Sc} {k:K} {v:V} (h:Typed x 12 k v) (hp:v.print.length<=400):canonB x k v.bytes=true:=by
 unfold canonB;rw[getVal_bytes h hp];exact decide_eq_true rfl
theorem getVal_unknown {x:Sc} {nm:Bs} {t:Ty} {v:V} {g:Nat} (ht:x.find nm=some t) (h69:t.sort≠69) (h85:t.sort≠85) (h:Typed x 12 (.ref nm) v) (hp:v.print.length<=400) (hb:v.bytes.length<=500) (hg:t.field g=none) (h1:200<g) (h2:g<=300) :
  ∃ b0,v.bytes=b0++[0]/\getVal x (.ref nm) (b0++(putN g++[2,7,200,0]))=some v/\canonB x (.ref nm) (b0++(putN g++[2,7,200,0]))=false:=by
 have h13:=iD 12 _ v h 13 (by omega);obtain⟨b0,e0,_,e2⟩:=qA (n:=12) ht h69 h85 h13 (by omega) hg h1 h2;have hl:(putN g).length<=3:=(bH g (by omega)).2;have hv:getVal x (.ref nm) (b0++(putN g++[2,7,200,0]))=some v:=by
  unfold getVal;rw[if_pos (by
   have:=congrArg List.length e0;simp only[zaD,zaF,zaM] at this ⊢;omega),e2]
  exact if_pos ⟨hp,(iE 12 _ v h).2⟩
 refine⟨b0,e0,hv,?_⟩;unfold canonB;rw[hv];refine decide_eq_false fun e=>?_;rw[e0] at e;have:=List.append_cancel_left e;have:=congrArg List.length this;simp only[zaD,zaF,zaM] at this;have:=(bH g (by omega)).1;omega
end Wf

namespace Wf
end Wf

namespace Wf
def recTy (x:Sc):K->Option Ty
 | .ref nm=>(x.find nm).bind fun t=>if t.sort=82 then some t else none
 | _=>none
theorem a3N {x:Sc} {k:K} {t:Ty} (h:recTy x k=some t):∃ nm,k=.ref nm/\x.find nm=some t/\t.sort=82:=by
 cases k with
 | ref nm =>
  simp only[recTy] at h;cases hf:x.find nm with
  | none=>rw[hf] at h;cases h
  | some u =>
   rw[hf] at h;simp only[Option.bind_some] at h;split at h
   ·rename_i h82;cases h;exact⟨nm,rfl,hf,h82⟩
   ·cases h
 | _=>cases h
def wP (x:Sc) (t:Ty) (n:Nat) (es:List (Fd × V)):Prop :=
 Asc es/\∀ e,e∈es->0<e.1.tag/\t.field e.1.tag=some e.1/\e.1.tag<=200/\Typed x n e.1.kind e.2/\e.2.print≠aO x e.1
abbrev recV (es:List (Fd × V)):V:=.mk 82 [] 0 (es.map tagged)
theorem nY {x:Sc} {n:Nat} {nm:Bs} {t:Ty} {es:List (Fd × V)} (h:wP x t n es) (ht:x.find nm=some t) (h82:t.sort=82):Typed x (n+1) (.ref nm) (recV es):=by
 simp only[Typed];exact⟨t,ht,.inr (.inr ⟨by rw[h82];decide,by rw[h82];decide,es,h.1,h.2,rfl⟩)⟩
end Wf

namespace Wf
end Wf

namespace Wf
theorem bytes_ne {x:Sc}:∀ (n:Nat) (k:K) (v:V),Typed x n k v->v.bytes≠[]:=by
 intro n;cases n with
 | zero=>intro k v h;exact h.elim
 | succ n =>
  have hp:∀ (m:Nat) (r:Bs),m<=999999->putN m++r≠[]:=fun m r hm e=>by
   have h1:=(bH m hm).1;have:=congrArg List.length e;rw[zaD,zaM] at this;omega
  intro k v h;cases k with
  | num=>obtain⟨m,hm,rfl⟩:=h;rw[kE,<-List.append_nil (putN m)];exact hp m [] hm
  | txt=>obtain⟨b,_,hb,rfl⟩:=h;rw[iU];exact hp _ _ (by omega)
  | flag =>
   rcases h with rfl|rfl
   ·rw[jF];simp
   ·rw[jP];simp
  | list k'=>obtain⟨l,hl,_,rfl⟩:=h;rw[hJ];exact hp _ _ (by omega)
  | opt k' =>
   rcases h with rfl|⟨u,_,rfl⟩
   ·rw[jE];simp
   ·rw[iG];simp
  | ref nm =>
   obtain⟨t,ht,h⟩:=h;rcases h with⟨_,f,_,hf,rfl⟩|⟨_,_,f,u,_,hf,_,rfl⟩|⟨_,_,l,_,_,rfl⟩
   ·rw[jN,<-List.append_nil (putN f.tag)];exact hp _ [] (by omega)
   ·rw[iX];exact hp _ _ (by omega)
   ·rw[iC];simp
end Wf
