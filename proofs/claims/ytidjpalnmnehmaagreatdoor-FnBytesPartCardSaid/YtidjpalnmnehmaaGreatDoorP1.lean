/- Packed. -/
import Derived.Test.YtidjpalnmnehmaaGreatDoorP0
set_option maxRecDepth 99999
set_option maxHeartbeats 40000000
set_option linter.all false
namespace Wf
def rZ (r:Bs):Prop:=∀ c,r.head? = some c->aB c=false
theorem pQ (n:Nat):∃ c t,dec n=c::t/\aB c=true:=by
 have h:=iI n;cases hd:dec n with
 | nil=>exact absurd hd (fP n)
 | cons c t=>rw[hd] at h;simp at h;exact⟨c,t,rfl,h.1⟩
theorem kJ {c:UInt8} (h:aB c=true):c≠93/\c≠125/\c≠44/\c≠62:=by
 simp only[aB,Bool.and_eq_true,decide_eq_true_eq] at h;refine⟨?_,?_,?_,?_⟩ <;> (intro e;subst e;revert h;decide)
theorem eJ (tag:Nat) (v:V):(V.mk 61 [] tag [v]).print=dec tag++61::v.print:=dR (⟨tag,[],.num,[]⟩,v)
theorem dG (l:List V):(V.mk 91 [] 0 l).print=91::(commas (l.map V.print)++[93]):=by simp[V.print,form,V.fI]
theorem cV (l:List V):(V.mk 82 [] 0 l).print=123::(commas (l.map V.print)++[125]):=by simp[V.print,form,V.fI]
theorem fB:(V.mk 63 [] 0 []).print=[45]:=by simp[V.print,form,V.fI]
theorem dV (v:V):(V.mk 63 [] 0 [v]).print=43::v.print:=by simp[V.print,form,V.fI,commas]
theorem eK (tag:Nat) (v:V):(V.mk 85 [] tag [v]).print=60::(dec tag++61::(v.print++[62])):=by simp[V.print,form,V.fI,commas]
theorem eY (tag:Nat):(V.mk 69 [] tag []).print=35::dec tag:=by simp[V.print,form]
theorem eX (b:Bs):(V.mk 116 b 0 []).print=39::(b++[39]):=by simp[V.print,form]
theorem fQ (b:Bs):(V.mk 110 b 0 []).print=b:=by simp[V.print,form]
theorem dL (b:Bs):(V.mk 102 b 0 []).print=b:=by simp[V.print,form]
theorem iK {x:Sc} {n:Nat} {k:K} {v:V} (h:Typed x n k v):∃ c t,v.print=c::t/\c≠93/\c≠125:=by
 cases n with
 | zero=>simp[Typed] at h
 | succ n =>
  cases k with
  | num =>
   obtain⟨m,_,rfl⟩:=h;obtain⟨c,t,hd,hc⟩:=pQ m;exact⟨c,t,by rw[fQ,hd],(kJ hc).1,(kJ hc).2.1⟩
  | txt=>obtain⟨b,_,_,rfl⟩:=h;exact⟨_,_,eX b,by decide,by decide⟩
  | flag =>
   rcases h with rfl|rfl
   ·exact⟨_,_,dL _,by decide,by decide⟩
   ·exact⟨_,_,dL _,by decide,by decide⟩
  | list k=>obtain⟨l,_,_,rfl⟩:=h;exact⟨_,_,dG l,by decide,by decide⟩
  | opt k =>
   rcases h with rfl|⟨u,_,rfl⟩
   ·exact⟨_,_,fB,by decide,by decide⟩
   ·exact⟨_,_,dV u,by decide,by decide⟩
  | ref nm =>
   obtain⟨t,_,h⟩:=h;rcases h with⟨_,f,_,_,rfl⟩|⟨_,_,f,u,_,_,_,rfl⟩|⟨_,_,l,_,_,rfl⟩
   ·exact⟨_,_,eY _,by decide,by decide⟩
   ·exact⟨_,_,eK _ _,by decide,by decide⟩
   ·exact⟨_,_,cV _,by decide,by decide⟩
theorem lP {l:List Bs} (h:∀ a,a∈l->a≠[]):l.length<=(commas l).length:=by
 induction l with
 | nil=>simp
 | cons a l ih =>
  have ha:=List.length_pos_iff.2 (h a (by simp));have ih':=ih (fun b hb=>h b (by simp[hb]));by_cases hl:l=[]
  ·subst hl;simp[commas];omega
  ·rw[dY _ hl];simp;omega
theorem oR {a:Bs} {l:List Bs} {c:UInt8} {t:Bs} (h:a=c::t):∃ u,commas (a::l)=c::u:=by
 by_cases hl:l=[]
 ·subst hl;exact⟨t,by simp[commas,h]⟩
 ·exact⟨t++44::commas l,by rw[dY _ hl,h];rfl⟩
theorem iX:aF 39=false:=by decide
theorem a2L {g:Nat} {u v:V} {s r:Bs} (h:closeU g u s=some (v,r)):∃ q,s=62::q/\v=.mk 85 [] g [u]/\r=q:=by
 unfold closeU at h;split at h
 ·rename_i q
  simp only[Option.some.injEq,Prod.mk.injEq] at h;exact⟨q,rfl,h.1.symm,h.2.symm⟩
 ·simp at h
theorem a2Y {x:Sc} {n:Nat} {t:Ty} {s r:Bs} {v:V} {nm:Bs} (ht:x.find nm=some t)
  (ih:∀ k s v r,parse x n k s=some (v,r)->Typed x n k v/\s=v.print++r)
  (h:parseTy x (fun k' s'=>parse x n k' s') t s=some (v,r)):Typed x (n+1) (.ref nm) v/\s=v.print++r:=by
 have hp:∀ (f:Fd) (s:Bs) (v:V) (r:Bs),(fun k' s'=>parse x n k' s') f.kind s=some (v,r)->Typed x n f.kind v/\s=v.print++r:=fun f s v r hh=>ih _ _ _ _ hh;unfold parseTy at h;by_cases h1:t.sort=69
 ·rw[if_pos h1] at h
  cases s with
  | nil=>simp at h
  | cons c q =>
   by_cases hc:c=35
   ·subst hc
    simp only at h;cases hn:aO 200 q with
    | none=>rw[hn] at h;simp at h
    | some y =>
     obtain⟨tag,rest⟩:=y;rw[hn] at h;simp only at h;split at h
     ·rename_i hs
      simp only[Option.some.injEq,Prod.mk.injEq] at h;obtain⟨rfl,rfl⟩:=h;obtain⟨f,hf⟩:=Option.isSome_iff_exists.1 hs;have e:=nT hf;subst e;obtain⟨g1,g2,_,_⟩:=iG hn;exact⟨⟨t,ht,.inl ⟨h1,f,hf,g2,rfl⟩⟩,by rw[eY,g1];rfl⟩
     ·simp at h
   ·split at h
    ·rename_i heq;simp only[List.cons.injEq] at heq;exact absurd heq.1 hc
    ·simp at h
 ·rw[if_neg h1] at h
  by_cases h2:t.sort=85
  ·rw[if_pos h2] at h
   cases s with
   | nil=>simp at h
   | cons c q =>
    by_cases hc:c=60
    ·subst hc
     simp only at h;cases hf:fieldTok t (fun k' s'=>parse x n k' s') q with
     | none=>rw[hf] at h;simp at h
     | some y =>
      obtain⟨f,u,rest⟩:=y;rw[hf] at h;obtain⟨a1,a2,a3,a4⟩:=jE hp hf;obtain⟨q',hq,rfl,rfl⟩:=a2L h;subst hq;exact⟨⟨t,ht,.inr (.inl ⟨h1,h2,f,u,a1,a2,a3,rfl⟩)⟩,by rw[eK,a4];simp⟩
    ·split at h
     ·rename_i heq;simp only[List.cons.injEq] at heq;exact absurd heq.1 hc
     ·simp at h
  ·rw[if_neg h2] at h
   cases s with
   | nil=>simp at h
   | cons c q =>
    by_cases hc:c=123
    ·subst hc
     simp only at h;have fin:∀ y:List V × Bs,fieldsW x t (fun k' s'=>parse x n k' s') q.length 0 q=some y->v=.mk 82 [] 0 y.1->r=y.2->Typed x (n+1) (.ref nm) v/\123::q=v.print++r:=by
      rintro⟨l,r'⟩ hy rfl rfl;obtain⟨es,_,rfl,b3,b4,b5⟩:=xC hp _ _ _ _ _ hy;obtain⟨b6,b7⟩:=List.pairwise_cons.1 b3;refine⟨⟨t,ht,.inr (.inr ⟨h1,h2,es,b7,?_,rfl⟩)⟩,by rw[cV,b5];simp⟩;intro e he;obtain⟨c1,c2,c3,c4⟩:=b4 e he;exact⟨b6 _ (List.mem_map.2 ⟨e,he,rfl⟩),c1,c2,c3,c4⟩
     cases q with
     | nil=>simp[fieldsW] at h
     | cons d q' =>
      by_cases hd:d=125
      ·subst hd
       simp only[Option.some.injEq,Prod.mk.injEq] at h;obtain⟨rfl,rfl⟩:=h;exact⟨⟨t,ht,.inr (.inr ⟨h1,h2,[],by simp,by simp,rfl⟩)⟩,by rw[cV];simp[commas]⟩
      ·split at h
       ·rename_i heq;simp only[List.cons.injEq] at heq;exact absurd heq.1 hd
       ·cases hy:fieldsW x t (fun k' s'=>parse x n k' s') (d::q').length 0 (d::q') with
        | none=>rw[hy] at h;simp at h
        | some y =>
         rw[hy] at h;simp only[Option.map_some,Option.some.injEq,Prod.mk.injEq] at h;exact fin y hy h.1.symm h.2.symm
    ·split at h
     ·rename_i heq;simp only[List.cons.injEq] at heq;exact absurd heq.1 hc
     ·simp at h
theorem eG {x:Sc}:∀ (n:Nat) (k:K) (s:Bs) (v:V) (r:Bs),parse x n k s=some (v,r)->Typed x n k v/\s=v.print++r:=by
 intro n;induction n with
 | zero=>intro k s v r h;simp[parse] at h
 | succ n ih =>
  intro k s v r h;cases k with
  | num =>
   simp only[parse] at h;cases hn:aO 999999 s with
   | none=>rw[hn] at h;simp at h
   | some y =>
    rw[hn] at h;simp only[Option.map_some,Option.some.injEq,Prod.mk.injEq] at h;obtain⟨rfl,rfl⟩:=h;obtain⟨g1,g2,_,_⟩:=iG (n:=y.1) (r:=y.2) hn;exact⟨⟨y.1,g2,rfl⟩,by rw[fQ];exact g1⟩
  | txt =>
   simp only[parse] at h;split at h
   ·rename_i q
    split at h
    ·rename_i q' hq
     split at h
     ·rename_i hl
      simp only[Option.some.injEq,Prod.mk.injEq] at h;obtain⟨rfl,rfl⟩:=h;refine⟨⟨_,?_,hl,rfl⟩,?_⟩
      ·exact List.all_takeWhile
      ·rw[eX]
       have:=List.takeWhile_append_dropWhile (p:=aF) (l:=q);rw[hq] at this;simp only[List.cons_append,List.append_assoc,List.nil_append,this]
     ·simp at h
    ·simp at h
   ·simp at h
  | flag =>
   simp only[parse] at h;split at h
   ·simp only[Option.some.injEq,Prod.mk.injEq] at h
    obtain⟨rfl,rfl⟩:=h;exact⟨.inl rfl,by rw[dL];rfl⟩
   ·simp only[Option.some.injEq,Prod.mk.injEq] at h
    obtain⟨rfl,rfl⟩:=h;exact⟨.inr rfl,by rw[dL];rfl⟩
   ·simp at h
  | list k =>
   simp only[parse] at h;split at h
   ·rename_i q
    split at h
    ·simp only[Option.some.injEq,Prod.mk.injEq] at h
     obtain⟨rfl,rfl⟩:=h;exact⟨⟨[],by simp,by simp,rfl⟩,by rw[dG];simp[commas]⟩
    ·cases hi:itemsW (parse x n k) q.length q with
     | none=>rw[hi] at h;simp at h
     | some y =>
      obtain⟨l,q'⟩:=y;rw[hi] at h;simp only at h;split at h
      ·rename_i hl
       simp only[Option.some.injEq,Prod.mk.injEq] at h;obtain⟨rfl,rfl⟩:=h;obtain⟨_,b2,b3⟩:=a6P (Q:=Typed x n k) (fun s v r hh=>ih _ _ _ _ hh) _ _ _ _ hi;exact⟨⟨l,hl,b2,rfl⟩,by rw[dG,b3];simp⟩
      ·simp at h
   ·simp at h
  | opt k =>
   simp only[parse] at h;split at h
   ·simp only[Option.some.injEq,Prod.mk.injEq] at h
    obtain⟨rfl,rfl⟩:=h;exact⟨.inl rfl,by rw[fB];rfl⟩
   ·rename_i q
    cases hq:parse x n k q with
    | none=>rw[hq] at h;simp at h
    | some y =>
     obtain⟨u,q'⟩:=y;rw[hq] at h;simp only[Option.map_some,Option.some.injEq,Prod.mk.injEq] at h;obtain⟨rfl,rfl⟩:=h;obtain⟨b1,b2⟩:=ih _ _ _ _ hq;exact⟨.inr ⟨u,b1,rfl⟩,by rw[dV,b2];rfl⟩
   ·simp at h
  | ref nm =>
   simp only[parse] at h;cases ht:x.find nm with
   | none=>rw[ht] at h;simp at h
   | some t =>
    rw[ht] at h;exact a2Y ht ih h
theorem yD {x:Sc}:∀ (n:Nat) (k:K) (v:V) (r:Bs),Typed x n k v->rZ r->parse x n k (v.print++r)=some (v,r):=by
 intro n;induction n with
 | zero=>intro k v r h;simp[Typed] at h
 | succ n ih =>
  intro k v r h hr;cases k with
  | num =>
   obtain⟨m,hm,rfl⟩:=h;simp only[parse,fQ];rw[lW hm hm hr];rfl
  | txt =>
   obtain⟨b,hb,hl,rfl⟩:=h;have ha:∀ a,a∈b->aF a=true:=List.all_eq_true.1 hb;simp only[parse,eX,List.cons_append,List.append_assoc,List.nil_append];have e1:(b++39::r).takeWhile aF=b:=by
    rw[List.takeWhile_append_of_pos ha,List.takeWhile_cons,iX];simp
   have e2:(b++39::r).dropWhile aF=39::r:=by
    rw[List.dropWhile_append_of_pos ha,List.dropWhile_cons,iX];simp
   rw[e1,e2];simp[hl]
  | flag =>
   rcases h with rfl|rfl
   ·simp[parse,dL]
   ·simp[parse,dL]
  | list k =>
   obtain⟨l,hl,hu,rfl⟩:=h;rw[dG];by_cases hn:l=[]
   ·subst hn;simp[parse,commas]
   ·obtain⟨u,l',rfl⟩:=List.exists_cons_of_ne_nil hn
    obtain⟨c,t,hc,hc1,_⟩:=iK (hu u (by simp));have hlen:(u::l').length<=(commas ((u::l').map V.print)++93::r).length:=by
     have:=lP (l:=(u::l').map V.print) (by
      intro a ha;obtain⟨w,hw,rfl⟩:=List.mem_map.1 ha;obtain⟨c,t,hc,_⟩:=iK (hu w hw);rw[hc];simp)
     simp only[List.length_map,List.length_append,List.length_cons] at this ⊢;omega
    have hrd:=a0E (p:=parse x n k) (Q:=Typed x n k) (fun v r hv hr=>ih k v r hv hr) (u::l') (commas ((u::l').map V.print)++93::r).length r (by simp) hu hlen;obtain⟨w,hw⟩:=oR (l:=l'.map V.print) hc;simp only[List.cons_append,List.append_assoc,List.nil_append];simp only[List.map_cons] at hrd ⊢;rw[hw] at hrd ⊢;simp only[parse];split
    ·rename_i heq;simp only[List.cons_append,List.cons.injEq] at heq;exact absurd heq.1 hc1
    ·rw[hrd];simp only[hl,if_true]
  | opt k =>
   rcases h with rfl|⟨u,hu,rfl⟩
   ·simp[parse,fB]
   ·rw[dV]
    simp only[parse,List.cons_append];rw[ih k u r hu hr];rfl
  | ref nm =>
   obtain⟨t,ht,h⟩:=h;simp only[parse,ht];rcases h with⟨h1,f,hf,h2,rfl⟩|⟨h1,h2,f,u,hf,h3,hu,rfl⟩|⟨h1,h2,l,hpw,hl,rfl⟩
   ·rw[eY]
    simp only[parseTy,if_pos h1,List.cons_append];rw[lW h2 (by omega) hr];simp[hf]
   ·rw[eK]
    simp only[parseTy,if_neg h1,if_pos h2,List.cons_append,List.append_assoc,List.nil_append];rw[mO (p:=fun k' s'=>parse x n k' s') hf h3 (ih f.kind u (62::r) hu (by simp[rZ,aB]))];rfl
   ·rw[cV]
    simp only[parseTy,if_neg h1,if_neg h2,List.cons_append,List.append_assoc,List.nil_append];by_cases hn:l=[]
    ·subst hn;simp[commas]
    ·obtain⟨e,l',rfl⟩:=List.exists_cons_of_ne_nil hn
     have hlen:(e::l').length<=(commas (((e::l').map tagged).map V.print)++125::r).length:=by
      have:=lP (l:=((e::l').map tagged).map V.print) (by
       intro a ha;obtain⟨w,hw,rfl⟩:=List.mem_map.1 ha;obtain⟨g,hg,rfl⟩:=List.mem_map.1 hw;rw[dR];simp[fP])
      simp only[List.length_map,List.length_append,List.length_cons] at this ⊢;omega
     have hrd:=a0R (x:=x) (t:=t) (p:=fun k' s'=>parse x n k' s') (Q:=fun f v=>Typed x n f.kind v) (fun f v r hv hr=>ih f.kind v r hv hr)
      (e::l') (commas (((e::l').map tagged).map V.print)++125::r).length 0 r (by simp)
      (List.pairwise_cons.2 ⟨by
       intro a ha;obtain⟨g,hg,rfl⟩:=List.mem_map.1 ha;exact(hl g hg).1,hpw⟩) (fun e he=>(hl e he).2) hlen
     obtain⟨c,tt,hc,hcd⟩:=pQ e.1.tag;have hp0:(tagged e).print=c::(tt++61::e.2.print):=(by rw[dR,hc];rfl);obtain⟨w,hw⟩:=oR (l:=(l'.map tagged).map V.print) hp0;have ee:(fun e:Fd × V=>V.mk 61 [] e.1.tag [e.2])=tagged:=rfl;rw[ee];simp only[List.map_cons] at hrd ⊢;rw[hw] at hrd ⊢;simp only[List.cons_append] at hrd ⊢;split
     ·rename_i heq;simp only[List.cons.injEq] at heq;exact absurd heq.1 (kJ hcd).2.1
     ·rw[hrd];rfl
end Wf

namespace Wf
theorem fE (tag:Nat) (v:V):(V.mk 61 [] tag [v]).deep=v.deep:=by simp[Option.filter_some,V.deep,V.aJ]
theorem fV {what:UInt8} (h:what≠61) (t:Bs) (g:Nat) (l:List V):(V.mk what t g l).deep=V.aJ l+1:=by simp[Option.filter_some,V.deep,h]
theorem a1Y {p p':Reads} {d:Nat} (hp:∀ s,p s=(p' s).filter (fun y=>decide (y.1.deep<=d))) :
  ∀ (m:Nat) (s:Bs),itemsW p m s=(itemsW p' m s).filter (fun y=>decide (V.aJ y.1<=d)):=by
 intro m;induction m with
 | zero=>intro s;rfl
 | succ m ih =>
  intro s;simp only[itemsW];rw[hp s];cases hq:p' s with
  | none=>rfl
  | some y =>
   obtain⟨v,rest⟩:=y;by_cases hd:v.deep<=d
   ·have e:(some (v,rest)).filter (fun y:V × Bs=>decide (y.1.deep<=d))=some (v,rest):=by simp only[Option.filter_some,hd,decide_true,decide_false,if_true,if_false];try simp
    rw[e];simp only;split
    ·rename_i r
     rw[ih r];cases itemsW p' m r with
     | none=>rfl
     | some y =>
      by_cases hy:V.aJ y.1<=d
      ·simp[Option.filter_some,hy,V.aJ,hd,Nat.max_le]
      ·simp[Option.filter_some,hy,V.aJ,hd,Nat.max_le]
    ·simp[Option.filter_some,V.aJ,hd]
    ·rfl
   ·have e:(some (v,rest)).filter (fun y:V × Bs=>decide (y.1.deep<=d))=none:=by simp only[Option.filter_some,hd,decide_true,decide_false,if_true,if_false];try simp
    rw[e];simp only;split
    ·rename_i r
     cases itemsW p' m r with
     | none=>rfl
     | some y=>simp[Option.filter_some,V.aJ,hd,Nat.max_le]
    ·simp[Option.filter_some,V.aJ,hd]
    ·rfl
theorem pV {t:Ty} {p p':K->Reads} {d:Nat} (hp:∀ k s,p k s=(p' k s).filter (fun y=>decide (y.1.deep<=d))) (s:Bs) :
  fieldTok t p s=(fieldTok t p' s).filter (fun y=>decide (y.2.1.deep<=d)):=by
 unfold fieldTok;cases aO 200 s with
 | none=>rfl
 | some y =>
  obtain⟨tag,rest⟩:=y;simp only;split
  ·rename_i r f _
   rw[hp];cases p' f.kind r with
   | none=>rfl
   | some z=>by_cases hz:z.1.deep<=d <;> simp[Option.filter_some,hz]
  ·rfl
theorem zS {x:Sc} {t:Ty} {p p':K->Reads} {d:Nat} (hp:∀ k s,p k s=(p' k s).filter (fun y=>decide (y.1.deep<=d))) :
  ∀ (m last:Nat) (s:Bs),fieldsW x t p m last s=(fieldsW x t p' m last s).filter (fun y=>decide (V.aJ y.1<=d)):=by
 intro m;induction m with
 | zero=>intro last s;rfl
 | succ m ih =>
  intro last s;simp only[fieldsW];rw[pV hp s];cases hq:fieldTok t p' s with
  | none=>rfl
  | some y =>
   obtain⟨f,v,rest⟩:=y;by_cases hd:v.deep<=d
   ·have e:(some (f,v,rest)).filter (fun y:Fd × V × Bs=>decide (y.2.1.deep<=d))=some (f,v,rest):=by simp only[Option.filter_some,hd,decide_true,decide_false,if_true,if_false];try simp
    rw[e];simp only;split
    ·rfl
    ·split
     ·rename_i r
      rw[ih f.tag r];cases fieldsW x t p' m f.tag r with
      | none=>rfl
      | some y =>
       by_cases hy:V.aJ y.1<=d
       ·simp[Option.filter_some,hy,V.aJ,hd,Nat.max_le,fE]
       ·simp[Option.filter_some,hy,V.aJ,hd,Nat.max_le,fE]
     ·simp[Option.filter_some,V.aJ,hd,fE]
     ·rfl
   ·have e:(some (f,v,rest)).filter (fun y:Fd × V × Bs=>decide (y.2.1.deep<=d))=none:=by simp only[Option.filter_some,hd,decide_true,decide_false,if_true,if_false];try simp
    rw[e];simp only;split
    ·rfl
    ·split
     ·rename_i r
      cases fieldsW x t p' m f.tag r with
      | none=>rfl
      | some y=>simp[Option.filter_some,V.aJ,hd,Nat.max_le,fE]
     ·simp[Option.filter_some,V.aJ,hd,fE]
     ·rfl
theorem a4W {x:Sc}:∀ (n m:Nat),n<=m->∀ (k:K) (s:Bs),parse x n k s=(parse x m k s).filter (fun y=>decide (y.1.deep<=n)):=by
 intro n;induction n with
 | zero =>
  intro m _ k s;cases hp:parse x m k s with
  | none=>simp[Option.filter_some,parse]
  | some y =>
   obtain⟨v,r⟩:=y;have ht:=(eG _ _ _ _ _ hp).1;have:v.deep≠0:=by
    cases m with
    | zero=>simp[Option.filter_some,Typed] at ht
    | succ m =>
     cases k with
     | num=>obtain⟨_,_,rfl⟩:=ht;simp[Option.filter_some,V.deep]
     | txt=>obtain⟨_,_,_,rfl⟩:=ht;simp[Option.filter_some,V.deep]
     | flag=>rcases ht with rfl|rfl <;> simp[Option.filter_some,V.deep]
     | list k=>obtain⟨_,_,_,rfl⟩:=ht;simp[Option.filter_some,V.deep]
     | opt k=>rcases ht with rfl|⟨_,_,rfl⟩ <;> simp[Option.filter_some,V.deep]
     | ref nm =>
      obtain⟨t,_,h⟩:=ht;rcases h with⟨_,f,_,_,rfl⟩|⟨_,_,f,u,_,_,_,rfl⟩|⟨_,_,l,_,_,rfl⟩ <;> simp[Option.filter_some,V.deep]
   simp[Option.filter_some,parse,this]
 | succ n ih =>
  intro m hm k s;cases m with
  | zero=>omega
  | succ m =>
   have ih':=ih m (by omega);cases k with
   | num =>
    simp only[parse];cases aO 999999 s with
    | none=>rfl
    | some y=>simp[Option.filter_some,V.deep,V.aJ]
   | txt =>
    simp only[parse];repeat' split
    all_goals simp[Option.filter_some,V.deep,V.aJ]
   | flag =>
    simp only[parse];repeat' split
    all_goals simp[Option.filter_some,V.deep,V.aJ]
   | list k =>
    simp only[parse];split
    ·rename_i q
     split
     ·simp[Option.filter_some,V.deep,V.aJ]
     ·rw[a1Y (ih' k) q.length q]
      cases itemsW (parse x m k) q.length q with
      | none=>rfl
      | some y =>
       obtain⟨l,r⟩:=y;by_cases hl:V.aJ l<=n
       ·by_cases h20:l.length<=20
        ·simp[Option.filter_some,hl,h20,V.deep]
        ·simp[Option.filter_some,hl,h20]
       ·by_cases h20:l.length<=20
        ·simp[Option.filter_some,hl,h20,V.deep]
        ·simp[Option.filter_some,hl,h20]
    ·rfl
   | opt k =>
    simp only[parse];split
    ·simp[Option.filter_some,V.deep,V.aJ]
    ·rename_i q
     rw[ih' k q];cases parse x m k q with
     | none=>rfl
     | some y=>by_cases hy:y.1.deep<=n <;> simp[Option.filter_some,hy,V.deep,V.aJ]
    ·rfl
   | ref nm =>
    simp only[parse];cases x.find nm with
    | none=>rfl
    | some t =>
     simp only[parseTy];split
     ·split
      ·split
       ·rfl
       ·split
        ·simp[Option.filter_some,V.deep,V.aJ]
        ·rfl
      ·rfl
     ·split
      ·split
       ·rename_i r
        rw[pV (p:=fun k' s'=>parse x n k' s') (p':=fun k' s'=>parse x m k' s') (d:=n) (fun k s=>ih' k s) r];cases fieldTok t (fun k' s'=>parse x m k' s') r with
        | none=>rfl
        | some y =>
         obtain⟨f,v,rest⟩:=y;rw[Option.filter_some];by_cases hv:v.deep<=n
         ·simp only[hv,decide_true,if_true]
          unfold closeU;split
          ·simp[Option.filter_some,V.deep,V.aJ,hv]
          ·rfl
         ·simp only[hv,decide_false,if_false,Bool.false_eq_true]
          unfold closeU;split
          ·simp[Option.filter_some,V.deep,V.aJ,hv]
          ·rfl
       ·rfl
      ·split
       ·rename_i q
        split
        ·simp[Option.filter_some,V.deep,V.aJ]
        ·rw[zS (p:=fun k' s'=>parse x n k' s') (p':=fun k' s'=>parse x m k' s') (d:=n) (fun k s=>ih' k s) q.length 0 q]
         cases fieldsW x t (fun k' s'=>parse x m k' s') q.length 0 q with
         | none=>rfl
         | some y=>by_cases hy:V.aJ y.1<=n <;> simp[Option.filter_some,hy,V.deep]
       ·rfl
end Wf

namespace Wf
def bF (what:UInt8) (text:Bs) (tag:Nat) (parts:List Bs):Bs :=
 if what=110 then putN (val text)
 else if what=116 then putN text.length++text
 else if what=102 then (if text=[121,101,115] then [1] else [0])
 else if what=91 then putN parts.length++parts.flatten
 else if what=63 then (if parts=[] then [0] else 1::parts.flatten)
 else if what=69 then putN tag
 else if what=85\/what=61 then putN tag++(putN parts.flatten.length++parts.flatten)
 else parts.flatten++[0]
mutual
def V.bytes:V->Bs
 | .mk what text tag kids=>bF what text tag (V.bytess kids)
def V.bytess:List V->List Bs
 | []=>[]
 | v::l=>v.bytes::V.bytess l
end
theorem V.dS (l:List V):V.bytess l=l.map V.bytes:=by
 induction l with
 | nil=>rfl
 | cons v l ih=>simp[V.bytess,ih]
def takeN (s:Bs):Option (Bs × Bs) :=
 match getN s with
 | none=>none
 | some (n,r)=>if n<=r.length then some (r.take n,r.drop n) else none
theorem vB {s b r:Bs} (h:takeN s=some (b,r)):s=putN b.length++(b++r)/\b.length<=999999:=by
 unfold takeN at h;cases hn:getN s with
 | none=>rw[hn] at h;simp at h
 | some y =>
  obtain⟨n,q⟩:=y;rw[hn] at h;simp only at h;split at h
  ·rename_i hl
   simp only[Option.some.injEq,Prod.mk.injEq] at h;obtain⟨rfl,rfl⟩:=h;obtain⟨h1,h2⟩:=oS hn;have:(q.take n).length=n:=(by simp;omega);rw[this,List.take_append_drop];exact⟨h2,h1⟩
  ·simp at h
theorem zV {b r:Bs} (h:b.length<=999999):takeN (putN b.length++(b++r))=some (b,r):=by
 unfold takeN;rw[tC _ h];simp
end Wf

namespace Wf
theorem iZ {n:Nat} (h:n<=999999):(putN n).length<=(dec n).length:=by
 by_cases h1:n<128
 ·rw[bM h1];have:=List.length_pos_iff.2 (fP n);simp;omega
 ·by_cases h2:n<16384
  ·rw[cH (by omega),bM (by omega)]
   have:=lF n 2 (by omega);simp;omega
  ·rw[cH (by omega),cH (by omega),bM (by omega)]
   have:=lF n 4 (by omega);simp;omega
theorem tR {n:Nat} (h:n<16384):(putN n).length<=2:=by
 by_cases h1:n<128
 ·rw[bM h1];simp
 ·rw[cH (by omega),bM (by omega)];simp
theorem gP (l:List Bs) (h:l≠[]):(commas l).length+1=l.flatten.length+l.length:=by
 induction l with
 | nil=>exact absurd rfl h
 | cons a l ih =>
  by_cases hl:l=[]
  ·subst hl;simp[commas]
  ·rw[dY _ hl]
   have:=ih hl;simp only[List.length_append,List.length_cons,List.flatten_cons];omega
theorem sQ (l:List Bs):l.flatten.length<=(commas l).length:=by
 by_cases hl:l=[]
 ·subst hl;simp
 ·have:=gP l hl
  have:=List.length_pos_iff.2 hl;omega
theorem eB {l:List Bs} {a:Bs} (h:a∈l):a.length<=(commas l).length:=by
 have h1:=sQ l;have:a.length<=l.flatten.length:=by
  clear h1;induction l with
  | nil=>simp at h
  | cons b l ih =>
   rcases List.mem_cons.1 h with rfl|h
   ·simp
   ·have:=ih h
    simp only[List.flatten_cons,List.length_append];omega
 omega
theorem jG (tag:Nat) (v:V):(V.mk 61 [] tag [v]).bytes=putN tag++(putN v.bytes.length++v.bytes):=by simp[V.bytes,V.bytess,bF]
theorem mL (l:List V):(V.mk 91 [] 0 l).bytes=putN l.length++(l.map V.bytes).flatten:=by simp[V.bytes,bF,V.dS]
theorem lC (l:List V):(V.mk 82 [] 0 l).bytes=(l.map V.bytes).flatten++[0]:=by simp[V.bytes,bF,V.dS]
theorem sZ:(V.mk 63 [] 0 []).bytes=[0]:=by simp[V.bytes,bF,V.dS]
theorem mC (v:V):(V.mk 63 [] 0 [v]).bytes=1::v.bytes:=by simp[V.bytes,bF,V.dS]
theorem nC (tag:Nat) (v:V):(V.mk 85 [] tag [v]).bytes=putN tag++(putN v.bytes.length++v.bytes):=by simp[V.bytes,V.bytess,bF]
theorem tQ (tag:Nat):(V.mk 69 [] tag []).bytes=putN tag:=by simp[V.bytes,bF]
theorem pN (b:Bs):(V.mk 116 b 0 []).bytes=putN b.length++b:=by simp[V.bytes,bF]
theorem qU (m:Nat):(V.mk 110 (dec m) 0 []).bytes=putN m:=by simp[V.bytes,bF,eR]
theorem nG:(V.mk 102 [121,101,115] 0 []).bytes=[1]:=by simp[V.bytes,bF]
theorem pK:(V.mk 102 [110,111] 0 []).bytes=[0]:=by simp[V.bytes,bF]
theorem wV {l:List V} (h:∀ u,u∈l->u.bytes.length<=u.print.length):(l.map V.bytes).flatten.length<=(l.map V.print).flatten.length:=by
 induction l with
 | nil=>simp
 | cons v l ih =>
  have h1:=h v (by simp);have h2:=ih (fun u hu=>h u (by simp[hu]));simp only[List.map_cons,List.flatten_cons,List.length_append];omega
theorem uT {l:List V} (h:∀ u,u∈l->u.bytes.length<=u.print.length+1):(l.map V.bytes).flatten.length<=(l.map V.print).flatten.length+l.length:=by
 induction l with
 | nil=>simp
 | cons v l ih =>
  have h1:=h v (by simp);have h2:=ih (fun u hu=>h u (by simp[hu]));simp only[List.map_cons,List.flatten_cons,List.length_append,List.length_cons];omega
theorem wL {g:Nat} {v:V} (hg:g<=200) (h:v.bytes.length<=v.print.length) (hs:v.print.length<16384) :
  (V.mk 61 [] g [v]).bytes.length<=(V.mk 61 [] g [v]).print.length+1:=by
 rw[jG,eJ];have:=iZ (show g<=999999 by omega);have:=tR (show v.bytes.length<16384 by omega);simp only[List.length_append,List.length_cons];omega
theorem hM {x:Sc}:∀ (n:Nat) (k:K) (v:V),Typed x n k v->v.print.length<16384->v.bytes.length<=v.print.length:=by
 intro n;induction n with
 | zero=>intro k v h;simp[Typed] at h
 | succ n ih =>
  intro k v h hs;cases k with
  | num=>obtain⟨m,hm,rfl⟩:=h;rw[qU,fQ];exact iZ hm
  | txt =>
   obtain⟨b,_,hl,rfl⟩:=h;rw[pN,eX,bM (by omega)];simp
  | flag =>
   rcases h with rfl|rfl
   ·rw[nG,dL];simp
   ·rw[pK,dL];simp
  | list k =>
   obtain⟨l,hl,hu,rfl⟩:=h;rw[dG] at hs ⊢;rw[mL,bM (by omega)];have hm:∀ u,u∈l->u.bytes.length<=u.print.length:=fun u hx=>by
    refine ih k u (hu u hx) ?_;have:=eB (l:=l.map V.print) (List.mem_map.2 ⟨u,hx,rfl⟩);simp only[List.length_cons,List.length_append] at hs;omega
   have h1:=wV hm;have h2:=sQ (l.map V.print);simp only[List.length_append,List.length_cons,List.length_nil] at h1 h2 ⊢;omega
  | opt k =>
   rcases h with rfl|⟨u,hu,rfl⟩
   ·rw[sZ,fB];simp
   ·rw[dV] at hs ⊢
    rw[mC];simp only[List.length_cons] at hs ⊢;have:=ih k u hu (by omega);omega
  | ref nm =>
   obtain⟨t,ht,h⟩:=h;rcases h with⟨h1,f,hf,h2,rfl⟩|⟨h1,h2,f,u,hf,h3,hu,rfl⟩|⟨h1,h2,l,hpw,hl,rfl⟩
   ·rw[tQ,eY]
    have:=iZ (show f.tag<=999999 by omega);simp;omega
   ·rw[eK] at hs ⊢
    simp only[List.length_cons,List.length_append,List.length_nil] at hs;have:=ih f.kind u hu (by omega);have h4:=iZ (show f.tag<=999999 by omega);have h5:=tR (show u.bytes.length<16384 by omega);rw[nC];simp only[List.length_cons,List.length_append,List.length_nil];omega
   ·rw[cV] at hs ⊢
    rw[lC];have hm:∀ u,u∈(l.map fun e=>V.mk 61 [] e.1.tag [e.2])->u.bytes.length<=u.print.length+1:=by
     intro u hx;obtain⟨e,he,rfl⟩:=List.mem_map.1 hx;obtain⟨_,c2,c3,c4,_⟩:=hl e he;have hsz:e.2.print.length<16384:=by
      have:=eB (l:=(l.map fun e=>V.mk 61 [] e.1.tag [e.2]).map V.print) (List.mem_map.2 ⟨_,hx,rfl⟩);rw[eJ] at this;simp only[List.length_cons,List.length_append] at hs this;omega
     exact wL c3 (ih _ _ c4 hsz) hsz
    have h1':=uT hm;by_cases hn:l=[]
    ·subst hn;simp
    ·have:=gP ((l.map fun e=>V.mk 61 [] e.1.tag [e.2]).map V.print) (by simpa using hn)
     simp only[List.length_append,List.length_cons,List.length_nil,List.length_map] at h1' this ⊢;omega
theorem a7E (r:Bs):getN (0::r)=some (0,r):=by simp[getN]
end Wf

namespace Wf
theorem nZ {x:Sc}:∀ (n:Nat) (k:K) (v:V),Typed x n k v->∀ m,n<=m->Typed x m k v:=by
 intro n;induction n with
 | zero=>intro k v h;simp[Typed] at h
 | succ n ih =>
  intro k v h m hm;cases m with
  | zero=>omega
  | succ m =>
   have hm':n<=m:=(by omega);cases k with
   | num=>exact h
   | txt=>exact h
   | flag=>exact h
   | list k =>
    obtain⟨l,hl,hu,rfl⟩:=h;exact⟨l,hl,fun u hx=>ih k u (hu u hx) m hm',rfl⟩
   | opt k =>
    rcases h with rfl|⟨u,hu,rfl⟩
    ·exact .inl rfl
    ·exact .inr ⟨u,ih k u hu m hm',rfl⟩
   | ref nm =>
    obtain⟨t,ht,h⟩:=h;refine⟨t,ht,?_⟩;rcases h with h|⟨h1,h2,f,u,hf,h3,hu,rfl⟩|⟨h1,h2,l,hpw,hl,rfl⟩
    ·exact .inl h
    ·exact .inr (.inl ⟨h1,h2,f,u,hf,h3,ih f.kind u hu m hm',rfl⟩)
    ·refine .inr (.inr ⟨h1,h2,l,hpw,fun e he=>?_,rfl⟩)
     obtain⟨a,b,c,d,e5⟩:=hl e he;exact⟨a,b,c,ih _ _ d m hm',e5⟩
theorem lJ {x:Sc}:∀ (n:Nat) (k:K) (v:V),Typed x n k v->1<=v.deep/\v.deep<=n:=by
 intro n;induction n with
 | zero=>intro k v h;simp[Typed] at h
 | succ n ih =>
  intro k v h;cases k with
  | num=>obtain⟨_,_,rfl⟩:=h;simp[V.deep,V.aJ]
  | txt=>obtain⟨_,_,_,rfl⟩:=h;simp[V.deep,V.aJ]
  | flag=>rcases h with rfl|rfl <;> simp[V.deep,V.aJ]
  | list k =>
   obtain⟨l,_,hu,rfl⟩:=h;have:V.aJ l<=n:=V.fK.2 fun u hx=>(ih k u (hu u hx)).2;simp[V.deep];omega
  | opt k =>
   rcases h with rfl|⟨u,hu,rfl⟩
   ·simp[V.deep,V.aJ]
   ·have:=(ih k u hu).2
    simp[V.deep,V.aJ];omega
  | ref nm =>
   obtain⟨t,ht,h⟩:=h;rcases h with⟨_,f,_,_,rfl⟩|⟨h1,h2,f,u,hf,h3,hu,rfl⟩|⟨h1,h2,l,hpw,hl,rfl⟩
   ·simp[V.deep,V.aJ]
   ·have:=(ih _ _ hu).2
    simp[V.deep,V.aJ];omega
   ·have:V.aJ (l.map fun e=>V.mk 61 [] e.1.tag [e.2])<=n:=V.fK.2 fun u hx=>by
     obtain⟨e,he,rfl⟩:=List.mem_map.1 hx;rw[fE];exact(ih _ _ (hl e he).2.2.2.1).2
    simp[V.deep];omega
theorem a0B {x:Sc}:∀ (m:Nat) (k:K) (v:V),Typed x m k v->∀ n,v.deep<=n->Typed x n k v:=by
 intro m;induction m with
 | zero=>intro k v h;simp[Typed] at h
 | succ m ih =>
  intro k v h n hn;cases n with
  | zero=>have:=(lJ _ _ _ h).1;omega
  | succ n =>
   cases k with
   | num=>exact h
   | txt=>exact h
   | flag=>exact h
   | list k =>
    obtain⟨l,hl,hu,rfl⟩:=h;rw[fV (by decide)] at hn;exact⟨l,hl,fun u hx=>ih k u (hu u hx) n (V.fK.1 (by omega) u hx),rfl⟩
   | opt k =>
    rcases h with rfl|⟨u,hu,rfl⟩
    ·exact .inl rfl
    ·rw[fV (by decide)] at hn
     exact .inr ⟨u,ih k u hu n (V.fK.1 (show V.aJ [u]<=n by omega) u (by simp)),rfl⟩
   | ref nm =>
    obtain⟨t,ht,h⟩:=h;refine⟨t,ht,?_⟩;rcases h with h|⟨h1,h2,f,u,hf,h3,hu,rfl⟩|⟨h1,h2,l,hpw,hl,rfl⟩
    ·exact .inl h
    ·rw[fV (by decide)] at hn
     exact .inr (.inl ⟨h1,h2,f,u,hf,h3,ih f.kind u hu n (V.fK.1 (show V.aJ [u]<=n by omega) u (by simp)),rfl⟩)
    ·rw[fV (by decide)] at hn
     refine .inr (.inr ⟨h1,h2,l,hpw,fun e he=>?_,rfl⟩);obtain⟨a,b,c,d,e5⟩:=hl e he;have:=V.fK.1 (show V.aJ (l.map fun e=>V.mk 61 [] e.1.tag [e.2])<=n by omega) _ (List.mem_map.2 ⟨e,he,rfl⟩);rw[fE] at this;exact⟨a,b,c,ih _ _ d n this,e5⟩
end Wf

namespace Wf
def fieldB (want:Nat):Nat->Nat->Bs->Option Bs
 | 0,_,_=>none
 | m+1,last,s =>
  match getN s with
  | none=>none
  | some (tag,rest) =>
   match takeN rest with
   | none=>none
   | some (part,more)=>if tag<=last then none else if tag=want then some part else fieldB want m tag more
theorem uR:takeN []=none:=by simp[takeN,getN]
theorem a6Z (want:Nat):∀ (es:List (Fd × V)) (m last:Nat),(last::es.map (fun e=>e.1.tag)).Pairwise (· < ·) ->
  (∀ e,e∈es->e.1.tag<=200/\e.2.bytes.length<=999999)->es.length<m ->
  fieldB want m last (((es.map tagged).map V.bytes).flatten++[0])=(es.find? (fun e=>e.1.tag==want)).map (fun e=>e.2.bytes):=by
 intro es;induction es with
 | nil =>
  intro m last _ _ hm;cases m with
  | zero=>simp at hm
  | succ m=>simp[fieldB,a7E,uR]
 | cons e es ih =>
  intro m last hpw he hm;cases m with
  | zero=>simp at hm
  | succ m =>
   obtain⟨f,v⟩:=e;obtain⟨a2,a3⟩:=he (f,v) (by simp);simp only at a2 a3;simp only[List.map_cons] at hpw;obtain⟨b1,b2⟩:=List.pairwise_cons.1 hpw;have hlt:last<f.tag:=b1 f.tag (by simp);have et:(tagged (f,v)).bytes=putN f.tag++(putN v.bytes.length++v.bytes):=jG _ _;simp only[List.map_cons,List.flatten_cons,et,List.append_assoc,fieldB];rw[tC _ (by omega)];simp only;rw[zV a3];simp only;rw[if_neg (by omega)];by_cases hw:f.tag=want
   ·rw[if_pos hw,List.find?_cons_of_pos (by simpa using hw)];rfl
   ·rw[if_neg hw,List.find?_cons_of_neg (by simpa using hw)]
    exact ih m f.tag b2 (fun e hx=>he e (by simp[hx])) (by simp at hm;omega)
def getEs (x:Sc) (es:List (Fd × V)) (f:Fd):Bs :=
 match es.find? (fun e=>e.1.tag==f.tag) with
 | some e=>e.2.print
 | none=>aL x f
end Wf

namespace Wf
def nxt (x:Sc) (t:Ty):Option Ty :=
 if t.sort≠85 then none else
 match t.fields with
 | []=>none
 | f::_ =>
  match f.kind with
  | .ref nm=>x.find nm
  | _=>none
theorem endsIn_succ (x:Sc) (n:Nat) (t:Ty):endsIn x (n+1) t=(match nxt x t with|none=>true|some u=>endsIn x n u):=by
 simp only[endsIn,nxt];split
 ·rfl
 ·cases t.fields with
  | nil=>rfl
  | cons f fs =>
   simp only;cases f.kind with
   | ref nm=>simp only;cases x.find nm <;> rfl
   | num=>rfl
   | txt=>rfl
   | flag=>rfl
   | list k=>rfl
   | opt k=>rfl
theorem iB {x:Sc}:∀ (n:Nat) (t:Ty),endsIn x n t=true->∀ m,n<=m->endsIn x m t=true:=by
 intro n;induction n with
 | zero=>intro t h;simp[endsIn] at h
 | succ n ih =>
  intro t h m hm;cases m with
  | zero=>omega
  | succ m =>
   rw[endsIn_succ] at h ⊢;cases hn:nxt x t with
   | none=>rfl
   | some u=>rw[hn] at h;exact ih u h m (by omega)
def walked (x:Sc):Nat->Ty->List Ty
 | 0,_=>[]
 | n+1,t=>t::(match nxt x t with|none=>[]|some u=>walked x n u)
theorem lQ {x:Sc}:∀ (n:Nat) (t:Ty),endsIn x n t=true->endsIn x (walked x n t).length t=true/\(∀ m,endsIn x m t=true->(walked x n t).length<=m):=by
 intro n;induction n with
 | zero=>intro t h;simp[endsIn] at h
 | succ n ih =>
  intro t h;rw[endsIn_succ] at h;simp only[walked];cases hn:nxt x t with
  | none =>
   refine⟨by simp[endsIn_succ,hn],fun m hm=>?_⟩;cases m with
   | zero=>simp[endsIn] at hm
   | succ m=>simp
  | some u =>
   rw[hn] at h;obtain⟨h1,h2⟩:=ih u h;simp only[List.length_cons];refine⟨by rw[endsIn_succ,hn];exact h1,fun m hm=>?_⟩;cases m with
   | zero=>simp[endsIn] at hm
   | succ m =>
    rw[endsIn_succ,hn] at hm;have:=h2 m hm;omega
theorem vZ {x:Sc}:∀ (n:Nat) (t:Ty),endsIn x n t=true->∀ v,v∈walked x n t->endsIn x (walked x n t).length v=true/\(v≠t->endsIn x ((walked x n t).length-1) v=true):=by
 intro n;induction n with
 | zero=>intro t h;simp[endsIn] at h
 | succ n ih =>
  intro t h v hv;have hl:=(lQ (n+1) t h).1;rw[endsIn_succ] at h;simp only[walked] at hv hl ⊢;cases hn:nxt x t with
  | none =>
   rw[hn] at hv;simp only[List.mem_singleton] at hv;subst hv;rw[hn] at hl;exact⟨hl,fun e=>absurd rfl e⟩
  | some u =>
   rw[hn] at hv h hl;simp only at h;rcases List.mem_cons.1 hv with rfl|hv
   ·exact⟨hl,fun e=>absurd rfl e⟩
   ·obtain⟨a1,_⟩:=ih u h v hv
    simp only[List.length_cons,Nat.add_sub_cancel];exact⟨iB _ _ a1 _ (by omega),fun _=>a1⟩
theorem a1N {x:Sc}:∀ (n:Nat) (t:Ty),endsIn x n t=true->(walked x n t).Nodup:=by
 intro n;induction n with
 | zero=>intro t h;simp[endsIn] at h
 | succ n ih =>
  intro t h;have h0:=h;rw[endsIn_succ] at h;simp only[walked];cases hn:nxt x t with
  | none=>simp
  | some u =>
   rw[hn] at h;simp only at h;refine List.nodup_cons.2 ⟨fun hm=>?_,ih u h⟩;obtain⟨a1,_⟩:=vZ n u h t hm;have:=(lQ (n+1) t h0).2 _ a1;simp only[walked,hn,List.length_cons] at this;omega
theorem a2D {x:Sc} {t u:Ty} (h:nxt x t=some u):u∈x:=by
 unfold nxt at h;split at h
 ·simp at h
 ·split at h
  ·simp at h
  ·split at h
   ·exact(bI h).1
   ·simp at h
theorem a3N {x:Sc}:∀ (n:Nat) (t:Ty),t∈x->∀ v,v∈walked x n t->v∈x:=by
 intro n;induction n with
 | zero=>intro t _ v h;simp[walked] at h
 | succ n ih =>
  intro t ht v hv;simp only[walked] at hv;rcases List.mem_cons.1 hv with rfl|hv
  ·exact ht
  ·cases hn:nxt x t with
   | none=>rw[hn] at hv;simp at hv
   | some u=>rw[hn] at hv;exact ih u (a2D hn) v hv
theorem a6N {α:Type} [DecidableEq α]:∀ (l x:List α),l.Nodup->(∀ a,a∈l->a∈x)->l.length<=x.length:=by
 intro l;induction l with
 | nil=>intro x _ _;simp
 | cons a l ih =>
  intro x hn hs;obtain⟨h1,h2⟩:=List.nodup_cons.1 hn;have ha:=hs a (by simp);have:=ih (x.erase a) h2 (fun b hb=>(List.mem_erase_of_ne (fun e=>h1 (by rw[<-e];exact hb))).2 (hs b (by simp[hb])));rw[List.length_erase_of_mem ha] at this;have:=List.length_pos_of_mem ha;simp only[List.length_cons];omega
theorem uD {x:Sc} {t:Ty} (ht:t∈x) {n:Nat} (h:endsIn x n t=true):endsIn x x.length t=true:=by
 have h1:=(lQ n t h).1;have h2:=a6N _ x (a1N n t h) (a3N n t ht);exact iB _ _ h1 _ h2
theorem vM {x:Sc} (hx:∀ t,t∈x->TyOk t):∀ (n m:Nat) (t:Ty) (nm:Bs),x.find nm=some t->endsIn x n t=true->n<=m->stands x m (.ref nm)=stands x n (.ref nm):=by
 intro n;induction n with
 | zero=>intro m t nm _ h;simp[endsIn] at h
 | succ n ih =>
  intro m t nm ht h hm;cases m with
  | zero=>omega
  | succ m =>
   simp only[stands,ht];split
   ·rfl
   ·rename_i h82
    split
    ·rfl
    ·rename_i f fs hf
     split
     ·rfl
     ·rename_i h69
      by_cases h85:t.sort=85
      ·rw[endsIn_succ] at h
       have hn:nxt x t=(match f.kind with | .ref nm=>x.find nm|_=>none):=(by simp[nxt,h85,hf]);rw[hn] at h;cases hk:f.kind with
       | ref nm2 =>
        rw[hk] at h;simp only at h;cases hu:x.find nm2 with
        | none=>cases m <;> cases n <;> simp[stands,hu]
        | some u =>
         rw[hu] at h;simp only at h;rw[ih m u nm2 hu h (by omega)]
       | num=>cases m <;> cases n <;> simp[stands]
       | txt=>cases m <;> cases n <;> simp[stands]
       | flag=>cases m <;> cases n <;> simp[stands]
       | list k=>cases m <;> cases n <;> simp[stands]
       | opt k=>cases m <;> cases n <;> simp[stands]
      ·rcases(hx t (bI ht).1).sort with h|h|h
       ·exact absurd h h82
       ·exact absurd h h85
       ·exact absurd h h69
end Wf

namespace Wf
def mapTys:List Bs->Option (List Ty)
 | []=>some []
 | s::l =>
  match lineTy s with
  | none=>none
  | some t=>(mapTys l).map (t :: ·)
def dJ (x:List Ty):Bool:=decide ((x.map (·.name)).Pairwise (· ≠ ·))
theorem addTys_eq:∀ (l:List Bs) (acc:List Ty),acc.length<=8->(acc.map (·.name)).Pairwise (· ≠ ·) ->
  addTys acc l=if acc.length+l.length<=8 then (match mapTys l with|none=>none|some r=>if dJ (acc++r)=true then some (acc++r) else none) else none:=by
 intro l;induction l with
 | nil=>intro acc h hn;simp[addTys,mapTys,h,dJ,hn]
 | cons s l ih =>
  intro acc h hn;simp only[addTys,mapTys,List.length_cons];by_cases h8:acc.length=8
  ·rw[if_pos h8,if_neg (by omega)]
  ·rw[if_neg h8]
   cases ht:lineTy s with
   | none=>simp
   | some t =>
    simp only;by_cases ha:acc.any (fun u=>u.name==t.name)=true
    ·rw[if_pos ha]
     simp only[List.any_eq_true,beq_iff_eq] at ha;obtain⟨u,hu,hut⟩:=ha;split
     ·cases mapTys l with
      | none=>rfl
      | some r =>
       simp only[Option.map_some];rw[if_neg];simp only[dJ,decide_eq_true_eq,List.map_append,List.map_cons];intro hp;exact(List.pairwise_append.1 hp).2.2 u.name (List.mem_map.2 ⟨u,hu,rfl⟩) t.name (by simp) hut
     ·rfl
    ·rw[if_neg ha]
     simp only[List.any_eq_true,beq_iff_eq,not_exists,not_and] at ha;rw[ih (acc++[t]) (by simp;omega) (by
      rw[List.map_append];refine List.pairwise_append.2 ⟨hn,by simp,?_⟩;intro a hx b hb;obtain⟨g,hg,rfl⟩:=List.mem_map.1 hx;simp only[List.map_cons,List.map_nil,List.mem_singleton] at hb;subst hb;exact ha g hg)]
     simp only[List.length_append,List.length_cons,List.length_nil];by_cases hl:acc.length+(l.length+1)<=8
     ·rw[if_pos (by omega),if_pos hl]
      cases mapTys l with
      | none=>rfl
      | some r=>simp
     ·rw[if_neg (by omega),if_neg hl]
def jX (s:Bs):Option Sc :=
 if 400<s.length\/9<(cutAt 10 s).length\/(cutAt 10 s).getLast? ≠ some [] then none else
 match mapTys (cutAt 10 s).dropLast with
 | none=>none
 | some x=>if dJ x=true/\cG x=true/\x.all (endsIn x (x.length+1))=true then some x else none
theorem a5Y (s:Bs):jX s=schemaOf s:=by
 unfold jX schemaOf;by_cases h1:400<s.length
 ·simp[h1]
 ·by_cases h2:(cutAt 10 s).getLast? ≠ some []
  ·simp[h1,h2]
  ·have hlen:=List.length_pos_iff.2 (bZ 10 s)
   have hdl:(cutAt 10 s).dropLast.length=(cutAt 10 s).length-1:=(by simp);rw[addTys_eq _ _ (by simp) (by simp)];simp only[h1,h2,if_false,or_false,false_or,List.length_nil,Nat.zero_add,List.nil_append];by_cases h3:9<(cutAt 10 s).length
   ·rw[if_pos h3,if_neg (by omega)]
   ·rw[if_neg h3,if_pos (by omega)]
    cases hm:mapTys (cutAt 10 s).dropLast with
    | none=>rfl
    | some x =>
     have hxl:x.length<=8:=by
      have:∀ (l:List Bs) (r:List Ty),mapTys l=some r->r.length=l.length:=by
       intro l;induction l with
       | nil=>intro r h;simp[mapTys] at h;subst h;rfl
       | cons a l ih =>
        intro r h;simp only[mapTys] at h;split at h
        ·simp at h
        ·cases hr:mapTys l with
         | none=>rw[hr] at h;simp at h
         | some r'=>rw[hr] at h;simp at h;subst h;simp[ih r' hr]
      have:=this _ _ hm;omega
     simp only;by_cases hn:dJ x=true
     ·simp only[hn,true_and,if_true]
      have he:x.all (endsIn x (x.length+1))=x.all (endsIn x 9):=by
       rw[Bool.eq_iff_iff,List.all_eq_true,List.all_eq_true];constructor
       ·intro h t ht;exact iB _ _ (h t ht) _ (by omega)
       ·intro h t ht;exact iB _ _ (uD ht (h t ht)) _ (by omega)
      rw[he]
     ·simp[hn]
end Wf

namespace Wf
abbrev Asc (es:List (Fd × V)):Prop:=(es.map (fun e=>e.1.tag)).Pairwise (· < ·)
theorem kX {x:Sc} {nm:Bs} (h:aN x (.ref nm)=true):∃ t,x.find nm=some t:=by
 simp only[aN,K.base,K.name,ne_eq,not_true_eq_false,decide_false,Bool.false_or] at h;exact Option.isSome_iff_exists.1 h
end Wf

namespace Wf
inductive BOk:V->Prop
 | mk {what:UInt8} {text:Bs} {tag:Nat} {kids:List V} (h1:what=110->∃ m,m<=999999/\text=dec m) (h2:what=116->text.length<=12) (h3:what=63->kids.length<=1) (h4:what=85\/what=61->∃ u,kids=[u]) (ht:tag<=999999) (hl:kids.length<=1000)
   (h7:what=110\/what=116\/what=102\/what=91\/what=63\/what=69\/what=85\/what=61\/what=82) (hk:∀ u,u∈kids->BOk u):BOk (.mk what text tag kids)
theorem BOk.leaf {what:UInt8} {text:Bs} {tag:Nat} (h:what=110\/what=116\/what=102\/what=91\/what=63\/what=69\/what=82) (h1:what=110->∃ m,m<=999999/\text=dec m) (h2:what=116->text.length<=12) (h3:tag<=999999):BOk (.mk what text tag []) :=
 .mk h1 h2 (fun _=>Nat.zero_le _) (fun h'=>by rcases h with rfl|rfl|rfl|rfl|rfl|rfl|rfl <;> rcases h' with h'|h' <;> exact absurd h' (by decide)) h3 (Nat.zero_le _) (by rcases h with h|h|h|h|h|h|h <;> simp[h]) (fun u hu=>absurd hu List.not_mem_nil)
theorem typed_bok {x:Sc}:∀ (n:Nat) (k:K) (v:V),Typed x n k v->BOk v:=by
 intro n;induction n with
 | zero=>intro k v h;exact h.elim
 | succ n ih =>
  intro k v h;cases k with
  | num=>obtain⟨m,hm,rfl⟩:=h;exact .leaf (.inl rfl) (fun _=>⟨m,hm,rfl⟩) (fun h=>absurd h (by decide)) (Nat.zero_le _)
  | txt=>obtain⟨b,_,hb,rfl⟩:=h;exact .leaf (.inr (.inl rfl)) (fun h=>absurd h (by decide)) (fun _=>hb) (Nat.zero_le _)
  | flag =>
   rcases h with rfl|rfl
   ·exact .leaf (.inr (.inr (.inl rfl))) (fun h=>absurd h (by decide)) (fun h=>absurd h (by decide)) (Nat.zero_le _)
   ·exact .leaf (.inr (.inr (.inl rfl))) (fun h=>absurd h (by decide)) (fun h=>absurd h (by decide)) (Nat.zero_le _)
  | list k' =>
   obtain⟨l,hl,hk,rfl⟩:=h;exact .mk (fun h=>absurd h (by decide)) (fun h=>absurd h (by decide)) (fun h=>absurd h (by decide)) (fun h=>by rcases h with h|h <;> exact absurd h (by decide)) (Nat.zero_le _) (by omega) (by simp) fun u hu=>ih k' u (hk u hu)
  | opt k' =>
   rcases h with rfl|⟨u,hu,rfl⟩
   ·exact .leaf (.inr (.inr (.inr (.inr (.inl rfl))))) (fun h=>absurd h (by decide)) (fun h=>absurd h (by decide)) (Nat.zero_le _)
   ·exact .mk (fun h=>absurd h (by decide)) (fun h=>absurd h (by decide)) (fun _=>Nat.le_refl _) (fun h=>by rcases h with h|h <;> exact absurd h (by decide)) (Nat.zero_le _) (by simp) (by simp) fun w hw=>by rw[List.mem_singleton.1 hw];exact ih k' u hu
  | ref nm =>
   obtain⟨t,ht,h⟩:=h;rcases h with⟨_,f,_,hf,rfl⟩|⟨_,_,f,u,_,hf,hu,rfl⟩|⟨_,_,l,hs,hl,rfl⟩
   ·exact .leaf (.inr (.inr (.inr (.inr (.inr (.inl rfl)))))) (fun h=>absurd h (by decide)) (fun h=>absurd h (by decide)) (by omega)
   ·exact .mk (fun h=>absurd h (by decide)) (fun h=>absurd h (by decide)) (fun h=>absurd h (by decide)) (fun _=>⟨u,rfl⟩) (by omega) (by simp) (by simp) fun w hw=>by rw[List.mem_singleton.1 hw];exact ih f.kind u hu
   ·have hlen:l.length<=1000:=by
     refine Nat.le_trans ?_ (show 200<=1000 by omega);have h1:(l.map fun e=>e.1.tag).length<=(List.range 201).length-1:=by
      have hp:∀ (m:List Nat) (lo:Nat),(∀ g,g∈m->lo<g/\g<=200)->m.Pairwise (· < ·)->m.length<=200-lo:=by
       intro m;induction m with
       | nil=>intro lo _ _;exact Nat.zero_le _
       | cons g m ihm =>
        intro lo hg hpw;obtain⟨hp1,hp2⟩:=List.pairwise_cons.1 hpw;have h1:=hg g List.mem_cons_self;have h2:=ihm g (fun c hc=>⟨hp1 c hc,(hg c (List.mem_cons_of_mem _ hc)).2⟩) hp2;rw[List.length_cons];omega
      have h2:=hp (l.map fun e=>e.1.tag) 0 (fun g hg=>by
       obtain⟨e,he,rfl⟩:=List.mem_map.1 hg;exact⟨(hl e he).1,(hl e he).2.2.1⟩) hs
      simpa using h2
     simpa using h1
    refine .mk (fun h=>absurd h (by decide)) (fun h=>absurd h (by decide)) (fun h=>absurd h (by decide)) (fun h=>by rcases h with h|h <;> exact absurd h (by decide)) (Nat.zero_le _) (by rw[List.length_map];exact hlen) (by simp) fun u hu=>?_;obtain⟨e,he,rfl⟩:=List.mem_map.1 hu;have h:=hl e he;exact .mk (fun h=>absurd h (by decide)) (fun h=>absurd h (by decide)) (fun h=>absurd h (by decide)) (fun _=>⟨e.2,rfl⟩) (by omega) (by simp) (by simp) fun w hw=>by rw[List.mem_singleton.1 hw];exact ih e.1.kind e.2 h.2.2.2.1
theorem bytes_by {what:UInt8} {text:Bs} {tag:Nat} {kids:List V} (h:BOk (.mk what text tag kids)) (q:Nat) (hq:what.toNat=q) :
  (q=110/\∃ m,m<=999999/\text=dec m/\(V.mk what text tag kids).bytes=putN m)\/(q=116/\text.length<=12/\(V.mk what text tag kids).bytes=putN text.length++text) \/
  (q=102/\text=[121,101,115]/\(V.mk what text tag kids).bytes=[1])\/(q=102/\text≠[121,101,115]/\(V.mk what text tag kids).bytes=[0]) \/
  (q=91/\(V.mk what text tag kids).bytes=putN kids.length++(kids.map V.bytes).flatten)\/(q=63/\kids=[]/\(V.mk what text tag kids).bytes=[0])\/(q=63/\∃ u,kids=[u]/\(V.mk what text tag kids).bytes=1::u.bytes) \/
  (q=69/\(V.mk what text tag kids).bytes=putN tag)\/((q=85\/q=61)/\∃ u,kids=[u]/\(V.mk what text tag kids).bytes=putN tag++(putN u.bytes.length++u.bytes)) \/
  (q=82/\(V.mk what text tag kids).bytes=(kids.map V.bytes).flatten++[0]):=by
 subst hq;cases h with
 | mk h1 h2 h3 h4 h5 h6 h7 h8 =>
  rcases h7 with rfl|rfl|rfl|rfl|rfl|rfl|rfl|rfl|rfl
  ·obtain⟨m,hm,rfl⟩:=h1 rfl
   exact .inl ⟨rfl,m,hm,rfl,by simp[V.bytes,bF,eR]⟩
  ·exact .inr (.inl ⟨rfl,h2 rfl,by simp[V.bytes,bF]⟩)
  ·by_cases ht:text=[121,101,115]
   ·exact .inr (.inr (.inl ⟨rfl,ht,by simp[V.bytes,bF,ht]⟩))
   ·exact .inr (.inr (.inr (.inl ⟨rfl,ht,by simp[V.bytes,bF,ht]⟩)))
  ·exact .inr (.inr (.inr (.inr (.inl ⟨rfl,by simp[V.bytes,bF,V.dS]⟩))))
  ·cases kids with
   | nil=>exact .inr (.inr (.inr (.inr (.inr (.inl ⟨rfl,rfl,by simp[V.bytes,bF,V.dS]⟩)))))
   | cons u l =>
    have hl:l=[]:=by
     have:=h3 rfl;cases l with
     | nil=>rfl
     | cons a l=>simp at this
    subst hl;exact .inr (.inr (.inr (.inr (.inr (.inr (.inl ⟨rfl,u,rfl,by simp[V.bytes,bF,V.dS]⟩))))))
  ·exact .inr (.inr (.inr (.inr (.inr (.inr (.inr (.inl ⟨rfl,by simp[V.bytes,bF]⟩)))))))
  ·obtain⟨u,rfl⟩:=h4 (.inl rfl)
   exact .inr (.inr (.inr (.inr (.inr (.inr (.inr (.inr (.inl ⟨.inl rfl,u,rfl,by simp[V.bytes,bF,V.dS]⟩))))))))
  ·obtain⟨u,rfl⟩:=h4 (.inr rfl)
   exact .inr (.inr (.inr (.inr (.inr (.inr (.inr (.inr (.inl ⟨.inr rfl,u,rfl,by simp[V.bytes,bF,V.dS]⟩))))))))
  ·exact .inr (.inr (.inr (.inr (.inr (.inr (.inr (.inr (.inr ⟨rfl,by simp[V.bytes,bF,V.dS]⟩))))))))
end Wf

namespace Wf
end Wf

namespace Wf
end Wf
