/- Packed. -/
import Derived.Test.YtidjpalnmnehmaaGreatDoorK0
set_option maxRecDepth 99999
set_option maxHeartbeats 40000000
set_option linter.all false
namespace Wf
def qR (r:Bs):Prop:=∀ c,r.head? = some c->aD c=false
theorem sO (n:Nat):∃ c t,dec n=c::t/\aD c=true:=by
 have h:=iX n;cases hd:dec n with
 | nil=>exact absurd hd (eO n)
 | cons c t=>rw[hd] at h;simp at h;exact⟨c,t,rfl,h.1⟩
theorem lY {c:UInt8} (h:aD c=true):c≠93/\c≠125/\c≠44/\c≠62:=by
 simp only[aD,Bool.and_eq_true,decide_eq_true_eq] at h;refine⟨?_,?_,?_,?_⟩ <;> (intro e;subst e;revert h;decide)
theorem dB (tag:Nat) (v:V):(V.mk 61 [] tag [v]).print=dec tag++61::v.print:=eZ (⟨tag,[],.num,[]⟩,v)
theorem dK (l:List V):(V.mk 91 [] 0 l).print=91::(commas (l.map V.print)++[93]):=by simp[V.print,form,V.fF]
theorem dS (l:List V):(V.mk 82 [] 0 l).print=123::(commas (l.map V.print)++[125]):=by simp[V.print,form,V.fF]
theorem fR:(V.mk 63 [] 0 []).print=[45]:=by simp[V.print,form,V.fF]
theorem dE (v:V):(V.mk 63 [] 0 [v]).print=43::v.print:=by simp[V.print,form,V.fF,commas]
theorem dY (tag:Nat) (v:V):(V.mk 85 [] tag [v]).print=60::(dec tag++61::(v.print++[62])):=by simp[V.print,form,V.fF,commas]
theorem eX (tag:Nat):(V.mk 69 [] tag []).print=35::dec tag:=by simp[V.print,form]
theorem eU (b:Bs):(V.mk 116 b 0 []).print=39::(b++[39]):=by simp[V.print,form]
theorem eR (b:Bs):(V.mk 110 b 0 []).print=b:=by simp[V.print,form]
theorem cU (b:Bs):(V.mk 102 b 0 []).print=b:=by simp[V.print,form]
theorem kW {x:Sc} {n:Nat} {k:K} {v:V} (h:Typed x n k v):∃ c t,v.print=c::t/\c≠93/\c≠125:=by
 cases n with
 | zero=>simp[Typed] at h
 | succ n =>
  cases k with
  | num =>
   obtain⟨m,_,rfl⟩:=h;obtain⟨c,t,hd,hc⟩:=sO m;exact⟨c,t,by rw[eR,hd],(lY hc).1,(lY hc).2.1⟩
  | txt=>obtain⟨b,_,_,rfl⟩:=h;exact⟨_,_,eU b,by decide,by decide⟩
  | flag =>
   rcases h with rfl|rfl
   ·exact⟨_,_,cU _,by decide,by decide⟩
   ·exact⟨_,_,cU _,by decide,by decide⟩
  | list k=>obtain⟨l,_,_,rfl⟩:=h;exact⟨_,_,dK l,by decide,by decide⟩
  | opt k =>
   rcases h with rfl|⟨u,_,rfl⟩
   ·exact⟨_,_,fR,by decide,by decide⟩
   ·exact⟨_,_,dE u,by decide,by decide⟩
  | ref nm =>
   obtain⟨t,_,h⟩:=h;rcases h with⟨_,f,_,_,rfl⟩|⟨_,_,f,u,_,_,_,rfl⟩|⟨_,_,l,_,_,rfl⟩
   ·exact⟨_,_,eX _,by decide,by decide⟩
   ·exact⟨_,_,dY _ _,by decide,by decide⟩
   ·exact⟨_,_,dS _,by decide,by decide⟩
theorem qE {l:List Bs} (h:∀ a,a∈l->a≠[]):l.length<=(commas l).length:=by
 induction l with
 | nil=>simp
 | cons a l ih =>
  have ha:=List.length_pos_iff.2 (h a (by simp));have ih':=ih (fun b hb=>h b (by simp[hb]));by_cases hl:l=[]
  ·subst hl;simp[commas];omega
  ·rw[dJ _ hl];simp;omega
theorem oJ {a:Bs} {l:List Bs} {c:UInt8} {t:Bs} (h:a=c::t):∃ u,commas (a::l)=c::u:=by
 by_cases hl:l=[]
 ·subst hl;exact⟨t,by simp[commas,h]⟩
 ·exact⟨t++44::commas l,by rw[dJ _ hl,h];rfl⟩
theorem iI:aG 39=false:=by decide
theorem wR {g:Nat} {u v:V} {s r:Bs} (h:closeU g u s=some (v,r)):∃ q,s=62::q/\v=.mk 85 [] g [u]/\r=q:=by
 unfold closeU at h;split at h
 ·rename_i q
  simp only[zaE,zaK] at h;exact⟨q,rfl,h.1.symm,h.2.symm⟩
 ·simp at h
theorem xH {x:Sc} {n:Nat} {t:Ty} {s r:Bs} {v:V} {nm:Bs} (ht:x.find nm=some t)
  (ih:∀ k s v r,parse x n k s=some (v,r)->Typed x n k v/\s=v.print++r)
  (h:parseTy x (fun k' s'=>parse x n k' s') t s=some (v,r)):Typed x (n+1) (.ref nm) v/\s=v.print++r:=by
 have hp:∀ (f:Fd) (s:Bs) (v:V) (r:Bs),(fun k' s'=>parse x n k' s') f.kind s=some (v,r)->Typed x n f.kind v/\s=v.print++r:=fun f s v r hh=>ih _ _ _ _ hh;unfold parseTy at h;by_cases h1:t.sort=69
 ·rw[if_pos h1] at h
  cases s with
  | nil=>simp at h
  | cons c q =>
   by_cases hc:c=35
   ·subst hc
    simp only at h;cases hn:aO 200 q with
    | none=>rw[hn] at h;simp at h
    | some y =>
     obtain⟨tag,rest⟩:=y;rw[hn] at h;simp only at h;split at h
     ·rename_i hs
      simp only[zaE,zaK] at h;obtain⟨rfl,rfl⟩:=h;obtain⟨f,hf⟩:=Option.isSome_iff_exists.1 hs;have e:=gI hf;subst e;obtain⟨g1,g2,_,_⟩:=gM hn;exact⟨⟨t,ht,.inl ⟨h1,f,hf,g2,rfl⟩⟩,by rw[eX,g1];rfl⟩
     ·simp at h
   ·split at h
    ·rename_i heq;simp only[List.cons.injEq] at heq;exact absurd heq.1 hc
    ·simp at h
 ·rw[if_neg h1] at h
  by_cases h2:t.sort=85
  ·rw[if_pos h2] at h
   cases s with
   | nil=>simp at h
   | cons c q =>
    by_cases hc:c=60
    ·subst hc
     simp only at h;cases hf:fieldTok t (fun k' s'=>parse x n k' s') q with
     | none=>rw[hf] at h;simp at h
     | some y =>
      obtain⟨f,u,rest⟩:=y;rw[hf] at h;obtain⟨a1,a2,a3,a4⟩:=jL hp hf;obtain⟨q',hq,rfl,rfl⟩:=wR h;subst hq;exact⟨⟨t,ht,.inr (.inl ⟨h1,h2,f,u,a1,a2,a3,rfl⟩)⟩,by rw[dY,a4];simp⟩
    ·split at h
     ·rename_i heq;simp only[List.cons.injEq] at heq;exact absurd heq.1 hc
     ·simp at h
  ·rw[if_neg h2] at h
   cases s with
   | nil=>simp at h
   | cons c q =>
    by_cases hc:c=123
    ·subst hc
     simp only at h;have fin:∀ y:List V × Bs,fieldsW x t (fun k' s'=>parse x n k' s') q.length 0 q=some y->v=.mk 82 [] 0 y.1->r=y.2->Typed x (n+1) (.ref nm) v/\123::q=v.print++r:=by
      rintro⟨l,r'⟩ hy rfl rfl;obtain⟨es,_,rfl,b3,b4,b5⟩:=a1F hp _ _ _ _ _ hy;obtain⟨b6,b7⟩:=List.pairwise_cons.1 b3;refine⟨⟨t,ht,.inr (.inr ⟨h1,h2,es,b7,?_,rfl⟩)⟩,by rw[dS,b5];simp⟩;intro e he;obtain⟨c1,c2,c3,c4⟩:=b4 e he;exact⟨b6 _ (List.mem_map.2 ⟨e,he,rfl⟩),c1,c2,c3,c4⟩
     cases q with
     | nil=>simp[fieldsW] at h
     | cons d q' =>
      by_cases hd:d=125
      ·subst hd
       simp only[zaE,zaK] at h;obtain⟨rfl,rfl⟩:=h;exact⟨⟨t,ht,.inr (.inr ⟨h1,h2,[],by simp,by simp,rfl⟩)⟩,by rw[dS];simp[commas]⟩
      ·split at h
       ·rename_i heq;simp only[List.cons.injEq] at heq;exact absurd heq.1 hd
       ·cases hy:fieldsW x t (fun k' s'=>parse x n k' s') (d::q').length 0 (d::q') with
        | none=>rw[hy] at h;simp at h
        | some y =>
         rw[hy] at h;simp only[zaL,zaE,zaK] at h;exact fin y hy h.1.symm h.2.symm
    ·split at h
     ·rename_i heq;simp only[List.cons.injEq] at heq;exact absurd heq.1 hc
     ·simp at h
theorem dW {x:Sc}:∀ (n:Nat) (k:K) (s:Bs) (v:V) (r:Bs),parse x n k s=some (v,r)->Typed x n k v/\s=v.print++r:=by
 intro n;induction n with
 | zero=>intro k s v r h;simp[parse] at h
 | succ n ih =>
  intro k s v r h;cases k with
  | num =>
   simp only[parse] at h;cases hn:aO 999999 s with
   | none=>rw[hn] at h;simp at h
   | some y =>
    rw[hn] at h;simp only[zaL,zaE,zaK] at h;obtain⟨rfl,rfl⟩:=h;obtain⟨g1,g2,_,_⟩:=gM (n:=y.1) (r:=y.2) hn;exact⟨⟨y.1,g2,rfl⟩,by rw[eR];exact g1⟩
  | txt =>
   simp only[parse] at h;split at h
   ·rename_i q
    split at h
    ·rename_i q' hq
     split at h
     ·rename_i hl
      simp only[zaE,zaK] at h;obtain⟨rfl,rfl⟩:=h;refine⟨⟨_,?_,hl,rfl⟩,?_⟩
      ·exact List.all_takeWhile
      ·rw[eU]
       have:=List.takeWhile_append_dropWhile (p:=aG) (l:=q);rw[hq] at this;simp only[zaN,zaT,List.nil_append,this]
     ·simp at h
    ·simp at h
   ·simp at h
  | flag =>
   simp only[parse] at h;split at h
   ·simp only[zaE,zaK] at h
    obtain⟨rfl,rfl⟩:=h;exact⟨.inl rfl,by rw[cU];rfl⟩
   ·simp only[zaE,zaK] at h
    obtain⟨rfl,rfl⟩:=h;exact⟨.inr rfl,by rw[cU];rfl⟩
   ·simp at h
  | list k =>
   simp only[parse] at h;split at h
   ·rename_i q
    split at h
    ·simp only[zaE,zaK] at h
     obtain⟨rfl,rfl⟩:=h;exact⟨⟨[],by simp,by simp,rfl⟩,by rw[dK];simp[commas]⟩
    ·cases hi:itemsW (parse x n k) q.length q with
     | none=>rw[hi] at h;simp at h
     | some y =>
      obtain⟨l,q'⟩:=y;rw[hi] at h;simp only at h;split at h
      ·rename_i hl
       simp only[zaE,zaK] at h;obtain⟨rfl,rfl⟩:=h;obtain⟨_,b2,b3⟩:=a2L (Q:=Typed x n k) (fun s v r hh=>ih _ _ _ _ hh) _ _ _ _ hi;exact⟨⟨l,hl,b2,rfl⟩,by rw[dK,b3];simp⟩
      ·simp at h
   ·simp at h
  | opt k =>
   simp only[parse] at h;split at h
   ·simp only[zaE,zaK] at h
    obtain⟨rfl,rfl⟩:=h;exact⟨.inl rfl,by rw[fR];rfl⟩
   ·rename_i q
    cases hq:parse x n k q with
    | none=>rw[hq] at h;simp at h
    | some y =>
     obtain⟨u,q'⟩:=y;rw[hq] at h;simp only[zaL,zaE,zaK] at h;obtain⟨rfl,rfl⟩:=h;obtain⟨b1,b2⟩:=ih _ _ _ _ hq;exact⟨.inr ⟨u,b1,rfl⟩,by rw[dE,b2];rfl⟩
   ·simp at h
  | ref nm =>
   simp only[parse] at h;cases ht:x.find nm with
   | none=>rw[ht] at h;simp at h
   | some t =>
    rw[ht] at h;exact xH ht ih h
theorem uK {x:Sc}:∀ (n:Nat) (k:K) (v:V) (r:Bs),Typed x n k v->qR r->parse x n k (v.print++r)=some (v,r):=by
 intro n;induction n with
 | zero=>intro k v r h;simp[Typed] at h
 | succ n ih =>
  intro k v r h hr;cases k with
  | num =>
   obtain⟨m,hm,rfl⟩:=h;simp only[parse,eR];rw[jX hm hm hr];rfl
  | txt =>
   obtain⟨b,hb,hl,rfl⟩:=h;have ha:∀ a,a∈b->aG a=true:=List.all_eq_true.1 hb;simp only[parse,eU,zaN,zaT,List.nil_append];have e1:(b++39::r).takeWhile aG=b:=by
    rw[List.takeWhile_append_of_pos ha,List.takeWhile_cons,iI];simp
   have e2:(b++39::r).dropWhile aG=39::r:=by
    rw[List.dropWhile_append_of_pos ha,List.dropWhile_cons,iI];simp
   rw[e1,e2];simp[hl]
  | flag =>
   rcases h with rfl|rfl
   ·simp[parse,cU]
   ·simp[parse,cU]
  | list k =>
   obtain⟨l,hl,hu,rfl⟩:=h;rw[dK];by_cases hn:l=[]
   ·subst hn;simp[parse,commas]
   ·obtain⟨u,l',rfl⟩:=List.exists_cons_of_ne_nil hn
    obtain⟨c,t,hc,hc1,_⟩:=kW (hu u (by simp));have hlen:(u::l').length<=(commas ((u::l').map V.print)++93::r).length:=by
     have:=qE (l:=(u::l').map V.print) (by
      intro a ha;obtain⟨w,hw,rfl⟩:=List.mem_map.1 ha;obtain⟨c,t,hc,_⟩:=kW (hu w hw);rw[hc];simp)
     simp only[zaG,zaD,zaF] at this ⊢;omega
    have hrd:=wD (p:=parse x n k) (Q:=Typed x n k) (fun v r hv hr=>ih k v r hv hr) (u::l') (commas ((u::l').map V.print)++93::r).length r (by simp) hu hlen;obtain⟨w,hw⟩:=oJ (l:=l'.map V.print) hc;simp only[zaN,zaT,List.nil_append];simp only[zaX] at hrd ⊢;rw[hw] at hrd ⊢;simp only[parse];split
    ·rename_i heq;simp only[zaN,List.cons.injEq] at heq;exact absurd heq.1 hc1
    ·rw[hrd];simp only[hl,if_true]
  | opt k =>
   rcases h with rfl|⟨u,hu,rfl⟩
   ·simp[parse,fR]
   ·rw[dE]
    simp only[parse,zaN];rw[ih k u r hu hr];rfl
  | ref nm =>
   obtain⟨t,ht,h⟩:=h;simp only[parse,ht];rcases h with⟨h1,f,hf,h2,rfl⟩|⟨h1,h2,f,u,hf,h3,hu,rfl⟩|⟨h1,h2,l,hpw,hl,rfl⟩
   ·rw[eX]
    simp only[parseTy,if_pos h1,zaN];rw[jX h2 (by omega) hr];simp[hf]
   ·rw[dY]
    simp only[parseTy,if_neg h1,if_pos h2,zaN,zaT,List.nil_append];rw[jV (p:=fun k' s'=>parse x n k' s') hf h3 (ih f.kind u (62::r) hu (by simp[qR,aD]))];rfl
   ·rw[dS]
    simp only[parseTy,if_neg h1,if_neg h2,zaN,zaT,List.nil_append];by_cases hn:l=[]
    ·subst hn;simp[commas]
    ·obtain⟨e,l',rfl⟩:=List.exists_cons_of_ne_nil hn
     have hlen:(e::l').length<=(commas (((e::l').map tagged).map V.print)++125::r).length:=by
      have:=qE (l:=((e::l').map tagged).map V.print) (by
       intro a ha;obtain⟨w,hw,rfl⟩:=List.mem_map.1 ha;obtain⟨g,hg,rfl⟩:=List.mem_map.1 hw;rw[eZ];simp[eO])
      simp only[zaG,zaD,zaF] at this ⊢;omega
     have hrd:=zX (x:=x) (t:=t) (p:=fun k' s'=>parse x n k' s') (Q:=fun f v=>Typed x n f.kind v) (fun f v r hv hr=>ih f.kind v r hv hr)
      (e::l') (commas (((e::l').map tagged).map V.print)++125::r).length 0 r (by simp)
      (List.pairwise_cons.2 ⟨by
       intro a ha;obtain⟨g,hg,rfl⟩:=List.mem_map.1 ha;exact(hl g hg).1,hpw⟩) (fun e he=>(hl e he).2) hlen
     obtain⟨c,tt,hc,hcd⟩:=sO e.1.tag;have hp0:(tagged e).print=c::(tt++61::e.2.print):=(by rw[eZ,hc];rfl);obtain⟨w,hw⟩:=oJ (l:=(l'.map tagged).map V.print) hp0;have ee:(fun e:Fd × V=>V.mk 61 [] e.1.tag [e.2])=tagged:=rfl;rw[ee];simp only[zaX] at hrd ⊢;rw[hw] at hrd ⊢;simp only[zaN] at hrd ⊢;split
     ·rename_i heq;simp only[List.cons.injEq] at heq;exact absurd heq.1 (lY hcd).2.1
     ·rw[hrd];rfl
end Wf

namespace Wf
theorem eQ (tag:Nat) (v:V):(V.mk 61 [] tag [v]).deep=v.deep:=by simp[zaP,V.deep,V.aJ]
theorem fO {what:UInt8} (h:what≠61) (t:Bs) (g:Nat) (l:List V):(V.mk what t g l).deep=V.aJ l+1:=by simp[zaP,V.deep,h]
theorem a2M {p p':Reads} {d:Nat} (hp:∀ s,p s=(p' s).filter (fun y=>decide (y.1.deep<=d))) :
  ∀ (m:Nat) (s:Bs),itemsW p m s=(itemsW p' m s).filter (fun y=>decide (V.aJ y.1<=d)):=by
 intro m;induction m with
 | zero=>intro s;rfl
 | succ m ih =>
  intro s;simp only[itemsW];rw[hp s];cases hq:p' s with
  | none=>rfl
  | some y =>
   obtain⟨v,rest⟩:=y;by_cases hd:v.deep<=d
   ·have e:(some (v,rest)).filter (fun y:V × Bs=>decide (y.1.deep<=d))=some (v,rest):=by simp only[zaP,hd,decide_true,decide_false,if_true,if_false];try simp
    rw[e];simp only;split
    ·rename_i r
     rw[ih r];cases itemsW p' m r with
     | none=>rfl
     | some y =>
      by_cases hy:V.aJ y.1<=d
      ·simp[zaP,hy,V.aJ,hd,Nat.max_le]
      ·simp[zaP,hy,V.aJ,hd,Nat.max_le]
    ·simp[zaP,V.aJ,hd]
    ·rfl
   ·have e:(some (v,rest)).filter (fun y:V × Bs=>decide (y.1.deep<=d))=none:=by simp only[zaP,hd,decide_true,decide_false,if_true,if_false];try simp
    rw[e];simp only;split
    ·rename_i r
     cases itemsW p' m r with
     | none=>rfl
     | some y=>simp[zaP,V.aJ,hd,Nat.max_le]
    ·simp[zaP,V.aJ,hd]
    ·rfl
theorem nJ {t:Ty} {p p':K->Reads} {d:Nat} (hp:∀ k s,p k s=(p' k s).filter (fun y=>decide (y.1.deep<=d))) (s:Bs) :
  fieldTok t p s=(fieldTok t p' s).filter (fun y=>decide (y.2.1.deep<=d)):=by
 unfold fieldTok;cases aO 200 s with
 | none=>rfl
 | some y =>
  obtain⟨tag,rest⟩:=y;simp only;split
  ·rename_i r f _
   rw[hp];cases p' f.kind r with
   | none=>rfl
   | some z=>by_cases hz:z.1.deep<=d <;> simp[zaP,hz]
  ·rfl
theorem zH {x:Sc} {t:Ty} {p p':K->Reads} {d:Nat} (hp:∀ k s,p k s=(p' k s).filter (fun y=>decide (y.1.deep<=d))) :
  ∀ (m last:Nat) (s:Bs),fieldsW x t p m last s=(fieldsW x t p' m last s).filter (fun y=>decide (V.aJ y.1<=d)):=by
 intro m;induction m with
 | zero=>intro last s;rfl
 | succ m ih =>
  intro last s;simp only[fieldsW];rw[nJ hp s];cases hq:fieldTok t p' s with
  | none=>rfl
  | some y =>
   obtain⟨f,v,rest⟩:=y;by_cases hd:v.deep<=d
   ·have e:(some (f,v,rest)).filter (fun y:Fd × V × Bs=>decide (y.2.1.deep<=d))=some (f,v,rest):=by simp only[zaP,hd,decide_true,decide_false,if_true,if_false];try simp
    rw[e];simp only;split
    ·rfl
    ·split
     ·rename_i r
      rw[ih f.tag r];cases fieldsW x t p' m f.tag r with
      | none=>rfl
      | some y =>
       by_cases hy:V.aJ y.1<=d
       ·simp[zaP,hy,V.aJ,hd,Nat.max_le,eQ]
       ·simp[zaP,hy,V.aJ,hd,Nat.max_le,eQ]
     ·simp[zaP,V.aJ,hd,eQ]
     ·rfl
   ·have e:(some (f,v,rest)).filter (fun y:Fd × V × Bs=>decide (y.2.1.deep<=d))=none:=by simp only[zaP,hd,decide_true,decide_false,if_true,if_false];try simp
    rw[e];simp only;split
    ·rfl
    ·split
     ·rename_i r
      cases fieldsW x t p' m f.tag r with
      | none=>rfl
      | some y=>simp[zaP,V.aJ,hd,Nat.max_le,eQ]
     ·simp[zaP,V.aJ,hd,eQ]
     ·rfl
theorem uY {x:Sc}:∀ (n m:Nat),n<=m->∀ (k:K) (s:Bs),parse x n k s=(parse x m k s).filter (fun y=>decide (y.1.deep<=n)):=by
 intro n;induction n with
 | zero =>
  intro m _ k s;cases hp:parse x m k s with
  | none=>simp[zaP,parse]
  | some y =>
   obtain⟨v,r⟩:=y;have ht:=(dW _ _ _ _ _ hp).1;have:v.deep≠0:=by
    cases m with
    | zero=>simp[zaP,Typed] at ht
    | succ m =>
     cases k with
     | num=>obtain⟨_,_,rfl⟩:=ht;simp[zaP,V.deep]
     | txt=>obtain⟨_,_,_,rfl⟩:=ht;simp[zaP,V.deep]
     | flag=>rcases ht with rfl|rfl <;> simp[zaP,V.deep]
     | list k=>obtain⟨_,_,_,rfl⟩:=ht;simp[zaP,V.deep]
     | opt k=>rcases ht with rfl|⟨_,_,rfl⟩ <;> simp[zaP,V.deep]
     | ref nm =>
      obtain⟨t,_,h⟩:=ht;rcases h with⟨_,f,_,_,rfl⟩|⟨_,_,f,u,_,_,_,rfl⟩|⟨_,_,l,_,_,rfl⟩ <;> simp[zaP,V.deep]
   simp[zaP,parse,this]
 | succ n ih =>
  intro m hm k s;cases m with
  | zero=>omega
  | succ m =>
   have ih':=ih m (by omega);cases k with
   | num =>
    simp only[parse];cases aO 999999 s with
    | none=>rfl
    | some y=>simp[zaP,V.deep,V.aJ]
   | txt =>
    simp only[parse];repeat' split
    all_goals simp[zaP,V.deep,V.aJ]
   | flag =>
    simp only[parse];repeat' split
    all_goals simp[zaP,V.deep,V.aJ]
   | list k =>
    simp only[parse];split
    ·rename_i q
     split
     ·simp[zaP,V.deep,V.aJ]
     ·rw[a2M (ih' k) q.length q]
      cases itemsW (parse x m k) q.length q with
      | none=>rfl
      | some y =>
       obtain⟨l,r⟩:=y;by_cases hl:V.aJ l<=n
       ·by_cases h20:l.length<=20
        ·simp[zaP,hl,h20,V.deep]
        ·simp[zaP,hl,h20]
       ·by_cases h20:l.length<=20
        ·simp[zaP,hl,h20,V.deep]
        ·simp[zaP,hl,h20]
    ·rfl
   | opt k =>
    simp only[parse];split
    ·simp[zaP,V.deep,V.aJ]
    ·rename_i q
     rw[ih' k q];cases parse x m k q with
     | none=>rfl
     | some y=>by_cases hy:y.1.deep<=n <;> simp[zaP,hy,V.deep,V.aJ]
    ·rfl
   | ref nm =>
    simp only[parse];cases x.find nm with
    | none=>rfl
    | some t =>
     simp only[parseTy];split
     ·split
      ·split
       ·rfl
       ·split
        ·simp[zaP,V.deep,V.aJ]
        ·rfl
      ·rfl
     ·split
      ·split
       ·rename_i r
        rw[nJ (p:=fun k' s'=>parse x n k' s') (p':=fun k' s'=>parse x m k' s') (d:=n) (fun k s=>ih' k s) r];cases fieldTok t (fun k' s'=>parse x m k' s') r with
        | none=>rfl
        | some y =>
         obtain⟨f,v,rest⟩:=y;rw[zaP];by_cases hv:v.deep<=n
         ·simp only[hv,decide_true,if_true]
          unfold closeU;split
          ·simp[zaP,V.deep,V.aJ,hv]
          ·rfl
         ·simp only[hv,decide_false,if_false,Bool.false_eq_true]
          unfold closeU;split
          ·simp[zaP,V.deep,V.aJ,hv]
          ·rfl
       ·rfl
      ·split
       ·rename_i q
        split
        ·simp[zaP,V.deep,V.aJ]
        ·rw[zH (p:=fun k' s'=>parse x n k' s') (p':=fun k' s'=>parse x m k' s') (d:=n) (fun k s=>ih' k s) q.length 0 q]
         cases fieldsW x t (fun k' s'=>parse x m k' s') q.length 0 q with
         | none=>rfl
         | some y=>by_cases hy:V.aJ y.1<=n <;> simp[zaP,hy,V.deep]
       ·rfl
end Wf

namespace Wf
def bE (what:UInt8) (text:Bs) (tag:Nat) (parts:List Bs):Bs :=
 if what=110 then putN (val text)
 else if what=116 then putN text.length++text
 else if what=102 then (if text=[121,101,115] then [1] else [0])
 else if what=91 then putN parts.length++parts.flatten
 else if what=63 then (if parts=[] then [0] else 1::parts.flatten)
 else if what=69 then putN tag
 else if what=85\/what=61 then putN tag++(putN parts.flatten.length++parts.flatten)
 else parts.flatten++[0]
mutual
def V.bytes:V->Bs
 | .mk what text tag kids=>bE what text tag (V.bytess kids)
def V.bytess:List V->List Bs
 | []=>[]
 | v::l=>v.bytes::V.bytess l
end
theorem V.dL (l:List V):V.bytess l=l.map V.bytes:=by
 induction l with
 | nil=>rfl
 | cons v l ih=>simp[V.bytess,ih]
def getItems (p:Reads):Nat->Bs->Option (List V × Bs)
 | 0,s=>some ([],s)
 | m+1,s =>
  match p s with
  | none=>none
  | some (v,r)=>(getItems p m r).map fun y=>(v::y.1,y.2)
def takeN (s:Bs):Option (Bs × Bs) :=
 match getN s with
 | none=>none
 | some (n,r)=>if n<=r.length then some (r.take n,r.drop n) else none
def whole (p:Reads) (s:Bs):Option V :=
 match p s with
 | none=>none
 | some (v,r)=>if r=[] then some v else none
def getFields (x:Sc) (t:Ty) (p:K->Reads):Nat->Nat->Bs->Option (List V × List Nat × Bs)
 | 0,_,_=>none
 | m+1,last,s =>
  match getN s with
  | none=>none
  | some (tag,rest) =>
   if tag=0 then some ([],[],rest) else
   match takeN rest with
   | none=>none
   | some (part,more) =>
    if tag<=last then none else
    match t.field tag with
    | none=>(getFields x t p m tag more).map fun y=>(y.1,tag::y.2.1,y.2.2)
    | some f =>
     match whole (p f.kind) part with
     | none=>none
     | some v=>(getFields x t p m tag more).map fun y=>(if v.print=aK x f then y.1 else .mk 61 [] tag [v]::y.1,y.2.1,y.2.2)
def bF (x:Sc) (p:K->Reads) (t:Ty) (s:Bs):Option (V × Bs) :=
 if t.sort=69 then
  match getN s with
  | none=>none
  | some (tag,rest)=>if (t.field tag).isSome then some (.mk 69 [] tag [],rest) else none
 else if t.sort=85 then
  match getN s with
  | none=>none
  | some (tag,rest) =>
   match t.field tag with
   | none=>none
   | some f =>
    match takeN rest with
    | none=>none
    | some (part,more)=>(whole (p f.kind) part).map fun v=>(.mk 85 [] tag [v],more)
 else (getFields x t p s.length 0 s).map fun y=>(.mk 82 [] 0 y.1,y.2.2)
def getB (x:Sc):Nat->K->Reads
 | 0,_,_=>none
 | n+1,k,s =>
  match k with
  | .num=>(getN s).map fun y=>(.mk 110 (dec y.1) 0 [],y.2)
  | .txt =>
   match takeN s with
   | none=>none
   | some (b,r)=>if b.all aG=true/\b.length<=12 then some (.mk 116 b 0 [],r) else none
  | .flag =>
   match s with
   | 0::r=>some (.mk 102 [110,111] 0 [],r)
   | 1::r=>some (.mk 102 [121,101,115] 0 [],r)
   | _=>none
  | .list k' =>
   match getN s with
   | none=>none
   | some (m,r)=>if m<=20 then (getItems (getB x n k') m r).map fun y=>(.mk 91 [] 0 y.1,y.2) else none
  | .opt k' =>
   match s with
   | 0::r=>some (.mk 63 [] 0 [],r)
   | 1::r=>(getB x n k' r).map fun y=>(.mk 63 [] 0 [y.1],y.2)
   | _=>none
  | .ref nm =>
   match x.find nm with
   | none=>none
   | some t=>bF x (fun k' s'=>getB x n k' s') t s
def jI (x:Sc):Prop:=∀ nm t,x.find nm=some t->∀ g f,t.field g=some f->1<=f.tag/\f.tag<=200
theorem tO {p:Reads} {Q:V->Prop} (hp:∀ s v r,p s=some (v,r)->Q v) :
  ∀ (m:Nat) (s:Bs) (l:List V) (r:Bs),getItems p m s=some (l,r)->l.length=m/\∀ u,u∈l->Q u:=by
 intro m;induction m with
 | zero=>intro s l r h;simp[getItems] at h;obtain⟨rfl,_⟩:=h;simp
 | succ m ih =>
  intro s l r h;simp only[getItems] at h;cases hq:p s with
  | none=>rw[hq] at h;simp at h
  | some y =>
   obtain⟨v,rest⟩:=y;rw[hq] at h;simp only at h;cases hi:getItems p m rest with
   | none=>rw[hi] at h;simp at h
   | some y =>
    obtain⟨l',q⟩:=y;rw[hi] at h;simp only[zaL,zaE,zaK] at h;obtain⟨rfl,rfl⟩:=h;obtain⟨h1,h2⟩:=ih _ _ _ hi;exact⟨by simp[h1],by simpa using ⟨hp _ _ _ hq,h2⟩⟩
theorem lD {p:Reads} {s:Bs} {v:V} (h:whole p s=some v):p s=some (v,[]):=by
 unfold whole at h;cases hp:p s with
 | none=>rw[hp] at h;simp at h
 | some y =>
  obtain⟨u,r⟩:=y;rw[hp] at h;simp only at h;split at h
  ·rename_i hr;simp only[zaE] at h;rw[h,hr]
  ·simp at h
theorem uE {x:Sc} {t:Ty} {p:K->Reads} {Q:Fd->V->Prop} (hp:∀ f s v r,p f.kind s=some (v,r)->Q f v) :
  ∀ (m last:Nat) (s:Bs) (l:List V) (sk:List Nat) (r:Bs),getFields x t p m last s=some (l,sk,r) ->
   (∃ es:List (Fd × V),l=es.map tagged/\(last::es.map (fun e=>e.1.tag)).Pairwise (· < ·) /\
    (∀ e,e∈es->t.field e.1.tag=some e.1/\Q e.1 e.2/\e.2.print≠aK x e.1)) /\
   (last::sk).Pairwise (· < ·)/\(∀ g,g∈sk->t.field g=none):=by
 intro m;induction m with
 | zero=>intro last s l sk r h;simp[getFields] at h
 | succ m ih =>
  intro last s l sk r h;simp only[getFields] at h;cases hn:getN s with
  | none=>rw[hn] at h;simp at h
  | some y =>
   obtain⟨tag,rest⟩:=y;rw[hn] at h;simp only at h;split at h
   ·simp only[zaE,zaK] at h
    obtain⟨rfl,rfl,rfl⟩:=h;exact⟨⟨[],rfl,by simp,by simp⟩,by simp,by simp⟩
   ·cases ht:takeN rest with
    | none=>rw[ht] at h;simp at h
    | some z =>
     obtain⟨part,more⟩:=z;rw[ht] at h;simp only at h;split at h
     ·simp at h
     ·rename_i hlt
      have hlt':last<tag:=(by omega);have up:∀ L:List Nat,(tag::L).Pairwise (· < ·)->(last::L).Pairwise (· < ·):=by
       intro L hL;obtain⟨a1,a2⟩:=List.pairwise_cons.1 hL;exact List.pairwise_cons.2 ⟨fun b hb=>Nat.lt_trans hlt' (a1 b hb),a2⟩
      cases hf:t.field tag with
      | none =>
       rw[hf] at h;simp only at h;cases hg:getFields x t p m tag more with
       | none=>rw[hg] at h;simp at h
       | some y =>
        obtain⟨l',sk',q⟩:=y;rw[hg] at h;simp only[zaL,zaE,zaK] at h;obtain⟨rfl,rfl,rfl⟩:=h;obtain⟨⟨es,e1,e2,e3⟩,e4,e5⟩:=ih _ _ _ _ _ hg;refine⟨⟨es,e1,up _ e2,e3⟩,List.pairwise_cons.2 ⟨?_,e4⟩,?_⟩
        ·intro b hb
         rcases List.mem_cons.1 hb with rfl|hb
         ·exact hlt'
         ·exact Nat.lt_trans hlt' ((List.pairwise_cons.1 e4).1 b hb)
        ·intro g hgm
         rcases List.mem_cons.1 hgm with rfl|hgm
         ·exact hf
         ·exact e5 g hgm
      | some f =>
       rw[hf] at h;simp only at h;cases hw:whole (p f.kind) part with
       | none=>rw[hw] at h;simp at h
       | some v =>
        rw[hw] at h;simp only at h;cases hg:getFields x t p m tag more with
        | none=>rw[hg] at h;simp at h
        | some y =>
         obtain⟨l',sk',q⟩:=y;rw[hg] at h;simp only[zaL,zaE,zaK] at h;obtain⟨hl,rfl,rfl⟩:=h;obtain⟨⟨es,e1,e2,e3⟩,e4,e5⟩:=ih _ _ _ _ _ hg;refine⟨?_,up _ e4,e5⟩;split at hl
         ·exact⟨es,by rw[<-hl,e1],up _ e2,e3⟩
         ·rename_i hne
          have etag:=gI hf;subst etag;refine⟨(f,v)::es,by rw[<-hl,e1];rfl,?_,?_⟩
          ·simp only[zaX]
           refine List.pairwise_cons.2 ⟨?_,e2⟩;intro b hb;rcases List.mem_cons.1 hb with rfl|hb
           ·exact hlt'
           ·exact Nat.lt_trans hlt' ((List.pairwise_cons.1 e2).1 b hb)
          ·intro e he
           rcases List.mem_cons.1 he with rfl|he
           ·exact⟨hf,hp _ _ _ _ (lD hw),hne⟩
           ·exact e3 e he
theorem xP {s b r:Bs} (h:takeN s=some (b,r)):s=putN b.length++(b++r)/\b.length<=999999:=by
 unfold takeN at h;cases hn:getN s with
 | none=>rw[hn] at h;simp at h
 | some y =>
  obtain⟨n,q⟩:=y;rw[hn] at h;simp only at h;split at h
  ·rename_i hl
   simp only[zaE,zaK] at h;obtain⟨rfl,rfl⟩:=h;obtain⟨h1,h2⟩:=lT hn;have:(q.take n).length=n:=(by simp;omega);rw[this,List.take_append_drop];exact⟨h2,h1⟩
  ·simp at h
theorem lQ {b r:Bs} (h:b.length<=999999):takeN (putN b.length++(b++r))=some (b,r):=by
 unfold takeN;rw[fX _ h];simp
theorem fB {x:Sc} (hx:jI x):∀ (n:Nat) (k:K) (s:Bs) (v:V) (r:Bs),getB x n k s=some (v,r)->Typed x n k v:=by
 intro n;induction n with
 | zero=>intro k s v r h;simp[getB] at h
 | succ n ih =>
  intro k s v r h;cases k with
  | num =>
   simp only[getB] at h;cases hn:getN s with
   | none=>rw[hn] at h;simp at h
   | some y =>
    rw[hn] at h;simp only[zaL,zaE,zaK] at h;exact⟨y.1,(lT (n:=y.1) (r:=y.2) hn).1,h.1.symm⟩
  | txt =>
   simp only[getB] at h;split at h
   ·simp at h
   ·split at h
    ·rename_i hb
     simp only[zaE,zaK] at h;exact⟨_,hb.1,hb.2,h.1.symm⟩
    ·simp at h
  | flag =>
   simp only[getB] at h;split at h
   ·simp only[zaE,zaK] at h;exact .inr h.1.symm
   ·simp only[zaE,zaK] at h;exact .inl h.1.symm
   ·simp at h
  | list k =>
   simp only[getB] at h;split at h
   ·simp at h
   ·split at h
    ·rename_i m q _ hm
     cases hi:getItems (getB x n k) m q with
     | none=>rw[hi] at h;simp at h
     | some y =>
      rw[hi] at h;simp only[zaL,zaE,zaK] at h;obtain⟨h1,h2⟩:=tO (Q:=Typed x n k) (fun s v r hh=>ih _ _ _ _ hh) m q y.1 y.2 hi;exact⟨y.1,by omega,h2,h.1.symm⟩
    ·simp at h
  | opt k =>
   simp only[getB] at h;split at h
   ·simp only[zaE,zaK] at h;exact .inl h.1.symm
   ·rename_i q
    cases hq:getB x n k q with
    | none=>rw[hq] at h;simp at h
    | some y =>
     rw[hq] at h;simp only[zaL,zaE,zaK] at h;exact .inr ⟨y.1,ih k q y.1 y.2 hq,h.1.symm⟩
   ·simp at h
  | ref nm =>
   simp only[getB] at h;cases ht:x.find nm with
   | none=>rw[ht] at h;simp at h
   | some t =>
    rw[ht] at h;simp only[bF] at h;refine⟨t,ht,?_⟩;split at h
    ·rename_i h1
     split at h
     ·simp at h
     ·split at h
      ·rename_i tag rest _ hs
       simp only[zaE,zaK] at h;obtain⟨f,hf⟩:=Option.isSome_iff_exists.1 hs;have e:=gI hf;subst e;exact .inl ⟨h1,f,hf,(hx _ _ ht _ _ hf).2,h.1.symm⟩
      ·simp at h
    ·rename_i h1
     split at h
     ·rename_i h2
      split at h
      ·simp at h
      ·split at h
       ·simp at h
       ·rename_i f hf
        split at h
        ·simp at h
        ·rename_i part more _
         cases hw:whole (fun s'=>getB x n f.kind s') part with
         | none=>rw[hw] at h;simp at h
         | some u =>
          rw[hw] at h;simp only[zaL,zaE,zaK] at h;have e:=gI hf;subst e;exact .inr (.inl ⟨h1,h2,f,u,hf,(hx _ _ ht _ _ hf).2,ih _ _ _ _ (lD hw),h.1.symm⟩)
     ·rename_i h2
      cases hg:getFields x t (fun k' s'=>getB x n k' s') s.length 0 s with
      | none=>rw[hg] at h;simp at h
      | some y =>
       obtain⟨l,sk,q⟩:=y;rw[hg] at h;simp only[zaL,zaE,zaK] at h;obtain⟨⟨es,e1,e2,e3⟩,_,_⟩:=uE (Q:=fun f v=>Typed x n f.kind v) (fun f s v r hh=>ih _ _ _ _ hh) _ _ _ _ _ _ hg;obtain⟨e4,e5⟩:=List.pairwise_cons.1 e2;refine .inr (.inr ⟨h1,h2,es,e5,?_,by rw[<-h.1,e1];rfl⟩);intro e he;obtain⟨c1,c2,c3⟩:=e3 e he;exact⟨e4 _ (List.mem_map.2 ⟨e,he,rfl⟩),c1,(hx _ _ ht _ _ c1).2,c2,c3⟩
end Wf

namespace Wf
theorem iE {n:Nat} (h:n<=999999):(putN n).length<=(dec n).length:=by
 by_cases h1:n<128
 ·rw[bM h1];have:=List.length_pos_iff.2 (eO n);simp;omega
 ·by_cases h2:n<16384
  ·rw[cB (by omega),bM (by omega)]
   have:=mF n 2 (by omega);simp;omega
  ·rw[cB (by omega),cB (by omega),bM (by omega)]
   have:=mF n 4 (by omega);simp;omega
theorem rU {n:Nat} (h:n<16384):(putN n).length<=2:=by
 by_cases h1:n<128
 ·rw[bM h1];simp
 ·rw[cB (by omega),bM (by omega)];simp
theorem fY (l:List Bs) (h:l≠[]):(commas l).length+1=l.flatten.length+l.length:=by
 induction l with
 | nil=>exact absurd rfl h
 | cons a l ih =>
  by_cases hl:l=[]
  ·subst hl;simp[commas]
  ·rw[dJ _ hl]
   have:=ih hl;simp only[zaD,zaF,List.flatten_cons];omega
theorem rA (l:List Bs):l.flatten.length<=(commas l).length:=by
 by_cases hl:l=[]
 ·subst hl;simp
 ·have:=fY l hl
  have:=List.length_pos_iff.2 hl;omega
theorem dC {l:List Bs} {a:Bs} (h:a∈l):a.length<=(commas l).length:=by
 have h1:=rA l;have:a.length<=l.flatten.length:=by
  clear h1;induction l with
  | nil=>simp at h
  | cons b l ih =>
   rcases List.mem_cons.1 h with rfl|h
   ·simp
   ·have:=ih h
    simp only[List.flatten_cons,zaD];omega
 omega
theorem jB (tag:Nat) (v:V):(V.mk 61 [] tag [v]).bytes=putN tag++(putN v.bytes.length++v.bytes):=by simp[V.bytes,V.bytess,bE]
theorem iM (l:List V):(V.mk 91 [] 0 l).bytes=putN l.length++(l.map V.bytes).flatten:=by simp[V.bytes,bE,V.dL]
theorem lO (l:List V):(V.mk 82 [] 0 l).bytes=(l.map V.bytes).flatten++[0]:=by simp[V.bytes,bE,V.dL]
theorem kT:(V.mk 63 [] 0 []).bytes=[0]:=by simp[V.bytes,bE,V.dL]
theorem gX (v:V):(V.mk 63 [] 0 [v]).bytes=1::v.bytes:=by simp[V.bytes,bE,V.dL]
theorem kB (tag:Nat) (v:V):(V.mk 85 [] tag [v]).bytes=putN tag++(putN v.bytes.length++v.bytes):=by simp[V.bytes,V.bytess,bE]
theorem kM (tag:Nat):(V.mk 69 [] tag []).bytes=putN tag:=by simp[V.bytes,bE]
theorem kR (b:Bs):(V.mk 116 b 0 []).bytes=putN b.length++b:=by simp[V.bytes,bE]
theorem kK (m:Nat):(V.mk 110 (dec m) 0 []).bytes=putN m:=by simp[V.bytes,bE,eG]
theorem jR:(V.mk 102 [121,101,115] 0 []).bytes=[1]:=by simp[V.bytes,bE]
theorem mB:(V.mk 102 [110,111] 0 []).bytes=[0]:=by simp[V.bytes,bE]
theorem tJ {l:List V} (h:∀ u,u∈l->u.bytes.length<=u.print.length):(l.map V.bytes).flatten.length<=(l.map V.print).flatten.length:=by
 induction l with
 | nil=>simp
 | cons v l ih =>
  have h1:=h v (by simp);have h2:=ih (fun u hu=>h u (by simp[hu]));simp only[zaX,List.flatten_cons,zaD];omega
theorem xE {l:List V} (h:∀ u,u∈l->u.bytes.length<=u.print.length+1):(l.map V.bytes).flatten.length<=(l.map V.print).flatten.length+l.length:=by
 induction l with
 | nil=>simp
 | cons v l ih =>
  have h1:=h v (by simp);have h2:=ih (fun u hu=>h u (by simp[hu]));simp only[zaX,List.flatten_cons,zaD,zaF];omega
theorem vF {g:Nat} {v:V} (hg:g<=200) (h:v.bytes.length<=v.print.length) (hs:v.print.length<16384) :
  (V.mk 61 [] g [v]).bytes.length<=(V.mk 61 [] g [v]).print.length+1:=by
 rw[jB,dB];have:=iE (show g<=999999 by omega);have:=rU (show v.bytes.length<16384 by omega);simp only[zaD,zaF];omega
theorem eK {x:Sc}:∀ (n:Nat) (k:K) (v:V),Typed x n k v->v.print.length<16384->v.bytes.length<=v.print.length:=by
 intro n;induction n with
 | zero=>intro k v h;simp[Typed] at h
 | succ n ih =>
  intro k v h hs;cases k with
  | num=>obtain⟨m,hm,rfl⟩:=h;rw[kK,eR];exact iE hm
  | txt =>
   obtain⟨b,_,hl,rfl⟩:=h;rw[kR,eU,bM (by omega)];simp
  | flag =>
   rcases h with rfl|rfl
   ·rw[jR,cU];simp
   ·rw[mB,cU];simp
  | list k =>
   obtain⟨l,hl,hu,rfl⟩:=h;rw[dK] at hs ⊢;rw[iM,bM (by omega)];have hm:∀ u,u∈l->u.bytes.length<=u.print.length:=fun u hx=>by
    refine ih k u (hu u hx) ?_;have:=dC (l:=l.map V.print) (List.mem_map.2 ⟨u,hx,rfl⟩);simp only[zaF,zaD] at hs;omega
   have h1:=tJ hm;have h2:=rA (l.map V.print);simp only[zaD,zaF,zaM] at h1 h2 ⊢;omega
  | opt k =>
   rcases h with rfl|⟨u,hu,rfl⟩
   ·rw[kT,fR];simp
   ·rw[dE] at hs ⊢
    rw[gX];simp only[zaF] at hs ⊢;have:=ih k u hu (by omega);omega
  | ref nm =>
   obtain⟨t,ht,h⟩:=h;rcases h with⟨h1,f,hf,h2,rfl⟩|⟨h1,h2,f,u,hf,h3,hu,rfl⟩|⟨h1,h2,l,hpw,hl,rfl⟩
   ·rw[kM,eX]
    have:=iE (show f.tag<=999999 by omega);simp;omega
   ·rw[dY] at hs ⊢
    simp only[zaF,zaD,zaM] at hs;have:=ih f.kind u hu (by omega);have h4:=iE (show f.tag<=999999 by omega);have h5:=rU (show u.bytes.length<16384 by omega);rw[kB];simp only[zaF,zaD,zaM];omega
   ·rw[dS] at hs ⊢
    rw[lO];have hm:∀ u,u∈(l.map fun e=>V.mk 61 [] e.1.tag [e.2])->u.bytes.length<=u.print.length+1:=by
     intro u hx;obtain⟨e,he,rfl⟩:=List.mem_map.1 hx;obtain⟨_,c2,c3,c4,_⟩:=hl e he;have hsz:e.2.print.length<16384:=by
      have:=dC (l:=(l.map fun e=>V.mk 61 [] e.1.tag [e.2]).map V.print) (List.mem_map.2 ⟨_,hx,rfl⟩);rw[dB] at this;simp only[zaF,zaD] at hs this;omega
     exact vF c3 (ih _ _ c4 hsz) hsz
    have h1':=xE hm;by_cases hn:l=[]
    ·subst hn;simp
    ·have:=fY ((l.map fun e=>V.mk 61 [] e.1.tag [e.2]).map V.print) (by simpa using hn)
     simp only[zaD,zaF,zaM,zaG] at h1' this ⊢;omega
theorem yL {p:Reads} {Q:V->Prop} (hp:∀ v r,Q v->p (v.bytes++r)=some (v,r)) :
  ∀ (l:List V) (r:Bs),(∀ u,u∈l->Q u)->getItems p l.length ((l.map V.bytes).flatten++r)=some (l,r):=by
 intro l;induction l with
 | nil=>intro r _;simp[getItems]
 | cons v l ih =>
  intro r hu;simp only[zaX,List.flatten_cons,zaT,zaF,getItems];rw[hp v _ (hu v (by simp))];simp only;rw[ih r (fun u hx=>hu u (by simp[hx]))];rfl
theorem qX {p:Reads} {v:V} (h:p v.bytes=some (v,[])):whole p v.bytes=some v:=by
 unfold whole;rw[h];simp
theorem a3A (r:Bs):getN (0::r)=some (0,r):=by simp[getN]
theorem yP {x:Sc} {t:Ty} {p:K->Reads} {Q:Fd->V->Prop} (hp:∀ f v,Q f v->p f.kind v.bytes=some (v,[])) :
  ∀ (es:List (Fd × V)) (m last:Nat) (r:Bs),(last::es.map (fun e=>e.1.tag)).Pairwise (· < ·) ->
   (∀ e,e∈es->t.field e.1.tag=some e.1/\e.1.tag<=200/\e.2.bytes.length<=999999/\Q e.1 e.2/\e.2.print≠aK x e.1)->es.length<m ->
   getFields x t p m last (((es.map tagged).map V.bytes).flatten++0::r)=some (es.map tagged,[],r):=by
 intro es;induction es with
 | nil =>
  intro m last r _ _ hm;cases m with
  | zero=>simp at hm
  | succ m=>simp[getFields,a3A]
 | cons e es ih =>
  intro m last r hpw he hm;cases m with
  | zero=>simp at hm
  | succ m =>
   obtain⟨f,v⟩:=e;obtain⟨a1,a2,a3,a4,a5⟩:=he (f,v) (by simp);simp only at a1 a2 a3 a4 a5;simp only[zaX] at hpw;obtain⟨b1,b2⟩:=List.pairwise_cons.1 hpw;have hlt:last<f.tag:=b1 f.tag (by simp);have et:(tagged (f,v)).bytes=putN f.tag++(putN v.bytes.length++v.bytes):=jB _ _;simp only[zaX,List.flatten_cons,et,zaT,getFields];rw[fX _ (by omega)];simp only;rw[if_neg (by omega),lQ a3];simp only;rw[if_neg (by omega),a1];simp only;rw[qX (hp f v a4)];simp only;rw[ih m f.tag r b2 (fun e hx=>he e (by simp[hx])) (by simp at hm;omega)];simp only[zaL,if_neg a5];rfl
theorem rJ {x:Sc}:∀ (n:Nat) (k:K) (v:V) (r:Bs),Typed x n k v->v.print.length<16384->getB x n k (v.bytes++r)=some (v,r):=by
 intro n;induction n with
 | zero=>intro k v r h;simp[Typed] at h
 | succ n ih =>
  intro k v r h hs;have hlen:=eK (n+1) k v h hs;cases k with
  | num =>
   obtain⟨m,hm,rfl⟩:=h;simp only[getB,kK];rw[fX _ hm];rfl
  | txt =>
   obtain⟨b,hb,hl,rfl⟩:=h;simp only[getB,kR,zaT];rw[lQ (by omega)];simp[hb,hl]
  | flag =>
   rcases h with rfl|rfl
   ·simp[getB,jR]
   ·simp[getB,mB]
  | list k =>
   obtain⟨l,hl,hu,rfl⟩:=h;rw[dK] at hs;simp only[getB,iM,zaT];rw[fX _ (by omega)];simp only[hl,if_true];rw[yL (Q:=fun u=>Typed x n k u/\u.print.length<16384) (fun v r hv=>ih k v r hv.1 hv.2) l r (fun u hx=>⟨hu u hx,by
    have:=dC (l:=l.map V.print) (List.mem_map.2 ⟨u,hx,rfl⟩);simp only[zaF,zaD] at hs;omega⟩)]
   rfl
  | opt k =>
   rcases h with rfl|⟨u,hu,rfl⟩
   ·simp[getB,kT]
   ·rw[dE] at hs
    simp only[getB,gX,zaN];rw[ih k u r hu (by simp at hs;omega)];rfl
  | ref nm =>
   obtain⟨t,ht,h⟩:=h;simp only[getB,ht,bF];rcases h with⟨h1,f,hf,h2,rfl⟩|⟨h1,h2,f,u,hf,h3,hu,rfl⟩|⟨h1,h2,l,hpw,hl,rfl⟩
   ·rw[if_pos h1,kM,fX _ (by omega)]
    simp[hf]
   ·rw[dY] at hs
    simp only[zaF,zaD,zaM] at hs;have hb:=eK n f.kind u hu (by omega);rw[if_neg h1,if_pos h2,kB];simp only[zaT];rw[fX _ (by omega)];simp only[hf];rw[lQ (by omega)];simp only;have:=ih f.kind u [] hu (by omega);rw[List.append_nil] at this;rw[qX (p:=fun s'=>getB x n f.kind s') this];rfl
   ·rw[dS] at hs
    rw[if_neg h1,if_neg h2,lO];have hsz:∀ e,e∈l->e.2.print.length<16384:=by
     intro e he;have hx:V.mk 61 [] e.1.tag [e.2]∈(l.map fun e=>V.mk 61 [] e.1.tag [e.2]):=List.mem_map.2 ⟨e,he,rfl⟩;have:=dC (l:=(l.map fun e=>V.mk 61 [] e.1.tag [e.2]).map V.print) (List.mem_map.2 ⟨_,hx,rfl⟩);rw[dB] at this;simp only[zaF,zaD] at hs this;omega
    have hq:=yP (x:=x) (t:=t) (p:=fun k' s'=>getB x n k' s') (Q:=fun f v=>Typed x n f.kind v/\v.print.length<16384)
     (fun f v hv=>by have:=ih f.kind v [] hv.1 hv.2;rwa[List.append_nil] at this) l
     (((l.map tagged).map V.bytes).flatten++[0]++r).length 0 r
     (List.pairwise_cons.2 ⟨by
      intro a ha;obtain⟨g,hg,rfl⟩:=List.mem_map.1 ha;exact(hl g hg).1,hpw⟩)
     (fun e he=>by
      obtain⟨_,c2,c3,c4,c5⟩:=hl e he;have:=eK n _ _ c4 (hsz e he);have:=hsz e he;exact⟨c2,c3,by omega,⟨c4,hsz e he⟩,c5⟩)
     (by
      have:∀ L:List V,(∀ u,u∈L->u.bytes≠[])->L.length<=(L.map V.bytes).flatten.length:=by
       intro L;induction L with
       | nil=>simp
       | cons u L ihL =>
        intro hL;have h1:=List.length_pos_iff.2 (hL u (by simp));have h2:=ihL (fun w hw=>hL w (by simp[hw]));simp only[zaX,List.flatten_cons,zaD,zaF];omega
      have h0:=this (l.map tagged) (by
       intro u hu;obtain⟨e,he,rfl⟩:=List.mem_map.1 hu;have et:(tagged e).bytes=putN e.1.tag++(putN e.2.bytes.length++e.2.bytes):=jB _ _;rw[et];obtain⟨_,_,c3,_⟩:=hl e he;have:=(bZ e.1.tag (by omega)).1;intro h0;have:=congrArg List.length h0;simp only[zaD,zaM] at this;omega)
      simp only[zaG,zaD,zaF] at h0 ⊢;omega)
    have ee:(fun e:Fd × V=>V.mk 61 [] e.1.tag [e.2])=tagged:=rfl;rw[ee];simp only[zaT,zaN,List.nil_append] at hq ⊢;rw[hq];rfl
end Wf

namespace Wf
theorem a3N {x:Sc}:∀ (n:Nat) (k:K) (v:V),Typed x n k v->∀ m,n<=m->Typed x m k v:=by
 intro n;induction n with
 | zero=>intro k v h;simp[Typed] at h
 | succ n ih =>
  intro k v h m hm;cases m with
  | zero=>omega
  | succ m =>
   have hm':n<=m:=(by omega);cases k with
   | num=>exact h
   | txt=>exact h
   | flag=>exact h
   | list k =>
    obtain⟨l,hl,hu,rfl⟩:=h;exact⟨l,hl,fun u hx=>ih k u (hu u hx) m hm',rfl⟩
   | opt k =>
    rcases h with rfl|⟨u,hu,rfl⟩
    ·exact .inl rfl
    ·exact .inr ⟨u,ih k u hu m hm',rfl⟩
   | ref nm =>
    obtain⟨t,ht,h⟩:=h;refine⟨t,ht,?_⟩;rcases h with h|⟨h1,h2,f,u,hf,h3,hu,rfl⟩|⟨h1,h2,l,hpw,hl,rfl⟩
    ·exact .inl h
    ·exact .inr (.inl ⟨h1,h2,f,u,hf,h3,ih f.kind u hu m hm',rfl⟩)
    ·refine .inr (.inr ⟨h1,h2,l,hpw,fun e he=>?_,rfl⟩)
     obtain⟨a,b,c,d,e5⟩:=hl e he;exact⟨a,b,c,ih _ _ d m hm',e5⟩
theorem iO {x:Sc}:∀ (n:Nat) (k:K) (v:V),Typed x n k v->1<=v.deep/\v.deep<=n:=by
 intro n;induction n with
 | zero=>intro k v h;simp[Typed] at h
 | succ n ih =>
  intro k v h;cases k with
  | num=>obtain⟨_,_,rfl⟩:=h;simp[V.deep,V.aJ]
  | txt=>obtain⟨_,_,_,rfl⟩:=h;simp[V.deep,V.aJ]
  | flag=>rcases h with rfl|rfl <;> simp[V.deep,V.aJ]
  | list k =>
   obtain⟨l,_,hu,rfl⟩:=h;have:V.aJ l<=n:=V.eN.2 fun u hx=>(ih k u (hu u hx)).2;simp[V.deep];omega
  | opt k =>
   rcases h with rfl|⟨u,hu,rfl⟩
   ·simp[V.deep,V.aJ]
   ·have:=(ih k u hu).2
    simp[V.deep,V.aJ];omega
  | ref nm =>
   obtain⟨t,ht,h⟩:=h;rcases h with⟨_,f,_,_,rfl⟩|⟨h1,h2,f,u,hf,h3,hu,rfl⟩|⟨h1,h2,l,hpw,hl,rfl⟩
   ·simp[V.deep,V.aJ]
   ·have:=(ih _ _ hu).2
    simp[V.deep,V.aJ];omega
   ·have:V.aJ (l.map fun e=>V.mk 61 [] e.1.tag [e.2])<=n:=V.eN.2 fun u hx=>by
     obtain⟨e,he,rfl⟩:=List.mem_map.1 hx;rw[eQ];exact(ih _ _ (hl e he).2.2.2.1).2
    simp[V.deep];omega
theorem mZ {x:Sc}:∀ (m:Nat) (k:K) (v:V),Typed x m k v->∀ n,v.deep<=n->Typed x n k v:=by
 intro m;induction m with
 | zero=>intro k v h;simp[Typed] at h
 | succ m ih =>
  intro k v h n hn;cases n with
  | zero=>have:=(iO _ _ _ h).1;omega
  | succ n =>
   cases k with
   | num=>exact h
   | txt=>exact h
   | flag=>exact h
   | list k =>
    obtain⟨l,hl,hu,rfl⟩:=h;rw[fO (by decide)] at hn;exact⟨l,hl,fun u hx=>ih k u (hu u hx) n (V.eN.1 (by omega) u hx),rfl⟩
   | opt k =>
    rcases h with rfl|⟨u,hu,rfl⟩
    ·exact .inl rfl
    ·rw[fO (by decide)] at hn
     exact .inr ⟨u,ih k u hu n (V.eN.1 (show V.aJ [u]<=n by omega) u (by simp)),rfl⟩
   | ref nm =>
    obtain⟨t,ht,h⟩:=h;refine⟨t,ht,?_⟩;rcases h with h|⟨h1,h2,f,u,hf,h3,hu,rfl⟩|⟨h1,h2,l,hpw,hl,rfl⟩
    ·exact .inl h
    ·rw[fO (by decide)] at hn
     exact .inr (.inl ⟨h1,h2,f,u,hf,h3,ih f.kind u hu n (V.eN.1 (show V.aJ [u]<=n by omega) u (by simp)),rfl⟩)
    ·rw[fO (by decide)] at hn
     refine .inr (.inr ⟨h1,h2,l,hpw,fun e he=>?_,rfl⟩);obtain⟨a,b,c,d,e5⟩:=hl e he;have:=V.eN.1 (show V.aJ (l.map fun e=>V.mk 61 [] e.1.tag [e.2])<=n by omega) _ (List.mem_map.2 ⟨e,he,rfl⟩);rw[eQ] at this;exact⟨a,b,c,ih _ _ d n this,e5⟩
end Wf

namespace Wf
theorem tN:takeN []=none:=by simp[takeN,getN]
end Wf

namespace Wf
def nxt (x:Sc) (t:Ty):Option Ty :=
 if t.sort≠85 then none else
 match t.fields with
 | []=>none
 | f::_ =>
  match f.kind with
  | .ref nm=>x.find nm
  | _=>none
theorem endsIn_succ (x:Sc) (n:Nat) (t:Ty):endsIn x (n+1) t=(match nxt x t with|none=>true|some u=>endsIn x n u):=by
 simp only[endsIn,nxt];split
 ·rfl
 ·cases t.fields with
  | nil=>rfl
  | cons f fs =>
   simp only;cases f.kind with
   | ref nm=>simp only;cases x.find nm <;> rfl
   | num=>rfl
   | txt=>rfl
   | flag=>rfl
   | list k=>rfl
   | opt k=>rfl
theorem gS {x:Sc}:∀ (n:Nat) (t:Ty),endsIn x n t=true->∀ m,n<=m->endsIn x m t=true:=by
 intro n;induction n with
 | zero=>intro t h;simp[endsIn] at h
 | succ n ih =>
  intro t h m hm;cases m with
  | zero=>omega
  | succ m =>
   rw[endsIn_succ] at h ⊢;cases hn:nxt x t with
   | none=>rfl
   | some u=>rw[hn] at h;exact ih u h m (by omega)
def walked (x:Sc):Nat->Ty->List Ty
 | 0,_=>[]
 | n+1,t=>t::(match nxt x t with|none=>[]|some u=>walked x n u)
theorem kF {x:Sc}:∀ (n:Nat) (t:Ty),endsIn x n t=true->endsIn x (walked x n t).length t=true/\(∀ m,endsIn x m t=true->(walked x n t).length<=m):=by
 intro n;induction n with
 | zero=>intro t h;simp[endsIn] at h
 | succ n ih =>
  intro t h;rw[endsIn_succ] at h;simp only[walked];cases hn:nxt x t with
  | none =>
   refine⟨by simp[endsIn_succ,hn],fun m hm=>?_⟩;cases m with
   | zero=>simp[endsIn] at hm
   | succ m=>simp
  | some u =>
   rw[hn] at h;obtain⟨h1,h2⟩:=ih u h;simp only[zaF];refine⟨by rw[endsIn_succ,hn];exact h1,fun m hm=>?_⟩;cases m with
   | zero=>simp[endsIn] at hm
   | succ m =>
    rw[endsIn_succ,hn] at hm;have:=h2 m hm;omega
theorem a1L {x:Sc}:∀ (n:Nat) (t:Ty),endsIn x n t=true->∀ v,v∈walked x n t->endsIn x (walked x n t).length v=true/\(v≠t->endsIn x ((walked x n t).length-1) v=true):=by
 intro n;induction n with
 | zero=>intro t h;simp[endsIn] at h
 | succ n ih =>
  intro t h v hv;have hl:=(kF (n+1) t h).1;rw[endsIn_succ] at h;simp only[walked] at hv hl ⊢;cases hn:nxt x t with
  | none =>
   rw[hn] at hv;simp only[List.mem_singleton] at hv;subst hv;rw[hn] at hl;exact⟨hl,fun e=>absurd rfl e⟩
  | some u =>
   rw[hn] at hv h hl;simp only at h;rcases List.mem_cons.1 hv with rfl|hv
   ·exact⟨hl,fun e=>absurd rfl e⟩
   ·obtain⟨a1,_⟩:=ih u h v hv
    simp only[zaF,Nat.add_sub_cancel];exact⟨gS _ _ a1 _ (by omega),fun _=>a1⟩
theorem xO {x:Sc}:∀ (n:Nat) (t:Ty),endsIn x n t=true->(walked x n t).Nodup:=by
 intro n;induction n with
 | zero=>intro t h;simp[endsIn] at h
 | succ n ih =>
  intro t h;have h0:=h;rw[endsIn_succ] at h;simp only[walked];cases hn:nxt x t with
  | none=>simp
  | some u =>
   rw[hn] at h;simp only at h;refine List.nodup_cons.2 ⟨fun hm=>?_,ih u h⟩;obtain⟨a1,_⟩:=a1L n u h t hm;have:=(kF (n+1) t h0).2 _ a1;simp only[walked,hn,zaF] at this;omega
theorem a2U {x:Sc} {t u:Ty} (h:nxt x t=some u):u∈x:=by
 unfold nxt at h;split at h
 ·simp at h
 ·split at h
  ·simp at h
  ·split at h
   ·exact(cE h).1
   ·simp at h
theorem a0S {x:Sc}:∀ (n:Nat) (t:Ty),t∈x->∀ v,v∈walked x n t->v∈x:=by
 intro n;induction n with
 | zero=>intro t _ v h;simp[walked] at h
 | succ n ih =>
  intro t ht v hv;simp only[walked] at hv;rcases List.mem_cons.1 hv with rfl|hv
  ·exact ht
  ·cases hn:nxt x t with
   | none=>rw[hn] at hv;simp at hv
   | some u=>rw[hn] at hv;exact ih u (a2U hn) v hv
theorem a1Y {α:Type} [DecidableEq α]:∀ (l x:List α),l.Nodup->(∀ a,a∈l->a∈x)->l.length<=x.length:=by
 intro l;induction l with
 | nil=>intro x _ _;simp
 | cons a l ih =>
  intro x hn hs;obtain⟨h1,h2⟩:=List.nodup_cons.1 hn;have ha:=hs a (by simp);have:=ih (x.erase a) h2 (fun b hb=>(List.mem_erase_of_ne (fun e=>h1 (by rw[<-e];exact hb))).2 (hs b (by simp[hb])));rw[List.length_erase_of_mem ha] at this;have:=List.length_pos_of_mem ha;simp only[zaF];omega
theorem oA {x:Sc} {t:Ty} (ht:t∈x) {n:Nat} (h:endsIn x n t=true):endsIn x x.length t=true:=by
 have h1:=(kF n t h).1;have h2:=a1Y _ x (xO n t h) (a0S n t ht);exact gS _ _ h1 _ h2
theorem yM {x:Sc} (hx:∀ t,t∈x->TyOk t):∀ (n m:Nat) (t:Ty) (nm:Bs),x.find nm=some t->endsIn x n t=true->n<=m->stands x m (.ref nm)=stands x n (.ref nm):=by
 intro n;induction n with
 | zero=>intro m t nm _ h;simp[endsIn] at h
 | succ n ih =>
  intro m t nm ht h hm;cases m with
  | zero=>omega
  | succ m =>
   simp only[stands,ht];split
   ·rfl
   ·rename_i h82
    split
    ·rfl
    ·rename_i f fs hf
     split
     ·rfl
     ·rename_i h69
      by_cases h85:t.sort=85
      ·rw[endsIn_succ] at h
       have hn:nxt x t=(match f.kind with | .ref nm=>x.find nm|_=>none):=(by simp[nxt,h85,hf]);rw[hn] at h;cases hk:f.kind with
       | ref nm2 =>
        rw[hk] at h;simp only at h;cases hu:x.find nm2 with
        | none=>cases m <;> cases n <;> simp[stands,hu]
        | some u =>
         rw[hu] at h;simp only at h;rw[ih m u nm2 hu h (by omega)]
       | num=>cases m <;> cases n <;> simp[stands]
       | txt=>cases m <;> cases n <;> simp[stands]
       | flag=>cases m <;> cases n <;> simp[stands]
       | list k=>cases m <;> cases n <;> simp[stands]
       | opt k=>cases m <;> cases n <;> simp[stands]
      ·rcases(hx t (cE ht).1).sort with h|h|h
       ·exact absurd h h82
       ·exact absurd h h85
       ·exact absurd h h69
end Wf
