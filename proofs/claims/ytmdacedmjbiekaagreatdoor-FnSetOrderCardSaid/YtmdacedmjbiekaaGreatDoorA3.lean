/- Packed. -/
import Derived.Test.YtmdacedmjbiekaaGreatDoorA2
set_option maxRecDepth 99999
set_option maxHeartbeats 40000000
set_option linter.all false
namespace Wf
def kB (r:Bs):Prop:=∀ c,r.head? = some c->aB c=false
theorem uQ (n:Nat):∃ c t,dec n=c::t/\aB c=true:=by
 have h:=kK n;cases hd:dec n with
 | nil=>exact absurd hd (gI n)
 | cons c t=>rw[hd] at h;simp at h;exact⟨c,t,rfl,h.1⟩
theorem lP {c:UInt8} (h:aB c=true):c≠93/\c≠125/\c≠44/\c≠62:=by
 simp only[aB,Bool.and_eq_true,decide_eq_true_eq] at h;refine⟨?_,?_,?_,?_⟩ <;> (intro e;subst e;revert h;decide)
theorem gO (tag:Nat) (v:V):(V.mk 61 [] tag [v]).print=dec tag++61::v.print:=dI (⟨tag,[],.num,[]⟩,v)
theorem dW (l:List V):(V.mk 91 [] 0 l).print=91::(commas (l.map V.print)++[93]):=by simp[V.print,form,V.fS]
theorem dB (l:List V):(V.mk 82 [] 0 l).print=123::(commas (l.map V.print)++[125]):=by simp[V.print,form,V.fS]
theorem eW:(V.mk 63 [] 0 []).print=[45]:=by simp[V.print,form,V.fS]
theorem fX (v:V):(V.mk 63 [] 0 [v]).print=43::v.print:=by simp[V.print,form,V.fS,commas]
theorem eU (tag:Nat) (v:V):(V.mk 85 [] tag [v]).print=60::(dec tag++61::(v.print++[62])):=by simp[V.print,form,V.fS,commas]
theorem fQ (tag:Nat):(V.mk 69 [] tag []).print=35::dec tag:=by simp[V.print,form]
theorem eI (b:Bs):(V.mk 116 b 0 []).print=39::(b++[39]):=by simp[V.print,form]
theorem eB (b:Bs):(V.mk 110 b 0 []).print=b:=by simp[V.print,form]
theorem dD (b:Bs):(V.mk 102 b 0 []).print=b:=by simp[V.print,form]
theorem jP {x:Sc} {n:Nat} {k:K} {v:V} (h:Typed x n k v):∃ c t,v.print=c::t/\c≠93/\c≠125:=by
 cases n with
 | zero=>simp[Typed] at h
 | succ n =>
  cases k with
  | num =>
   obtain⟨m,_,rfl⟩:=h;obtain⟨c,t,hd,hc⟩:=uQ m;exact⟨c,t,by rw[eB,hd],(lP hc).1,(lP hc).2.1⟩
  | txt=>obtain⟨b,_,_,rfl⟩:=h;exact⟨_,_,eI b,by decide,by decide⟩
  | flag =>
   rcases h with rfl|rfl
   ·exact⟨_,_,dD _,by decide,by decide⟩
   ·exact⟨_,_,dD _,by decide,by decide⟩
  | list k=>obtain⟨l,_,_,rfl⟩:=h;exact⟨_,_,dW l,by decide,by decide⟩
  | opt k =>
   rcases h with rfl|⟨u,_,rfl⟩
   ·exact⟨_,_,eW,by decide,by decide⟩
   ·exact⟨_,_,fX u,by decide,by decide⟩
  | ref nm =>
   obtain⟨t,_,h⟩:=h;rcases h with⟨_,f,_,_,rfl⟩|⟨_,_,f,u,_,_,_,rfl⟩|⟨_,_,l,_,_,rfl⟩
   ·exact⟨_,_,fQ _,by decide,by decide⟩
   ·exact⟨_,_,eU _ _,by decide,by decide⟩
   ·exact⟨_,_,dB _,by decide,by decide⟩
theorem kO {l:List Bs} (h:∀ a,a∈l->a≠[]):l.length<=(commas l).length:=by
 induction l with
 | nil=>simp
 | cons a l ih =>
  have ha:=List.length_pos_iff.2 (h a (by simp));have ih':=ih (fun b hb=>h b (by simp[hb]));by_cases hl:l=[]
  ·subst hl;simp[commas];omega
  ·rw[dZ _ hl];simp;omega
theorem pH {a:Bs} {l:List Bs} {c:UInt8} {t:Bs} (h:a=c::t):∃ u,commas (a::l)=c::u:=by
 by_cases hl:l=[]
 ·subst hl;exact⟨t,by simp[commas,h]⟩
 ·exact⟨t++44::commas l,by rw[dZ _ hl,h];rfl⟩
theorem kN:aG 39=false:=by decide
theorem a1K {g:Nat} {u v:V} {s r:Bs} (h:closeU g u s=some (v,r)):∃ q,s=62::q/\v=.mk 85 [] g [u]/\r=q:=by
 unfold closeU at h;split at h
 ·rename_i q
  simp only[Option.some.injEq,Prod.mk.injEq] at h;exact⟨q,rfl,h.1.symm,h.2.symm⟩
 ·simp at h
theorem a6T {x:Sc} {n:Nat} {t:Ty} {s r:Bs} {v:V} {nm:Bs} (ht:x.find nm=some t)
  (ih:∀ k s v r,parse x n k s=some (v,r)->Typed x n k v/\s=v.print++r)
  (h:parseTy x (fun k' s'=>parse x n k' s') t s=some (v,r)):Typed x (n+1) (.ref nm) v/\s=v.print++r:=by
 have hp:∀ (f:Fd) (s:Bs) (v:V) (r:Bs),(fun k' s'=>parse x n k' s') f.kind s=some (v,r)->Typed x n f.kind v/\s=v.print++r:=fun f s v r hh=>ih _ _ _ _ hh;unfold parseTy at h;by_cases h1:t.sort=69
 ·rw[if_pos h1] at h
  cases s with
  | nil=>simp at h
  | cons c q =>
   by_cases hc:c=35
   ·subst hc
    simp only at h;cases hn:aQ 200 q with
    | none=>rw[hn] at h;simp at h
    | some y =>
     obtain⟨tag,rest⟩:=y;rw[hn] at h;simp only at h;split at h
     ·rename_i hs
      simp only[Option.some.injEq,Prod.mk.injEq] at h;obtain⟨rfl,rfl⟩:=h;obtain⟨f,hf⟩:=Option.isSome_iff_exists.1 hs;have e:=pA hf;subst e;obtain⟨g1,g2,_,_⟩:=gY hn;exact⟨⟨t,ht,.inl ⟨h1,f,hf,g2,rfl⟩⟩,by rw[fQ,g1];rfl⟩
     ·simp at h
   ·split at h
    ·rename_i heq;simp only[List.cons.injEq] at heq;exact absurd heq.1 hc
    ·simp at h
 ·rw[if_neg h1] at h
  by_cases h2:t.sort=85
  ·rw[if_pos h2] at h
   cases s with
   | nil=>simp at h
   | cons c q =>
    by_cases hc:c=60
    ·subst hc
     simp only at h;cases hf:fieldTok t (fun k' s'=>parse x n k' s') q with
     | none=>rw[hf] at h;simp at h
     | some y =>
      obtain⟨f,u,rest⟩:=y;rw[hf] at h;obtain⟨a1,a2,a3,a4⟩:=jH hp hf;obtain⟨q',hq,rfl,rfl⟩:=a1K h;subst hq;exact⟨⟨t,ht,.inr (.inl ⟨h1,h2,f,u,a1,a2,a3,rfl⟩)⟩,by rw[eU,a4];simp⟩
    ·split at h
     ·rename_i heq;simp only[List.cons.injEq] at heq;exact absurd heq.1 hc
     ·simp at h
  ·rw[if_neg h2] at h
   cases s with
   | nil=>simp at h
   | cons c q =>
    by_cases hc:c=123
    ·subst hc
     simp only at h;have fin:∀ y:List V × Bs,fieldsW x t (fun k' s'=>parse x n k' s') q.length 0 q=some y->v=.mk 82 [] 0 y.1->r=y.2->Typed x (n+1) (.ref nm) v/\123::q=v.print++r:=by
      rintro⟨l,r'⟩ hy rfl rfl;obtain⟨es,_,rfl,b3,b4,b5⟩:=wD hp _ _ _ _ _ hy;obtain⟨b6,b7⟩:=List.pairwise_cons.1 b3;refine⟨⟨t,ht,.inr (.inr ⟨h1,h2,es,b7,?_,rfl⟩)⟩,by rw[dB,b5];simp⟩;intro e he;obtain⟨c1,c2,c3,c4⟩:=b4 e he;exact⟨b6 _ (List.mem_map.2 ⟨e,he,rfl⟩),c1,c2,c3,c4⟩
     cases q with
     | nil=>simp[fieldsW] at h
     | cons d q' =>
      by_cases hd:d=125
      ·subst hd
       simp only[Option.some.injEq,Prod.mk.injEq] at h;obtain⟨rfl,rfl⟩:=h;exact⟨⟨t,ht,.inr (.inr ⟨h1,h2,[],by simp,by simp,rfl⟩)⟩,by rw[dB];simp[commas]⟩
      ·split at h
       ·rename_i heq;simp only[List.cons.injEq] at heq;exact absurd heq.1 hd
       ·cases hy:fieldsW x t (fun k' s'=>parse x n k' s') (d::q').length 0 (d::q') with
        | none=>rw[hy] at h;simp at h
        | some y =>
         rw[hy] at h;simp only[Option.map_some,Option.some.injEq,Prod.mk.injEq] at h;exact fin y hy h.1.symm h.2.symm
    ·split at h
     ·rename_i heq;simp only[List.cons.injEq] at heq;exact absurd heq.1 hc
     ·simp at h
theorem dR {x:Sc}:∀ (n:Nat) (k:K) (s:Bs) (v:V) (r:Bs),parse x n k s=some (v,r)->Typed x n k v/\s=v.print++r:=by
 intro n;induction n with
 | zero=>intro k s v r h;simp[parse] at h
 | succ n ih =>
  intro k s v r h;cases k with
  | num =>
   simp only[parse] at h;cases hn:aQ 999999 s with
   | none=>rw[hn] at h;simp at h
   | some y =>
    rw[hn] at h;simp only[Option.map_some,Option.some.injEq,Prod.mk.injEq] at h;obtain⟨rfl,rfl⟩:=h;obtain⟨g1,g2,_,_⟩:=gY (n:=y.1) (r:=y.2) hn;exact⟨⟨y.1,g2,rfl⟩,by rw[eB];exact g1⟩
  | txt =>
   simp only[parse] at h;split at h
   ·rename_i q
    split at h
    ·rename_i q' hq
     split at h
     ·rename_i hl
      simp only[Option.some.injEq,Prod.mk.injEq] at h;obtain⟨rfl,rfl⟩:=h;refine⟨⟨_,?_,hl,rfl⟩,?_⟩
      ·exact List.all_takeWhile
      ·rw[eI]
       have:=List.takeWhile_append_dropWhile (p:=aG) (l:=q);rw[hq] at this;simp only[List.cons_append,List.append_assoc,List.nil_append,this]
     ·simp at h
    ·simp at h
   ·simp at h
  | flag =>
   simp only[parse] at h;split at h
   ·simp only[Option.some.injEq,Prod.mk.injEq] at h
    obtain⟨rfl,rfl⟩:=h;exact⟨.inl rfl,by rw[dD];rfl⟩
   ·simp only[Option.some.injEq,Prod.mk.injEq] at h
    obtain⟨rfl,rfl⟩:=h;exact⟨.inr rfl,by rw[dD];rfl⟩
   ·simp at h
  | list k =>
   simp only[parse] at h;split at h
   ·rename_i q
    split at h
    ·simp only[Option.some.injEq,Prod.mk.injEq] at h
     obtain⟨rfl,rfl⟩:=h;exact⟨⟨[],by simp,by simp,rfl⟩,by rw[dW];simp[commas]⟩
    ·cases hi:itemsW (parse x n k) q.length q with
     | none=>rw[hi] at h;simp at h
     | some y =>
      obtain⟨l,q'⟩:=y;rw[hi] at h;simp only at h;split at h
      ·rename_i hl
       simp only[Option.some.injEq,Prod.mk.injEq] at h;obtain⟨rfl,rfl⟩:=h;obtain⟨_,b2,b3⟩:=a9A (Q:=Typed x n k) (fun s v r hh=>ih _ _ _ _ hh) _ _ _ _ hi;exact⟨⟨l,hl,b2,rfl⟩,by rw[dW,b3];simp⟩
      ·simp at h
   ·simp at h
  | opt k =>
   simp only[parse] at h;split at h
   ·simp only[Option.some.injEq,Prod.mk.injEq] at h
    obtain⟨rfl,rfl⟩:=h;exact⟨.inl rfl,by rw[eW];rfl⟩
   ·rename_i q
    cases hq:parse x n k q with
    | none=>rw[hq] at h;simp at h
    | some y =>
     obtain⟨u,q'⟩:=y;rw[hq] at h;simp only[Option.map_some,Option.some.injEq,Prod.mk.injEq] at h;obtain⟨rfl,rfl⟩:=h;obtain⟨b1,b2⟩:=ih _ _ _ _ hq;exact⟨.inr ⟨u,b1,rfl⟩,by rw[fX,b2];rfl⟩
   ·simp at h
  | ref nm =>
   simp only[parse] at h;cases ht:x.find nm with
   | none=>rw[ht] at h;simp at h
   | some t =>
    rw[ht] at h;exact a6T ht ih h
theorem mQ {x:Sc}:∀ (n:Nat) (k:K) (v:V) (r:Bs),Typed x n k v->kB r->parse x n k (v.print++r)=some (v,r):=by
 intro n;induction n with
 | zero=>intro k v r h;simp[Typed] at h
 | succ n ih =>
  intro k v r h hr;cases k with
  | num =>
   obtain⟨m,hm,rfl⟩:=h;simp only[parse,eB];rw[kX hm hm hr];rfl
  | txt =>
   obtain⟨b,hb,hl,rfl⟩:=h;have ha:∀ a,a∈b->aG a=true:=List.all_eq_true.1 hb;simp only[parse,eI,List.cons_append,List.append_assoc,List.nil_append];have e1:(b++39::r).takeWhile aG=b:=by
    rw[List.takeWhile_append_of_pos ha,List.takeWhile_cons,kN];simp
   have e2:(b++39::r).dropWhile aG=39::r:=by
    rw[List.dropWhile_append_of_pos ha,List.dropWhile_cons,kN];simp
   rw[e1,e2];simp[hl]
  | flag =>
   rcases h with rfl|rfl
   ·simp[parse,dD]
   ·simp[parse,dD]
  | list k =>
   obtain⟨l,hl,hu,rfl⟩:=h;rw[dW];by_cases hn:l=[]
   ·subst hn;simp[parse,commas]
   ·obtain⟨u,l',rfl⟩:=List.exists_cons_of_ne_nil hn
    obtain⟨c,t,hc,hc1,_⟩:=jP (hu u (by simp));have hlen:(u::l').length<=(commas ((u::l').map V.print)++93::r).length:=by
     have:=kO (l:=(u::l').map V.print) (by
      intro a ha;obtain⟨w,hw,rfl⟩:=List.mem_map.1 ha;obtain⟨c,t,hc,_⟩:=jP (hu w hw);rw[hc];simp)
     simp only[List.length_map,List.length_append,List.length_cons] at this ⊢;omega
    have hrd:=yD (p:=parse x n k) (Q:=Typed x n k) (fun v r hv hr=>ih k v r hv hr) (u::l') (commas ((u::l').map V.print)++93::r).length r (by simp) hu hlen;obtain⟨w,hw⟩:=pH (l:=l'.map V.print) hc;simp only[List.cons_append,List.append_assoc,List.nil_append];simp only[List.map_cons] at hrd ⊢;rw[hw] at hrd ⊢;simp only[parse];split
    ·rename_i heq;simp only[List.cons_append,List.cons.injEq] at heq;exact absurd heq.1 hc1
    ·rw[hrd];simp only[hl,if_true]
  | opt k =>
   rcases h with rfl|⟨u,hu,rfl⟩
   ·simp[parse,eW]
   ·rw[fX]
    simp only[parse,List.cons_append];rw[ih k u r hu hr];rfl
  | ref nm =>
   obtain⟨t,ht,h⟩:=h;simp only[parse,ht];rcases h with⟨h1,f,hf,h2,rfl⟩|⟨h1,h2,f,u,hf,h3,hu,rfl⟩|⟨h1,h2,l,hpw,hl,rfl⟩
   ·rw[fQ]
    simp only[parseTy,if_pos h1,List.cons_append];rw[kX h2 (by omega) hr];simp[hf]
   ·rw[eU]
    simp only[parseTy,if_neg h1,if_pos h2,List.cons_append,List.append_assoc,List.nil_append];rw[kU (p:=fun k' s'=>parse x n k' s') hf h3 (ih f.kind u (62::r) hu (by simp[kB,aB]))];rfl
   ·rw[dB]
    simp only[parseTy,if_neg h1,if_neg h2,List.cons_append,List.append_assoc,List.nil_append];by_cases hn:l=[]
    ·subst hn;simp[commas]
    ·obtain⟨e,l',rfl⟩:=List.exists_cons_of_ne_nil hn
     have hlen:(e::l').length<=(commas (((e::l').map tagged).map V.print)++125::r).length:=by
      have:=kO (l:=((e::l').map tagged).map V.print) (by
       intro a ha;obtain⟨w,hw,rfl⟩:=List.mem_map.1 ha;obtain⟨g,hg,rfl⟩:=List.mem_map.1 hw;rw[dI];simp[gI])
      simp only[List.length_map,List.length_append,List.length_cons] at this ⊢;omega
     have hrd:=a6R (x:=x) (t:=t) (p:=fun k' s'=>parse x n k' s') (Q:=fun f v=>Typed x n f.kind v) (fun f v r hv hr=>ih f.kind v r hv hr)
      (e::l') (commas (((e::l').map tagged).map V.print)++125::r).length 0 r (by simp)
      (List.pairwise_cons.2 ⟨by
       intro a ha;obtain⟨g,hg,rfl⟩:=List.mem_map.1 ha;exact(hl g hg).1,hpw⟩) (fun e he=>(hl e he).2) hlen
     obtain⟨c,tt,hc,hcd⟩:=uQ e.1.tag;have hp0:(tagged e).print=c::(tt++61::e.2.print):=(by rw[dI,hc];rfl);obtain⟨w,hw⟩:=pH (l:=(l'.map tagged).map V.print) hp0;have ee:(fun e:Fd × V=>V.mk 61 [] e.1.tag [e.2])=tagged:=rfl;rw[ee];simp only[List.map_cons] at hrd ⊢;rw[hw] at hrd ⊢;simp only[List.cons_append] at hrd ⊢;split
     ·rename_i heq;simp only[List.cons.injEq] at heq;exact absurd heq.1 (lP hcd).2.1
     ·rw[hrd];rfl
end Wf

namespace Wf
theorem fD (tag:Nat) (v:V):(V.mk 61 [] tag [v]).deep=v.deep:=by simp[Option.filter_some,V.deep,V.aK]
theorem fJ {what:UInt8} (h:what≠61) (t:Bs) (g:Nat) (l:List V):(V.mk what t g l).deep=V.aK l+1:=by simp[Option.filter_some,V.deep,h]
theorem a8U {p p':Reads} {d:Nat} (hp:∀ s,p s=(p' s).filter (fun y=>decide (y.1.deep<=d))) :
  ∀ (m:Nat) (s:Bs),itemsW p m s=(itemsW p' m s).filter (fun y=>decide (V.aK y.1<=d)):=by
 intro m;induction m with
 | zero=>intro s;rfl
 | succ m ih =>
  intro s;simp only[itemsW];rw[hp s];cases hq:p' s with
  | none=>rfl
  | some y =>
   obtain⟨v,rest⟩:=y;by_cases hd:v.deep<=d
   ·have e:(some (v,rest)).filter (fun y:V × Bs=>decide (y.1.deep<=d))=some (v,rest):=by simp only[Option.filter_some,hd,decide_true,decide_false,if_true,if_false];try simp
    rw[e];simp only;split
    ·rename_i r
     rw[ih r];cases itemsW p' m r with
     | none=>rfl
     | some y =>
      by_cases hy:V.aK y.1<=d
      ·simp[Option.filter_some,hy,V.aK,hd,Nat.max_le]
      ·simp[Option.filter_some,hy,V.aK,hd,Nat.max_le]
    ·simp[Option.filter_some,V.aK,hd]
    ·rfl
   ·have e:(some (v,rest)).filter (fun y:V × Bs=>decide (y.1.deep<=d))=none:=by simp only[Option.filter_some,hd,decide_true,decide_false,if_true,if_false];try simp
    rw[e];simp only;split
    ·rename_i r
     cases itemsW p' m r with
     | none=>rfl
     | some y=>simp[Option.filter_some,V.aK,hd,Nat.max_le]
    ·simp[Option.filter_some,V.aK,hd]
    ·rfl
theorem sW {t:Ty} {p p':K->Reads} {d:Nat} (hp:∀ k s,p k s=(p' k s).filter (fun y=>decide (y.1.deep<=d))) (s:Bs) :
  fieldTok t p s=(fieldTok t p' s).filter (fun y=>decide (y.2.1.deep<=d)):=by
 unfold fieldTok;cases aQ 200 s with
 | none=>rfl
 | some y =>
  obtain⟨tag,rest⟩:=y;simp only;split
  ·rename_i r f _
   rw[hp];cases p' f.kind r with
   | none=>rfl
   | some z=>by_cases hz:z.1.deep<=d <;> simp[Option.filter_some,hz]
  ·rfl
theorem zM {x:Sc} {t:Ty} {p p':K->Reads} {d:Nat} (hp:∀ k s,p k s=(p' k s).filter (fun y=>decide (y.1.deep<=d))) :
  ∀ (m last:Nat) (s:Bs),fieldsW x t p m last s=(fieldsW x t p' m last s).filter (fun y=>decide (V.aK y.1<=d)):=by
 intro m;induction m with
 | zero=>intro last s;rfl
 | succ m ih =>
  intro last s;simp only[fieldsW];rw[sW hp s];cases hq:fieldTok t p' s with
  | none=>rfl
  | some y =>
   obtain⟨f,v,rest⟩:=y;by_cases hd:v.deep<=d
   ·have e:(some (f,v,rest)).filter (fun y:Fd × V × Bs=>decide (y.2.1.deep<=d))=some (f,v,rest):=by simp only[Option.filter_some,hd,decide_true,decide_false,if_true,if_false];try simp
    rw[e];simp only;split
    ·rfl
    ·split
     ·rename_i r
      rw[ih f.tag r];cases fieldsW x t p' m f.tag r with
      | none=>rfl
      | some y =>
       by_cases hy:V.aK y.1<=d
       ·simp[Option.filter_some,hy,V.aK,hd,Nat.max_le,fD]
       ·simp[Option.filter_some,hy,V.aK,hd,Nat.max_le,fD]
     ·simp[Option.filter_some,V.aK,hd,fD]
     ·rfl
   ·have e:(some (f,v,rest)).filter (fun y:Fd × V × Bs=>decide (y.2.1.deep<=d))=none:=by simp only[Option.filter_some,hd,decide_true,decide_false,if_true,if_false];try simp
    rw[e];simp only;split
    ·rfl
    ·split
     ·rename_i r
      cases fieldsW x t p' m f.tag r with
      | none=>rfl
      | some y=>simp[Option.filter_some,V.aK,hd,Nat.max_le,fD]
     ·simp[Option.filter_some,V.aK,hd,fD]
     ·rfl
theorem xQ {x:Sc}:∀ (n m:Nat),n<=m->∀ (k:K) (s:Bs),parse x n k s=(parse x m k s).filter (fun y=>decide (y.1.deep<=n)):=by
 intro n;induction n with
 | zero =>
  intro m _ k s;cases hp:parse x m k s with
  | none=>simp[Option.filter_some,parse]
  | some y =>
   obtain⟨v,r⟩:=y;have ht:=(dR _ _ _ _ _ hp).1;have:v.deep≠0:=by
    cases m with
    | zero=>simp[Option.filter_some,Typed] at ht
    | succ m =>
     cases k with
     | num=>obtain⟨_,_,rfl⟩:=ht;simp[Option.filter_some,V.deep]
     | txt=>obtain⟨_,_,_,rfl⟩:=ht;simp[Option.filter_some,V.deep]
     | flag=>rcases ht with rfl|rfl <;> simp[Option.filter_some,V.deep]
     | list k=>obtain⟨_,_,_,rfl⟩:=ht;simp[Option.filter_some,V.deep]
     | opt k=>rcases ht with rfl|⟨_,_,rfl⟩ <;> simp[Option.filter_some,V.deep]
     | ref nm =>
      obtain⟨t,_,h⟩:=ht;rcases h with⟨_,f,_,_,rfl⟩|⟨_,_,f,u,_,_,_,rfl⟩|⟨_,_,l,_,_,rfl⟩ <;> simp[Option.filter_some,V.deep]
   simp[Option.filter_some,parse,this]
 | succ n ih =>
  intro m hm k s;cases m with
  | zero=>omega
  | succ m =>
   have ih':=ih m (by omega);cases k with
   | num =>
    simp only[parse];cases aQ 999999 s with
    | none=>rfl
    | some y=>simp[Option.filter_some,V.deep,V.aK]
   | txt =>
    simp only[parse];repeat' split
    all_goals simp[Option.filter_some,V.deep,V.aK]
   | flag =>
    simp only[parse];repeat' split
    all_goals simp[Option.filter_some,V.deep,V.aK]
   | list k =>
    simp only[parse];split
    ·rename_i q
     split
     ·simp[Option.filter_some,V.deep,V.aK]
     ·rw[a8U (ih' k) q.length q]
      cases itemsW (parse x m k) q.length q with
      | none=>rfl
      | some y =>
       obtain⟨l,r⟩:=y;by_cases hl:V.aK l<=n
       ·by_cases h20:l.length<=20
        ·simp[Option.filter_some,hl,h20,V.deep]
        ·simp[Option.filter_some,hl,h20]
       ·by_cases h20:l.length<=20
        ·simp[Option.filter_some,hl,h20,V.deep]
        ·simp[Option.filter_some,hl,h20]
    ·rfl
   | opt k =>
    simp only[parse];split
    ·simp[Option.filter_some,V.deep,V.aK]
    ·rename_i q
     rw[ih' k q];cases parse x m k q with
     | none=>rfl
     | some y=>by_cases hy:y.1.deep<=n <;> simp[Option.filter_some,hy,V.deep,V.aK]
    ·rfl
   | ref nm =>
    simp only[parse];cases x.find nm with
    | none=>rfl
    | some t =>
     simp only[parseTy];split
     ·split
      ·split
       ·rfl
       ·split
        ·simp[Option.filter_some,V.deep,V.aK]
        ·rfl
      ·rfl
     ·split
      ·split
       ·rename_i r
        rw[sW (p:=fun k' s'=>parse x n k' s') (p':=fun k' s'=>parse x m k' s') (d:=n) (fun k s=>ih' k s) r];cases fieldTok t (fun k' s'=>parse x m k' s') r with
        | none=>rfl
        | some y =>
         obtain⟨f,v,rest⟩:=y;rw[Option.filter_some];by_cases hv:v.deep<=n
         ·simp only[hv,decide_true,if_true]
          unfold closeU;split
          ·simp[Option.filter_some,V.deep,V.aK,hv]
          ·rfl
         ·simp only[hv,decide_false,if_false,Bool.false_eq_true]
          unfold closeU;split
          ·simp[Option.filter_some,V.deep,V.aK,hv]
          ·rfl
       ·rfl
      ·split
       ·rename_i q
        split
        ·simp[Option.filter_some,V.deep,V.aK]
        ·rw[zM (p:=fun k' s'=>parse x n k' s') (p':=fun k' s'=>parse x m k' s') (d:=n) (fun k s=>ih' k s) q.length 0 q]
         cases fieldsW x t (fun k' s'=>parse x m k' s') q.length 0 q with
         | none=>rfl
         | some y=>by_cases hy:V.aK y.1<=n <;> simp[Option.filter_some,hy,V.deep]
       ·rfl
end Wf

namespace Wf
end Wf

namespace Wf
theorem jZ (l:List Bs) (h:l≠[]):(commas l).length+1=l.flatten.length+l.length:=by
 induction l with
 | nil=>exact absurd rfl h
 | cons a l ih =>
  by_cases hl:l=[]
  ·subst hl;simp[commas]
  ·rw[dZ _ hl]
   have:=ih hl;simp only[List.length_append,List.length_cons,List.flatten_cons];omega
theorem a2G (l:List Bs):l.flatten.length<=(commas l).length:=by
 by_cases hl:l=[]
 ·subst hl;simp
 ·have:=jZ l hl
  have:=List.length_pos_iff.2 hl;omega
theorem iK {l:List Bs} {a:Bs} (h:a∈l):a.length<=(commas l).length:=by
 have h1:=a2G l;have:a.length<=l.flatten.length:=by
  clear h1;induction l with
  | nil=>simp at h
  | cons b l ih =>
   rcases List.mem_cons.1 h with rfl|h
   ·simp
   ·have:=ih h
    simp only[List.flatten_cons,List.length_append];omega
 omega
end Wf

namespace Wf
theorem fH {x:Sc}:∀ (n:Nat) (k:K) (v:V),Typed x n k v->∀ m,n<=m->Typed x m k v:=by
 intro n;induction n with
 | zero=>intro k v h;simp[Typed] at h
 | succ n ih =>
  intro k v h m hm;cases m with
  | zero=>omega
  | succ m =>
   have hm':n<=m:=(by omega);cases k with
   | num=>exact h
   | txt=>exact h
   | flag=>exact h
   | list k =>
    obtain⟨l,hl,hu,rfl⟩:=h;exact⟨l,hl,fun u hx=>ih k u (hu u hx) m hm',rfl⟩
   | opt k =>
    rcases h with rfl|⟨u,hu,rfl⟩
    ·exact .inl rfl
    ·exact .inr ⟨u,ih k u hu m hm',rfl⟩
   | ref nm =>
    obtain⟨t,ht,h⟩:=h;refine⟨t,ht,?_⟩;rcases h with h|⟨h1,h2,f,u,hf,h3,hu,rfl⟩|⟨h1,h2,l,hpw,hl,rfl⟩
    ·exact .inl h
    ·exact .inr (.inl ⟨h1,h2,f,u,hf,h3,ih f.kind u hu m hm',rfl⟩)
    ·refine .inr (.inr ⟨h1,h2,l,hpw,fun e he=>?_,rfl⟩)
     obtain⟨a,b,c,d,e5⟩:=hl e he;exact⟨a,b,c,ih _ _ d m hm',e5⟩
theorem eV {x:Sc}:∀ (n:Nat) (k:K) (v:V),Typed x n k v->1<=v.deep/\v.deep<=n:=by
 intro n;induction n with
 | zero=>intro k v h;simp[Typed] at h
 | succ n ih =>
  intro k v h;cases k with
  | num=>obtain⟨_,_,rfl⟩:=h;simp[V.deep,V.aK]
  | txt=>obtain⟨_,_,_,rfl⟩:=h;simp[V.deep,V.aK]
  | flag=>rcases h with rfl|rfl <;> simp[V.deep,V.aK]
  | list k =>
   obtain⟨l,_,hu,rfl⟩:=h;have:V.aK l<=n:=V.eS.2 fun u hx=>(ih k u (hu u hx)).2;simp[V.deep];omega
  | opt k =>
   rcases h with rfl|⟨u,hu,rfl⟩
   ·simp[V.deep,V.aK]
   ·have:=(ih k u hu).2
    simp[V.deep,V.aK];omega
  | ref nm =>
   obtain⟨t,ht,h⟩:=h;rcases h with⟨_,f,_,_,rfl⟩|⟨h1,h2,f,u,hf,h3,hu,rfl⟩|⟨h1,h2,l,hpw,hl,rfl⟩
   ·simp[V.deep,V.aK]
   ·have:=(ih _ _ hu).2
    simp[V.deep,V.aK];omega
   ·have:V.aK (l.map fun e=>V.mk 61 [] e.1.tag [e.2])<=n:=V.eS.2 fun u hx=>by
     obtain⟨e,he,rfl⟩:=List.mem_map.1 hx;rw[fD];exact(ih _ _ (hl e he).2.2.2.1).2
    simp[V.deep];omega
theorem lM {x:Sc}:∀ (m:Nat) (k:K) (v:V),Typed x m k v->∀ n,v.deep<=n->Typed x n k v:=by
 intro m;induction m with
 | zero=>intro k v h;simp[Typed] at h
 | succ m ih =>
  intro k v h n hn;cases n with
  | zero=>have:=(eV _ _ _ h).1;omega
  | succ n =>
   cases k with
   | num=>exact h
   | txt=>exact h
   | flag=>exact h
   | list k =>
    obtain⟨l,hl,hu,rfl⟩:=h;rw[fJ (by decide)] at hn;exact⟨l,hl,fun u hx=>ih k u (hu u hx) n (V.eS.1 (by omega) u hx),rfl⟩
   | opt k =>
    rcases h with rfl|⟨u,hu,rfl⟩
    ·exact .inl rfl
    ·rw[fJ (by decide)] at hn
     exact .inr ⟨u,ih k u hu n (V.eS.1 (show V.aK [u]<=n by omega) u (by simp)),rfl⟩
   | ref nm =>
    obtain⟨t,ht,h⟩:=h;refine⟨t,ht,?_⟩;rcases h with h|⟨h1,h2,f,u,hf,h3,hu,rfl⟩|⟨h1,h2,l,hpw,hl,rfl⟩
    ·exact .inl h
    ·rw[fJ (by decide)] at hn
     exact .inr (.inl ⟨h1,h2,f,u,hf,h3,ih f.kind u hu n (V.eS.1 (show V.aK [u]<=n by omega) u (by simp)),rfl⟩)
    ·rw[fJ (by decide)] at hn
     refine .inr (.inr ⟨h1,h2,l,hpw,fun e he=>?_,rfl⟩);obtain⟨a,b,c,d,e5⟩:=hl e he;have:=V.eS.1 (show V.aK (l.map fun e=>V.mk 61 [] e.1.tag [e.2])<=n by omega) _ (List.mem_map.2 ⟨e,he,rfl⟩);rw[fD] at this;exact⟨a,b,c,ih _ _ d n this,e5⟩
end Wf

namespace Wf
theorem lQ:∀ (a b:List (Fd × V)),(a.map (fun e=>e.1.tag)).Pairwise (· < ·)->(b.map (fun e=>e.1.tag)).Pairwise (· < ·)->(∀ e,e∈a↔e∈b)->a=b:=by
 intro a;induction a with
 | nil =>
  intro b _ _ h;cases b with
  | nil=>rfl
  | cons e b=>exact absurd ((h e).2 (by simp)) (by simp)
 | cons e a ih =>
  intro b ha hb h;cases b with
  | nil=>exact absurd ((h e).1 (by simp)) (by simp)
  | cons f b =>
   simp only[List.map_cons] at ha hb;obtain⟨a1,a2⟩:=List.pairwise_cons.1 ha;obtain⟨b1,b2⟩:=List.pairwise_cons.1 hb;have hef:e=f:=by
    rcases List.mem_cons.1 ((h e).1 (by simp)) with h1|h1
    ·exact h1
    ·rcases List.mem_cons.1 ((h f).2 (by simp)) with h2|h2
     ·exact h2.symm
     ·have:=a1 f.1.tag (List.mem_map.2 ⟨f,h2,rfl⟩)
      have:=b1 e.1.tag (List.mem_map.2 ⟨e,h1,rfl⟩);omega
   subst hef;rw[ih b a2 b2 (fun g=>?_)];constructor
   ·intro hg
    rcases List.mem_cons.1 ((h g).1 (by simp[hg])) with h1|h1
    ·subst h1
     have:=a1 _ (List.mem_map.2 ⟨g,hg,rfl⟩);omega
    ·exact h1
   ·intro hg
    rcases List.mem_cons.1 ((h g).2 (by simp[hg])) with h1|h1
    ·subst h1
     have:=b1 _ (List.mem_map.2 ⟨g,hg,rfl⟩);omega
    ·exact h1
def aP (x:Sc) (es:List (Fd × V)) (f:Fd) (y:V):List (Fd × V) :=
 es.filter (fun e=>decide (e.1.tag<f.tag))++(if y.print=aH x f then [] else [(f,y)])++es.filter (fun e=>decide (f.tag<e.1.tag))
theorem eD {x:Sc} {es:List (Fd × V)} {f:Fd} {y:V} {e:Fd × V}:e∈aP x es f y↔(e∈es/\e.1.tag≠f.tag)\/(y.print≠aH x f/\e=(f,y)):=by
 have hm:e∈(if y.print=aH x f then [] else [(f,y)])↔(y.print≠aH x f/\e=(f,y)):=by
  split
  ·rename_i hy;simp[hy]
  ·rename_i hy;simp[hy]
 unfold aP;rw[List.mem_append,List.mem_append,hm];simp only[List.mem_filter,decide_eq_true_eq];constructor
 ·rintro((⟨h1,h2⟩|h1)|⟨h1,h2⟩)
  ·exact .inl ⟨h1,by omega⟩
  ·exact .inr h1
  ·exact .inl ⟨h1,by omega⟩
 ·rintro(⟨h1,h2⟩|h1)
  ·rcases Nat.lt_or_gt_of_ne h2 with h|h
   ·exact .inl (.inl ⟨h1,h⟩)
   ·exact .inr ⟨h1,h⟩
  ·exact .inl (.inr h1)
theorem dS {x:Sc} {es:List (Fd × V)} {f:Fd} {y:V} (h:(es.map (fun e=>e.1.tag)).Pairwise (· < ·)):((aP x es f y).map (fun e=>e.1.tag)).Pairwise (· < ·):=by
 have hsub:∀ p:Fd × V->Bool,((es.filter p).map (fun e=>e.1.tag)).Pairwise (· < ·):=fun p=>h.sublist (List.Sublist.map _ (List.filter_sublist (l:=es)));unfold aP;rw[List.map_append,List.map_append];refine List.pairwise_append.2 ⟨List.pairwise_append.2 ⟨hsub _,?_,?_⟩,hsub _,?_⟩
 ·split <;> simp
 ·intro a ha b hb
  obtain⟨e,he,rfl⟩:=List.mem_map.1 ha;simp only[List.mem_filter,decide_eq_true_eq] at he;split at hb
  ·simp at hb
  ·simp at hb;subst hb;exact he.2
 ·intro a ha b hb
  obtain⟨e,he,rfl⟩:=List.mem_map.1 hb;simp only[List.mem_filter,decide_eq_true_eq] at he;rcases List.mem_append.1 ha with ha|ha
  ·obtain⟨g,hg,rfl⟩:=List.mem_map.1 ha
   simp only[List.mem_filter,decide_eq_true_eq] at hg;omega
  ·split at ha
   ·simp at ha
   ·simp at ha;subst ha;exact he.2
def getEs (x:Sc) (es:List (Fd × V)) (f:Fd):Bs :=
 match es.find? (fun e=>e.1.tag==f.tag) with
 | some e=>e.2.print
 | none=>aH x f
theorem find_eq {es:List (Fd × V)} (h:(es.map (fun e=>e.1.tag)).Pairwise (· < ·)) {e:Fd × V} (he:e∈es):es.find? (fun d=>d.1.tag==e.1.tag)=some e:=by
 induction es with
 | nil=>simp at he
 | cons d es ih =>
  simp only[List.map_cons] at h;obtain⟨h1,h2⟩:=List.pairwise_cons.1 h;rcases List.mem_cons.1 he with rfl|he
  ·rw[List.find?_cons_of_pos (by simp)]
  ·have:=h1 _ (List.mem_map.2 ⟨e,he,rfl⟩)
   rw[List.find?_cons_of_neg (by simp;omega)];exact ih h2 he
theorem sL {es:List (Fd × V)} {g:Nat} (h:∀ e,e∈es->e.1.tag≠g):es.find? (fun d=>d.1.tag==g)=none:=by
 rw[List.find?_eq_none];intro e he;simpa using h e he
end Wf

namespace Wf
def nxt (x:Sc) (t:Ty):Option Ty :=
 if t.sort≠85 then none else
 match t.fields with
 | []=>none
 | f::_ =>
  match f.kind with
  | .ref nm=>x.find nm
  | _=>none
theorem endsIn_succ (x:Sc) (n:Nat) (t:Ty):endsIn x (n+1) t=(match nxt x t with|none=>true|some u=>endsIn x n u):=by
 simp only[endsIn,nxt];split
 ·rfl
 ·cases t.fields with
  | nil=>rfl
  | cons f fs =>
   simp only;cases f.kind with
   | ref nm=>simp only;cases x.find nm <;> rfl
   | num=>rfl
   | txt=>rfl
   | flag=>rfl
   | list k=>rfl
   | opt k=>rfl
theorem iW {x:Sc}:∀ (n:Nat) (t:Ty),endsIn x n t=true->∀ m,n<=m->endsIn x m t=true:=by
 intro n;induction n with
 | zero=>intro t h;simp[endsIn] at h
 | succ n ih =>
  intro t h m hm;cases m with
  | zero=>omega
  | succ m =>
   rw[endsIn_succ] at h ⊢;cases hn:nxt x t with
   | none=>rfl
   | some u=>rw[hn] at h;exact ih u h m (by omega)
def walked (x:Sc):Nat->Ty->List Ty
 | 0,_=>[]
 | n+1,t=>t::(match nxt x t with|none=>[]|some u=>walked x n u)
theorem lT {x:Sc}:∀ (n:Nat) (t:Ty),endsIn x n t=true->endsIn x (walked x n t).length t=true/\(∀ m,endsIn x m t=true->(walked x n t).length<=m):=by
 intro n;induction n with
 | zero=>intro t h;simp[endsIn] at h
 | succ n ih =>
  intro t h;rw[endsIn_succ] at h;simp only[walked];cases hn:nxt x t with
  | none =>
   refine⟨by simp[endsIn_succ,hn],fun m hm=>?_⟩;cases m with
   | zero=>simp[endsIn] at hm
   | succ m=>simp
  | some u =>
   rw[hn] at h;obtain⟨h1,h2⟩:=ih u h;simp only[List.length_cons];refine⟨by rw[endsIn_succ,hn];exact h1,fun m hm=>?_⟩;cases m with
   | zero=>simp[endsIn] at hm
   | succ m =>
    rw[endsIn_succ,hn] at hm;have:=h2 m hm;omega
theorem a2Z {x:Sc}:∀ (n:Nat) (t:Ty),endsIn x n t=true->∀ v,v∈walked x n t->endsIn x (walked x n t).length v=true/\(v≠t->endsIn x ((walked x n t).length-1) v=true):=by
 intro n;induction n with
 | zero=>intro t h;simp[endsIn] at h
 | succ n ih =>
  intro t h v hv;have hl:=(lT (n+1) t h).1;rw[endsIn_succ] at h;simp only[walked] at hv hl ⊢;cases hn:nxt x t with
  | none =>
   rw[hn] at hv;simp only[List.mem_singleton] at hv;subst hv;rw[hn] at hl;exact⟨hl,fun e=>absurd rfl e⟩
  | some u =>
   rw[hn] at hv h hl;simp only at h;rcases List.mem_cons.1 hv with rfl|hv
   ·exact⟨hl,fun e=>absurd rfl e⟩
   ·obtain⟨a1,_⟩:=ih u h v hv
    simp only[List.length_cons,Nat.add_sub_cancel];exact⟨iW _ _ a1 _ (by omega),fun _=>a1⟩
theorem zG {x:Sc}:∀ (n:Nat) (t:Ty),endsIn x n t=true->(walked x n t).Nodup:=by
 intro n;induction n with
 | zero=>intro t h;simp[endsIn] at h
 | succ n ih =>
  intro t h;have h0:=h;rw[endsIn_succ] at h;simp only[walked];cases hn:nxt x t with
  | none=>simp
  | some u =>
   rw[hn] at h;simp only at h;refine List.nodup_cons.2 ⟨fun hm=>?_,ih u h⟩;obtain⟨a1,_⟩:=a2Z n u h t hm;have:=(lT (n+1) t h0).2 _ a1;simp only[walked,hn,List.length_cons] at this;omega
theorem a9J {x:Sc} {t u:Ty} (h:nxt x t=some u):u∈x:=by
 unfold nxt at h;split at h
 ·simp at h
 ·split at h
  ·simp at h
  ·split at h
   ·exact(aY h).1
   ·simp at h
theorem a3O {x:Sc}:∀ (n:Nat) (t:Ty),t∈x->∀ v,v∈walked x n t->v∈x:=by
 intro n;induction n with
 | zero=>intro t _ v h;simp[walked] at h
 | succ n ih =>
  intro t ht v hv;simp only[walked] at hv;rcases List.mem_cons.1 hv with rfl|hv
  ·exact ht
  ·cases hn:nxt x t with
   | none=>rw[hn] at hv;simp at hv
   | some u=>rw[hn] at hv;exact ih u (a9J hn) v hv
theorem a5K {α:Type} [DecidableEq α]:∀ (l x:List α),l.Nodup->(∀ a,a∈l->a∈x)->l.length<=x.length:=by
 intro l;induction l with
 | nil=>intro x _ _;simp
 | cons a l ih =>
  intro x hn hs;obtain⟨h1,h2⟩:=List.nodup_cons.1 hn;have ha:=hs a (by simp);have:=ih (x.erase a) h2 (fun b hb=>(List.mem_erase_of_ne (fun e=>h1 (by rw[<-e];exact hb))).2 (hs b (by simp[hb])));rw[List.length_erase_of_mem ha] at this;have:=List.length_pos_of_mem ha;simp only[List.length_cons];omega
theorem sX {x:Sc} {t:Ty} (ht:t∈x) {n:Nat} (h:endsIn x n t=true):endsIn x x.length t=true:=by
 have h1:=(lT n t h).1;have h2:=a5K _ x (zG n t h) (a3O n t ht);exact iW _ _ h1 _ h2
theorem a5N {x:Sc} (hx:∀ t,t∈x->TyOk t):∀ (n m:Nat) (t:Ty) (nm:Bs),x.find nm=some t->endsIn x n t=true->n<=m->stands x m (.ref nm)=stands x n (.ref nm):=by
 intro n;induction n with
 | zero=>intro m t nm _ h;simp[endsIn] at h
 | succ n ih =>
  intro m t nm ht h hm;cases m with
  | zero=>omega
  | succ m =>
   simp only[stands,ht];split
   ·rfl
   ·rename_i h82
    split
    ·rfl
    ·rename_i f fs hf
     split
     ·rfl
     ·rename_i h69
      by_cases h85:t.sort=85
      ·rw[endsIn_succ] at h
       have hn:nxt x t=(match f.kind with | .ref nm=>x.find nm|_=>none):=(by simp[nxt,h85,hf]);rw[hn] at h;cases hk:f.kind with
       | ref nm2 =>
        rw[hk] at h;simp only at h;cases hu:x.find nm2 with
        | none=>cases m <;> cases n <;> simp[stands,hu]
        | some u =>
         rw[hu] at h;simp only at h;rw[ih m u nm2 hu h (by omega)]
       | num=>cases m <;> cases n <;> simp[stands]
       | txt=>cases m <;> cases n <;> simp[stands]
       | flag=>cases m <;> cases n <;> simp[stands]
       | list k=>cases m <;> cases n <;> simp[stands]
       | opt k=>cases m <;> cases n <;> simp[stands]
      ·rcases(hx t (aY ht).1).sort with h|h|h
       ·exact absurd h h82
       ·exact absurd h h85
       ·exact absurd h h69
end Wf

namespace Wf
def mapTys:List Bs->Option (List Ty)
 | []=>some []
 | s::l =>
  match lineTy s with
  | none=>none
  | some t=>(mapTys l).map (t :: ·)
def dP (x:List Ty):Bool:=decide ((x.map (·.name)).Pairwise (· ≠ ·))
theorem addTys_eq:∀ (l:List Bs) (acc:List Ty),acc.length<=8->(acc.map (·.name)).Pairwise (· ≠ ·) ->
  addTys acc l=if acc.length+l.length<=8 then (match mapTys l with|none=>none|some r=>if dP (acc++r)=true then some (acc++r) else none) else none:=by
 intro l;induction l with
 | nil=>intro acc h hn;simp[addTys,mapTys,h,dP,hn]
 | cons s l ih =>
  intro acc h hn;simp only[addTys,mapTys,List.length_cons];by_cases h8:acc.length=8
  ·rw[if_pos h8,if_neg (by omega)]
  ·rw[if_neg h8]
   cases ht:lineTy s with
   | none=>simp
   | some t =>
    simp only;by_cases ha:acc.any (fun u=>u.name==t.name)=true
    ·rw[if_pos ha]
     simp only[List.any_eq_true,beq_iff_eq] at ha;obtain⟨u,hu,hut⟩:=ha;split
     ·cases mapTys l with
      | none=>rfl
      | some r =>
       simp only[Option.map_some];rw[if_neg];simp only[dP,decide_eq_true_eq,List.map_append,List.map_cons];intro hp;exact(List.pairwise_append.1 hp).2.2 u.name (List.mem_map.2 ⟨u,hu,rfl⟩) t.name (by simp) hut
     ·rfl
    ·rw[if_neg ha]
     simp only[List.any_eq_true,beq_iff_eq,not_exists,not_and] at ha;rw[ih (acc++[t]) (by simp;omega) (by
      rw[List.map_append];refine List.pairwise_append.2 ⟨hn,by simp,?_⟩;intro a hx b hb;obtain⟨g,hg,rfl⟩:=List.mem_map.1 hx;simp only[List.map_cons,List.map_nil,List.mem_singleton] at hb;subst hb;exact ha g hg)]
     simp only[List.length_append,List.length_cons,List.length_nil];by_cases hl:acc.length+(l.length+1)<=8
     ·rw[if_pos (by omega),if_pos hl]
      cases mapTys l with
      | none=>rfl
      | some r=>simp
     ·rw[if_neg (by omega),if_neg hl]
def lZ (s:Bs):Option Sc :=
 if 400<s.length\/9<(cutAt 10 s).length\/(cutAt 10 s).getLast? ≠ some [] then none else
 match mapTys (cutAt 10 s).dropLast with
 | none=>none
 | some x=>if dP x=true/\cJ x=true/\x.all (endsIn x (x.length+1))=true then some x else none
theorem xR (s:Bs):lZ s=schemaOf s:=by
 unfold lZ schemaOf;by_cases h1:400<s.length
 ·simp[h1]
 ·by_cases h2:(cutAt 10 s).getLast? ≠ some []
  ·simp[h1,h2]
  ·have hlen:=List.length_pos_iff.2 (bX 10 s)
   have hdl:(cutAt 10 s).dropLast.length=(cutAt 10 s).length-1:=(by simp);rw[addTys_eq _ _ (by simp) (by simp)];simp only[h1,h2,if_false,or_false,false_or,List.length_nil,Nat.zero_add,List.nil_append];by_cases h3:9<(cutAt 10 s).length
   ·rw[if_pos h3,if_neg (by omega)]
   ·rw[if_neg h3,if_pos (by omega)]
    cases hm:mapTys (cutAt 10 s).dropLast with
    | none=>rfl
    | some x =>
     have hxl:x.length<=8:=by
      have:∀ (l:List Bs) (r:List Ty),mapTys l=some r->r.length=l.length:=by
       intro l;induction l with
       | nil=>intro r h;simp[mapTys] at h;subst h;rfl
       | cons a l ih =>
        intro r h;simp only[mapTys] at h;split at h
        ·simp at h
        ·cases hr:mapTys l with
         | none=>rw[hr] at h;simp at h
         | some r'=>rw[hr] at h;simp at h;subst h;simp[ih r' hr]
      have:=this _ _ hm;omega
     simp only;by_cases hn:dP x=true
     ·simp only[hn,true_and,if_true]
      have he:x.all (endsIn x (x.length+1))=x.all (endsIn x 9):=by
       rw[Bool.eq_iff_iff,List.all_eq_true,List.all_eq_true];constructor
       ·intro h t ht;exact iW _ _ (h t ht) _ (by omega)
       ·intro h t ht;exact iW _ _ (sX ht (h t ht)) _ (by omega)
      rw[he]
     ·simp[hn]
end Wf

namespace Wf
abbrev Asc (es:List (Fd × V)):Prop:=(es.map (fun e=>e.1.tag)).Pairwise (· < ·)
theorem pG {es:List (Fd × V)} (h:Asc es) {a b:Fd × V} (ha:a∈es) (hb:b∈es) (hab:a.1.tag=b.1.tag):a=b:=by
 have h1:=find_eq h ha;have h2:=find_eq h hb;rw[hab,h2] at h1;exact(Option.some.inj h1).symm
theorem a5A {x:Sc} {es:List (Fd × V)} {f g:Fd} {y z:V} (h:Asc es) (hfg:f.tag≠g.tag):aP x (aP x es f y) g z=aP x (aP x es g z) f y:=by
 refine lQ _ _ (dS (dS h)) (dS (dS h)) fun e=>?_;simp only[eD];constructor
 ·rintro(⟨h1|⟨h1,rfl⟩,h2⟩|⟨h1,rfl⟩)
  ·exact .inl ⟨.inl ⟨h1.1,h2⟩,h1.2⟩
  ·exact .inr ⟨h1,rfl⟩
  ·exact .inl ⟨.inr ⟨h1,rfl⟩,fun e=>hfg e.symm⟩
 ·rintro(⟨h1|⟨h1,rfl⟩,h2⟩|⟨h1,rfl⟩)
  ·exact .inl ⟨.inl ⟨h1.1,h2⟩,h1.2⟩
  ·exact .inr ⟨h1,rfl⟩
  ·exact .inl ⟨.inr ⟨h1,rfl⟩,hfg⟩
def mY (x:Sc) (es:List (Fd × V)) (f:Fd) (o:V):Prop :=
 ((f,o)∈es/\o.print≠aH x f)\/((∀ e,e∈es->e.1.tag≠f.tag)/\o.print=aH x f)
theorem wR {x:Sc} {es:List (Fd × V)} {f:Fd} {y o:V} (h:Asc es) (ho:mY x es f o):aP x (aP x es f y) f o=es:=by
 refine lQ _ _ (dS (dS h)) h fun e=>?_;simp only[eD];rcases ho with⟨h1,h2⟩|⟨h1,h2⟩
 ·constructor
  ·rintro(⟨h3|⟨_,rfl⟩,h4⟩|⟨_,rfl⟩)
   ·exact h3.1
   ·exact absurd rfl h4
   ·exact h1
  ·intro he
   by_cases ht:e.1.tag=f.tag
   ·exact .inr ⟨h2,pG h he h1 ht⟩
   ·exact .inl ⟨.inl ⟨he,ht⟩,ht⟩
 ·constructor
  ·rintro(⟨h3|⟨_,rfl⟩,h4⟩|⟨h3,rfl⟩)
   ·exact h3.1
   ·exact absurd rfl h4
   ·exact absurd h2 h3
  ·intro he
   have ht:=h1 e he;exact .inl ⟨.inl ⟨he,ht⟩,ht⟩
theorem a8V {x:Sc} {es:List (Fd × V)} {f:Fd} {o:V} (h:Asc es) (ho:mY x es f o):aP x es f o=es:=by
 refine lQ _ _ (dS h) h fun e=>?_;simp only[eD];rcases ho with⟨h1,h2⟩|⟨h1,h2⟩
 ·constructor
  ·rintro(⟨h3,_⟩|⟨_,rfl⟩)
   ·exact h3
   ·exact h1
  ·intro he
   by_cases ht:e.1.tag=f.tag
   ·exact .inr ⟨h2,pG h he h1 ht⟩
   ·exact .inl ⟨he,ht⟩
 ·constructor
  ·rintro(⟨h3,_⟩|⟨h3,rfl⟩)
   ·exact h3
   ·exact absurd h2 h3
  ·intro he;exact .inl ⟨he,h1 e he⟩
theorem a4U {x:Sc} {es:List (Fd × V)} {f:Fd} {y:V} (h:Asc es):getEs x (aP x es f y) f=y.print:=by
 unfold getEs;by_cases hy:y.print=aH x f
 ·rw[sL (fun e he=>?_)]
  ·exact hy.symm
  ·rcases eD.1 he with h1|h1
   ·exact h1.2
   ·exact absurd hy h1.1
 ·have:=find_eq (dS (x:=x) (f:=f) (y:=y) h) (e:=(f,y)) (eD.2 (.inr ⟨hy,rfl⟩))
  rw[this]
theorem yT {x:Sc} {es:List (Fd × V)} {f g:Fd} {y:V} (h:Asc es) (hg:g.tag≠f.tag):getEs x (aP x es f y) g=getEs x es g:=by
 unfold getEs;have key:(aP x es f y).find? (fun e=>e.1.tag==g.tag)=es.find? (fun e=>e.1.tag==g.tag):=by
  cases hf:es.find? (fun e=>e.1.tag==g.tag) with
  | none =>
   rw[List.find?_eq_none] at hf;refine sL fun e he=>?_;rcases eD.1 he with h1|⟨_,rfl⟩
   ·simpa using hf e h1.1
   ·exact fun e=>hg e.symm
  | some e =>
   have hm:=List.mem_of_find?_eq_some hf;have ht:e.1.tag=g.tag:=(by simpa using List.find?_some hf);have:=find_eq (dS (x:=x) (f:=f) (y:=y) h) (e:=e) (eD.2 (.inl ⟨hm,by omega⟩));rw[ht] at this;exact this
 rw[key]
theorem a3Y {x:Sc} {n m:Nat} {k:K} {u v:V} (hu:Typed x n k u) (hv:Typed x m k v) (h:u.print=v.print):u=v:=by
 have h1:=mQ _ _ _ [] (fH _ _ _ hu (max n m) (Nat.le_max_left _ _)) (by simp[kB]);have h2:=mQ _ _ _ [] (fH _ _ _ hv (max n m) (Nat.le_max_right _ _)) (by simp[kB]);rw[h,h2] at h1;simp only[Option.some.injEq,Prod.mk.injEq,and_true] at h1;exact h1.symm
theorem iN {x:Sc} {nm:Bs} (h:aO x (.ref nm)=true):∃ t,x.find nm=some t:=by
 simp only[aO,K.base,K.name,ne_eq,not_true_eq_false,decide_false,Bool.false_or] at h;exact Option.isSome_iff_exists.1 h
theorem qC {t:Ty} (ht:TyOk t) {f:Fd} {fs:List Fd} (hf:t.fields=f::fs):t.field f.tag=some f:=by
 unfold Ty.field;rw[hf,List.find?_cons_of_pos (by simp)]
theorem a1E {x:Sc} (hx:ScOk x):∀ (n:Nat) (t:Ty) (nm:Bs),x.find nm=some t->endsIn x n t=true ->
  ∃ v,Typed x (n+1) (.ref nm) v/\v.print=stands x n (.ref nm)/\v.deep<=n+1:=by
 intro n;induction n with
 | zero=>intro t nm _ h;simp[endsIn] at h
 | succ n ih =>
  intro t nm ht h;have htm:=(aY ht).1;have hto:=hx.tys t htm;simp only[stands,ht];rcases hto.sort with hs|hs|hs
  ·rw[if_pos hs]
   refine⟨.mk 82 [] 0 [],⟨t,ht,.inr (.inr ⟨by rw[hs];decide,by rw[hs];decide,[],by simp,by simp,rfl⟩)⟩,by rw[dB];rfl,by simp[V.deep,V.aK]⟩
  ·have h82:t.sort≠82:=by rw[hs];decide
   have h69:t.sort≠69:=(by rw[hs];decide);rw[if_neg h82];cases hf:t.fields with
   | nil=>exact absurd hf (hto.some h82)
   | cons f fs =>
    simp only[if_neg h69];have hfo:=hto.fds f (by rw[hf];simp);have href:=hx.refs t htm h69 f (by rw[hf];simp);have hfirst:=qC hto hf
    -- the lA value of the first field's kind
    have key:∃ u,Typed x (n+1) f.kind u/\u.print=stands x n f.kind/\u.deep<=n+1:=by
     cases hk:f.kind with
     | num=>exact⟨.mk 110 (dec 0) 0 [],⟨0,by omega,rfl⟩,by rw[eB];cases n <;> simp[stands,dec_lt],by simp[V.deep,V.aK]⟩
     | txt=>exact⟨.mk 116 [] 0 [],⟨[],by simp,by simp,rfl⟩,by rw[eI];cases n <;> rfl,by simp[V.deep,V.aK]⟩
     | flag=>exact⟨.mk 102 [110,111] 0 [],.inr rfl,by rw[dD];cases n <;> rfl,by simp[V.deep,V.aK]⟩
     | list k=>exact⟨.mk 91 [] 0 [],⟨[],by simp,by simp,rfl⟩,by rw[dW];cases n <;> rfl,by simp[V.deep,V.aK]⟩
     | opt k=>exact⟨.mk 63 [] 0 [],.inl rfl,by rw[eW];cases n <;> rfl,by simp[V.deep,V.aK]⟩
     | ref nm2 =>
      rw[hk] at href;obtain⟨u,hu⟩:=iN href;rw[endsIn_succ] at h;have hn:nxt x t=some u:=(by simp[nxt,hs,hf,hk,hu]);rw[hn] at h;exact ih u nm2 hu h
    obtain⟨u,hu,hup,hud⟩:=key;refine⟨.mk 85 [] f.tag [u],⟨t,ht,.inr (.inl ⟨h69,hs,f,u,hfirst,hfo.tag2,hu,rfl⟩)⟩,by rw[eU,hup],?_⟩;simp[V.deep,V.aK];omega
  ·have h82:t.sort≠82:=by rw[hs];decide
   rw[if_neg h82];cases hf:t.fields with
   | nil=>exact absurd hf (hto.some h82)
   | cons f fs =>
    simp only[if_pos hs];have hfo:=hto.fds f (by rw[hf];simp);exact⟨.mk 69 [] f.tag [],⟨t,ht,.inl ⟨hs,f,qC hto hf,hfo.tag2,rfl⟩⟩,by rw[fQ],by simp[V.deep,V.aK]⟩
theorem yZ {x:Sc} (hx:ScOk x) {k:K} (hk:aO x k=true):∃ v,Typed x 10 k v/\v.print=stands x 9 k:=by
 cases k with
 | num=>exact⟨.mk 110 (dec 0) 0 [],⟨0,by omega,rfl⟩,by rw[eB];simp[stands,dec_lt]⟩
 | txt=>exact⟨.mk 116 [] 0 [],⟨[],by simp,by simp,rfl⟩,by rw[eI];rfl⟩
 | flag=>exact⟨.mk 102 [110,111] 0 [],.inr rfl,by rw[dD];rfl⟩
 | list k=>exact⟨.mk 91 [] 0 [],⟨[],by simp,by simp,rfl⟩,by rw[dW];rfl⟩
 | opt k=>exact⟨.mk 63 [] 0 [],.inl rfl,by rw[eW];rfl⟩
 | ref nm =>
  obtain⟨t,ht⟩:=iN hk;obtain⟨v,h1,h2,_⟩:=a1E hx 9 t nm ht (hx.ends t (aY ht).1);exact⟨v,h1,h2⟩
theorem a7L {x:Sc} {k:K} {s:Bs} (h:stOk k s=true):∃ v,Typed x 1 k v/\v.print=s:=by
 cases k with
 | num =>
  simp only[stOk] at h;cases hp:aF s 999999 with
  | none=>rw[hp] at h;simp at h
  | some m =>
   obtain⟨h1,h2,_⟩:=dC hp;exact⟨.mk 110 (dec m) 0 [],⟨m,h2,rfl⟩,by rw[eB,h1]⟩
 | txt =>
  simp only[stOk,Bool.and_eq_true] at h;obtain⟨b,rfl,hb,hl⟩:=eM.1 h.1;exact⟨.mk 116 b 0 [],⟨b,hb,hl,rfl⟩,eI b⟩
 | flag=>simp only[stOk,decide_eq_true_eq] at h;subst h;exact⟨.mk 102 [121,101,115] 0 [],.inl rfl,dD _⟩
 | ref n=>simp[stOk] at h
 | list k=>simp[stOk] at h
 | opt k=>simp[stOk] at h
theorem a8C {x:Sc} (hx:ScOk x) {t:Ty} (ht:t∈x) (hs:t.sort≠69) {f:Fd} (hf:f∈t.fields):∃ v,Typed x 10 f.kind v/\v.print=aH x f:=by
 unfold aH;by_cases hg:f.given=[]
 ·rw[if_pos hg]
  exact yZ hx (hx.refs t ht hs f hf)
 ·rw[if_neg hg]
  obtain⟨v,h1,h2⟩:=a7L (x:=x) (((hx.tys t ht).fds f hf).given hg).2;exact⟨v,fH _ _ _ h1 10 (by omega),h2⟩
end Wf

namespace Wf
theorem dV {x:Sc} {n:Nat} {k:K} {s r:Bs} {v:V} (h:parse x n k s=some (v,r)):r.length<s.length:=by
 obtain⟨ht,hs⟩:=dR n k s v r h;obtain⟨c,t,hc,_⟩:=jP ht;rw[hs,hc];simp;omega
theorem vC {p:Reads} (hp:∀ s v r,p s=some (v,r)->r.length<s.length):∀ (m m':Nat) (s:Bs),s.length<=m->s.length<=m'->itemsW p m s=itemsW p m' s:=by
 intro m;induction m with
 | zero =>
  intro m' s h1 h2;cases m' with
  | zero=>rfl
  | succ m' =>
   have hs:s=[]:=List.eq_nil_of_length_eq_zero (by omega);subst hs;simp only[itemsW];cases hq:p [] with
   | none=>rfl
   | some y=>have:=hp [] y.1 y.2 hq;simp at this
 | succ m ih =>
  intro m' s h1 h2;cases m' with
  | zero =>
   have hs:s=[]:=List.eq_nil_of_length_eq_zero (by omega);subst hs;simp only[itemsW];cases hq:p [] with
   | none=>rfl
   | some y=>have:=hp [] y.1 y.2 hq;simp at this
  | succ m' =>
   simp only[itemsW];cases hq:p s with
   | none=>rfl
   | some y =>
    obtain⟨v,rest⟩:=y;have hlt:=hp s v rest hq;dsimp only;split
    ·rename_i r
     simp only[List.length_cons] at hlt;rw[ih m' r (by omega) (by omega)]
    ·rfl
    ·rfl
def items (p:Reads) (s:Bs):Option (List V × Bs):=itemsW p s.length s
theorem items_step {p:Reads} (hp:∀ s v r,p s=some (v,r)->r.length<s.length) (s:Bs):items p s=match p s with
  | none=>none
  | some (v,rest) =>
   match rest with
   | 44::r=>(items p r).map fun x=>(v::x.1,x.2)
   | 93::r=>some ([v],r)
   | _=>none:=by
 unfold items;rw[vC hp s.length (s.length+1) s (Nat.le_refl _) (by omega)];simp only[itemsW];cases hq:p s with
 | none=>rfl
 | some y =>
  obtain⟨v,rest⟩:=y;have hlt:=hp s v rest hq;dsimp only;split
  ·rename_i r
   simp only[List.length_cons] at hlt;rw[vC hp s.length r.length r (by omega) (Nat.le_refl _)];rfl
  ·rfl
  ·rename_i h1 h2
   split
   ·exact(h1 _ rfl).elim
   ·exact(h2 _ rfl).elim
   ·rfl
theorem a4B {p:Reads} (hp:∀ s v r,p s=some (v,r)->r.length<s.length) {s:Bs} {l:List V} {q:Bs} (h:items p s=some (l,q)):l≠[]:=by
 rw[items_step hp] at h;split at h
 ·cases h
 ·split at h
  ·rw[Option.map_eq_some_iff] at h
   obtain⟨y,_,hy⟩:=h;simp only[Prod.mk.injEq] at hy;rw[<-hy.1];simp
  ·simp only[Option.some.injEq,Prod.mk.injEq] at h
   rw[<-h.1];simp
  ·cases h
theorem iL {most n:Nat} {s r:Bs} (h:aQ most s=some (n,r)):r.length<s.length:=by
 obtain⟨m,h1,h2⟩:=Option.map_eq_some_iff.1 h;simp only[Prod.mk.injEq] at h2;have hne:s.takeWhile aB≠[]:=by
  intro e;rw[e] at h1;simp[aF] at h1
 have:=congrArg List.length (List.takeWhile_append_dropWhile (p:=aB) (l:=s));rw[List.length_append] at this;have h3:=List.length_pos_iff.2 hne;rw[<-h2.2];omega
theorem jX {t:Ty} {p:K->Reads} (hp:∀ k s v r,p k s=some (v,r)->r.length<s.length) {s r:Bs} {f:Fd} {v:V} (h:fieldTok t p s=some (f,v,r)):r.length+2<s.length:=by
 unfold fieldTok at h;cases hn:aQ 200 s with
 | none=>rw[hn] at h;cases h
 | some y =>
  obtain⟨tag,rest⟩:=y;have h1:=iL hn;rw[hn] at h;dsimp only at h;split at h
  ·rename_i q f' hf
   simp only[List.length_cons] at h1;obtain⟨y,hy,h2⟩:=Option.map_eq_some_iff.1 h;simp only[Prod.mk.injEq] at h2;have:=hp _ _ _ _ hy;rw[<-h2.2.2];omega
  ·cases h
theorem uS {x:Sc} {t:Ty} {p:K->Reads} (hp:∀ k s v r,p k s=some (v,r)->r.length<s.length):∀ (m m' last:Nat) (s:Bs),s.length<=m->s.length<=m'->fieldsW x t p m last s=fieldsW x t p m' last s:=by
 intro m;induction m with
 | zero =>
  intro m' last s h1 h2;cases m' with
  | zero=>rfl
  | succ m' =>
   have hs:s=[]:=List.eq_nil_of_length_eq_zero (by omega);subst hs;simp only[fieldsW];cases hq:fieldTok t p [] with
   | none=>rfl
   | some y=>have:=jX hp hq;simp at this
 | succ m ih =>
  intro m' last s h1 h2;cases m' with
  | zero =>
   have hs:s=[]:=List.eq_nil_of_length_eq_zero (by omega);subst hs;simp only[fieldsW];cases hq:fieldTok t p [] with
   | none=>rfl
   | some y=>have:=jX hp hq;simp at this
  | succ m' =>
   simp only[fieldsW];cases hq:fieldTok t p s with
   | none=>rfl
   | some y =>
    obtain⟨f,v,rest⟩:=y;have hlt:=jX hp hq;dsimp only;split
    ·rfl
    ·split
     ·rename_i r
      simp only[List.length_cons] at hlt;rw[ih m' _ r (by omega) (by omega)]
     ·rfl
     ·rfl
def flds (x:Sc) (t:Ty) (p:K->Reads) (last:Nat) (s:Bs):Option (List V × Bs):=fieldsW x t p s.length last s
theorem flds_step {x:Sc} {t:Ty} {p:K->Reads} (hp:∀ k s v r,p k s=some (v,r)->r.length<s.length) (last:Nat) (s:Bs):flds x t p last s=match fieldTok t p s with
  | none=>none
  | some (f,v,rest) =>
   if f.tag<=last\/v.print=aH x f then none else
   match rest with
   | 44::r=>(flds x t p f.tag r).map fun y=>(.mk 61 [] f.tag [v]::y.1,y.2)
   | 125::r=>some ([.mk 61 [] f.tag [v]],r)
   | _=>none:=by
 unfold flds;rw[uS hp s.length (s.length+1) last s (Nat.le_refl _) (by omega)];simp only[fieldsW];cases hq:fieldTok t p s with
 | none=>rfl
 | some y =>
  obtain⟨f,v,rest⟩:=y;have hlt:=jX hp hq;dsimp only;split
  ·rfl
  ·split
   ·rename_i r
    simp only[List.length_cons] at hlt;rw[uS hp s.length r.length _ r (by omega) (Nat.le_refl _)];rfl
   ·rfl
   ·rename_i h1 h2
    split
    ·exact(h1 _ rfl).elim
    ·exact(h2 _ rfl).elim
    ·rfl
def valIn (x:Sc) (k:K) (s:Bs):Option V:=if s.length<=400 then (match parse x 12 k s with|some (v,[])=>some v|_=>none) else none
theorem kP {x:Sc} {k:K} {s:Bs} (h:¬ s.length<=400):valIn x k s=none:=by rw[valIn,if_neg h]
theorem a0N {x:Sc} {k:K} {s:Bs} (h:s.length<=400):valIn x k s=match parse x 401 k s with
  | some (v,r)=>if r=[]/\v.deep<=12 then some v else none
  | none=>none:=by
 rw[valIn,if_pos h,xQ 12 401 (by omega) k s];cases parse x 401 k s with
 | none=>rfl
 | some y =>
  obtain⟨v,r⟩:=y;by_cases hd:v.deep<=12
  ·simp only[Option.filter_some,hd,decide_true,if_true]
   cases r <;> simp
  ·simp only[Option.filter_some,hd,decide_false]
   simp
theorem cY {x:Sc} {k:K} {s:Bs} {v:V} (h:valIn x k s=some v):Typed x 12 k v/\s=v.print/\s.length<=400:=by
 unfold valIn at h;split at h
 ·rename_i hs
  split at h
  ·rename_i v' hp
   cases h;obtain⟨h1,h2⟩:=dR _ _ _ _ _ hp;exact⟨h1,by simpa using h2,hs⟩
  ·cases h
 ·cases h
theorem jW {x:Sc} {n:Nat} {k:K} {v:V} (h:Typed x n k v) (hd:v.deep<=12) (hs:v.print.length<=400):valIn x k v.print=some v:=by
 have h12:=lM n k v h 12 hd;have:=mQ 12 k v [] h12 (by intro c hc;simp at hc);rw[List.append_nil] at this;rw[valIn,if_pos hs,this]
end Wf

namespace Wf
theorem kE (x:Sc) (n:Nat) (s:Bs):parse x (n+1) .num s=(aQ 999999 s).map fun y=>(.mk 110 (dec y.1) 0 [],y.2):=by simp only[parse]
theorem nK (x:Sc) (n:Nat) {s r q:Bs} (h1:s=39::r) (h2:r.dropWhile aG=39::q) (h3:(r.takeWhile aG).length<=12):parse x (n+1) .txt s=some (.mk 116 (r.takeWhile aG) 0 [],q):=by
 subst h1;simp only[parse,h2,h3,if_true]
theorem nI (x:Sc) (n:Nat) {s:Bs} (h:s.head? ≠ some 39):parse x (n+1) .txt s=none:=by
 simp only[parse];split
 ·simp at h
 ·rfl
theorem lU (x:Sc) (n:Nat) {s r:Bs} (h1:s=39::r) (h2:(r.dropWhile aG).head? ≠ some 39):parse x (n+1) .txt s=none:=by
 subst h1;simp only[parse];split
 ·rename_i q hq
  rw[hq] at h2;simp at h2
 ·rfl
theorem vD (x:Sc) (n:Nat) {s r:Bs} (h1:s=39::r) (h3:¬ (r.takeWhile aG).length<=12):parse x (n+1) .txt s=none:=by
 subst h1;simp only[parse,h3,if_false];split <;> rfl
theorem parse_list (x:Sc) (n:Nat) (k:K) (s:Bs):parse x (n+1) (.list k) s=match s with
  | 91::r=>(match r with
   | 93::q=>some (.mk 91 [] 0 [],q)
   | _=>match items (parse x n k) r with
    | none=>none
    | some (l,q)=>if l.length<=20 then some (.mk 91 [] 0 l,q) else none)
  | _=>none:=by
 simp only[parse,items];rfl
theorem parse_opt (x:Sc) (n:Nat) (k:K) (s:Bs):parse x (n+1) (.opt k) s=match s with
  | 45::q=>some (.mk 63 [] 0 [],q)
  | 43::r=>(parse x n k r).map fun y=>(.mk 63 [] 0 [y.1],y.2)
  | _=>none:=by
 simp only[parse];rfl
theorem dY (x:Sc) (n:Nat) (nm:Bs) (t:Ty) (h:x.find nm=some t) (s:Bs):parse x (n+1) (.ref nm) s=parseTy x (fun k' s'=>parse x n k' s') t s:=by
 simp only[parse];rw[h]
theorem parseTy_rec (x:Sc) (p:K->Reads) (t:Ty) (s:Bs) (h:t.sort=82):parseTy x p t s=match s with
  | 123::r=>(match r with
   | 125::q=>some (.mk 82 [] 0 [],q)
   | _=>(flds x t p 0 r).map fun y=>(.mk 82 [] 0 y.1,y.2))
  | _=>none:=by
 unfold parseTy flds;rw[if_neg (by rw[h];decide),if_neg (by rw[h];decide)];rfl
theorem parseTy_uni (x:Sc) (p:K->Reads) (t:Ty) (s:Bs) (h:t.sort=85):parseTy x p t s=match s with
  | 60::r=>(match fieldTok t p r with
   | some (f,v,rest)=>closeU f.tag v rest
   | none=>none)
  | _=>none:=by
 unfold parseTy;rw[if_neg (by rw[h];decide),if_pos h];rfl
theorem parseTy_enm (x:Sc) (p:K->Reads) (t:Ty) (s:Bs) (h:t.sort=69):parseTy x p t s=match s with
  | 35::r=>(match aQ 200 r with
   | none=>none
   | some (tag,rest)=>if (t.field tag).isSome then some (.mk 69 [] tag [],rest) else none)
  | _=>none:=by
 unfold parseTy;rw[if_pos h];rfl
def Badv (s r:Bs) (v:V):Prop:=v.print.length+8*r.length<=8*s.length+8/\r.length<=s.length
theorem a3D:(V.mk 0 [] 0 []).print=[]:=by simp[V.print,form]
theorem a9P {s r:Bs} {m:Nat} (hm:m<=999999) (h:r.length<=s.length):Badv s r (.mk 110 (dec m) 0 []):=by
 refine⟨?_,h⟩;rw[eB];have:=cA hm;omega
theorem a7W {s r t:Bs} (h:t.length+r.length<=s.length):Badv s r (.mk 116 t 0 []):=by
 refine⟨?_,by omega⟩;rw[eI];simp;omega
theorem a1X {s r t:Bs} (ht:t.length<=3) (h:r.length<=s.length):Badv s r (.mk 102 t 0 []):=by
 refine⟨?_,h⟩;rw[dD];omega
theorem a8N {s r:Bs} {g:Nat} (hg:g<=999999) (h:r.length<=s.length):Badv s r (.mk 69 [] g []):=by
 refine⟨?_,h⟩;rw[fQ];have:=cA hg;simp;omega
theorem a7E {s r q:Bs} {c:UInt8} {v:V} (hs:s=c::q) (h:Badv q r v):Badv s r (.mk 63 [] 0 [v]):=by
 obtain⟨h1,h2⟩:=h;subst hs;refine⟨?_,by simp;omega⟩;rw[fX];simp;omega
theorem a2M {s:Bs}:Badv s s (.mk 63 [] 0 [.mk 0 [] 0 []]):=by
 refine⟨?_,Nat.le_refl _⟩;rw[fX,a3D];simp;omega
theorem a0H {s r:Bs} (h:r.length<=s.length):Badv s r (.mk 85 [] 0 []):=by
 refine⟨?_,h⟩;have:(V.mk 85 [] 0 []).print=[60,48,61,62]:=by
  simp[V.print,form,V.prints,commas];rw[dec_lt (by omega)];decide
 rw[this];simp;omega
def pl (l:List V):Nat:=(l.map V.print).flatten.length+l.length
theorem qU:pl []=0:=rfl
theorem iQ (l:List V) (v:V):pl (l++[v])=pl l+v.print.length+1:=by
 unfold pl;simp;omega
theorem oI {l:List V} (h:l≠[]):(commas (l.map V.print)).length+1=pl l:=by
 rw[jZ _ (by simpa using h),pl,List.length_map]
theorem nJ {w:UInt8} (hw:w=91\/w=82) (l:List V):(V.mk w [] 0 l).print.length=(commas (l.map V.print)).length+2:=by
 rcases hw with rfl|rfl
 ·rw[dW];simp
 ·rw[dB];simp
theorem uM {w:UInt8} (hw:w=91\/w=82) {s s0 s1 r:Bs} {l:List V} {u:V} (h0:s.length=s0.length+1) (h1:pl l+s1.length=s0.length) (h:Badv s1 r u):Badv s r (.mk w [] 0 (l++[u])):=by
 obtain⟨h2,h3⟩:=h;refine⟨?_,by omega⟩;rw[nJ hw];have:=oI (l:=l++[u]) (by simp);rw[iQ] at this;omega
theorem mL {w:UInt8} (hw:w=91\/w=82) {s s0 r:Bs} {l:List V} (h0:s.length=s0.length+1) (hl:l≠[]) (h1:pl l+r.length<=s0.length+1):Badv s r (.mk w [] 0 l):=by
 have h2:=oI hl;have h3:1<=pl l:=by unfold pl;have:=List.length_pos_iff.2 hl;omega
 refine⟨?_,by omega⟩;rw[nJ hw];omega
theorem nB {w:UInt8} (hw:w=91\/w=82) {s r:Bs} (h:r.length<=s.length):Badv s r (.mk w [] 0 []):=by
 refine⟨?_,h⟩;rw[nJ hw];simp[commas];omega
theorem nM {s q r:Bs} {g:Nat} {u:V} (hg:g<=200) (hq:q.length+2<=s.length) (h:Badv q r u):Badv s r (.mk 61 [] g [u]):=by
 obtain⟨h1,h2⟩:=h;refine⟨?_,by omega⟩;rw[gO];have:=eE g 2 (by omega);simp;omega
theorem tS {s q r:Bs} {c:UInt8} {g:Nat} {u:V} (hs:s=c::q) (h:Badv q r (.mk 61 [] g [u])):Badv s r (.mk 85 [] g [u]):=by
 obtain⟨h1,h2⟩:=h;subst hs;refine⟨?_,by simp;omega⟩;rw[gO] at h1;rw[eU];simp at h1 ⊢;omega
end Wf
