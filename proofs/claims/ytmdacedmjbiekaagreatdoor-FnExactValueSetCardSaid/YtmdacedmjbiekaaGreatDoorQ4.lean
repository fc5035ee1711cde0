/- Packed by pack.py: PlainF PlainG PlainH PlainI PlainJ PlainK PlainL PlainU PlainW PlainM. -/
import Derived.Test.YtmdacedmjbiekaaGreatDoorQ3
namespace Wf
set_option linter.unusedVariables false
set_option linter.unusedSimpArgs false
theorem numTok_some {most n:Nat} {s r:Bs} (h:numTok most s=some (n,r)) :
  s=dec n++r∧n≤most∧n≤999999∧(∀ c,r.head? = some c→isDig c=false):=by
 unfold numTok at h
 cases hp:plainN (s.takeWhile isDig) most with
 | none=>rw[hp] at h;simp at h
 | some m =>
  rw[hp] at h
  simp only[Option.map_some,Option.some.injEq,Prod.mk.injEq] at h
  obtain⟨rfl,rfl⟩:=h
  obtain⟨h1,h2,h3⟩:=plainN_some hp
  refine⟨by rw[← h1,List.takeWhile_append_dropWhile],h2,h3,fun c hc => ?_⟩
  have:=List.head?_dropWhile_not isDig s
  rw[hc] at this
  simpa using this
theorem numTok_dec {most n:Nat} {r:Bs} (h:n≤most) (h6:n≤999999) (hr:∀ c,r.head? = some c→isDig c=false) :
  numTok most (dec n++r)=some (n,r):=by
 have ha:∀ a,a∈dec n→isDig a=true:=List.all_eq_true.1 (dec_all n)
 have e1:(dec n++r).takeWhile isDig=dec n:=by
  rw[List.takeWhile_append_of_pos ha]
  cases r with
  | nil=>simp
  | cons c q=>rw[List.takeWhile_cons,hr c rfl];simp
 have e2:(dec n++r).dropWhile isDig=r:=by
  rw[List.dropWhile_append_of_pos ha]
  cases r with
  | nil=>simp
  | cons c q=>rw[List.dropWhile_cons,hr c rfl];simp
 rw[numTok,e1,e2,plainN_dec h h6];rfl
theorem commas_cons (a:Bs) {l:List Bs} (h:l≠[]):commas (a::l)=a++44::commas l:=by
 cases l with
 | nil=>exact absurd rfl h
 | cons b l=>rfl
theorem itemsW_say {p:Reads} {Q:V→Prop} (hp:∀ s v r,p s=some (v,r)→Q v∧s=v.print++r) :
  ∀ (m:Nat) (s:Bs) (l:List V) (r:Bs),itemsW p m s=some (l,r)→l≠[]∧(∀ u,u∈l→Q u)∧s=commas (l.map V.print)++93::r:=by
 intro m
 induction m with
 | zero=>intro s l r h;simp[itemsW] at h
 | succ m ih =>
  intro s l r h
  simp only[itemsW] at h
  cases hq:p s with
  | none=>rw[hq] at h;simp at h
  | some y =>
   obtain⟨v,rest⟩:=y
   rw[hq] at h
   obtain⟨h1,h2⟩:=hp _ _ _ hq
   simp only at h
   split at h
   ·rename_i r'
    cases hi:itemsW p m r' with
    | none=>rw[hi] at h;simp at h
    | some y =>
     obtain⟨l',q⟩:=y
     rw[hi] at h
     simp only[Option.map_some,Option.some.injEq,Prod.mk.injEq] at h
     obtain⟨rfl,rfl⟩:=h
     obtain⟨h3,h4,h5⟩:=ih _ _ _ hi
     refine⟨by simp,by simpa using ⟨h1,h4⟩, ?_⟩
     rw[List.map_cons,commas_cons _ (by simpa using h3),h2,h5];simp
   ·simp only[Option.some.injEq,Prod.mk.injEq] at h
    obtain⟨rfl,rfl⟩:=h
    exact⟨by simp,by simpa using h1,by rw[h2];simp[commas]⟩
   ·simp at h
theorem itemsW_read {p:Reads} {Q:V→Prop} (hp:∀ v r,Q v→(∀ c,r.head? = some c→isDig c=false)→p (v.print++r)=some (v,r)) :
  ∀ (l:List V) (m:Nat) (r:Bs),l≠[]→(∀ u,u∈l→Q u)→l.length≤m→itemsW p m (commas (l.map V.print)++93::r)=some (l,r):=by
 intro l
 induction l with
 | nil=>intro m r h;exact absurd rfl h
 | cons v l ih =>
  intro m r _ hu hm
  cases m with
  | zero=>simp at hm
  | succ m =>
   by_cases hl:l=[]
   ·subst hl
    simp only[List.map_cons,List.map_nil,commas,itemsW]
    rw[hp v _ (hu v (by simp)) (by simp[isDig])]
    rfl
   ·rw[List.map_cons,commas_cons _ (by simpa using hl)]
    simp only[List.append_assoc,List.cons_append,itemsW]
    rw[hp v _ (hu v (by simp)) (by simp[isDig])]
    simp only
    rw[ih m r hl (fun u hx=>hu u (by simp[hx])) (by simp at hm;omega)]
    rfl
theorem field_tag {t:Ty} {g:Nat} {f:Fd} (h:t.field g=some f):f.tag=g:=by
 have:=List.find?_some h
 simpa using this
theorem fieldTok_say {t:Ty} {p:K→Reads} {Q:Fd→V→Prop} (hp:∀ f s v r,p f.kind s=some (v,r)→Q f v∧s=v.print++r)
  {s:Bs} {f:Fd} {v:V} {r:Bs} (h:fieldTok t p s=some (f,v,r)) :
  t.field f.tag=some f∧f.tag≤200∧Q f v∧s=dec f.tag++61::(v.print++r):=by
 unfold fieldTok at h
 cases hn:numTok 200 s with
 | none=>rw[hn] at h;simp at h
 | some y =>
  obtain⟨tag,rest⟩:=y
  rw[hn] at h
  obtain⟨h1,h2,_,_⟩:=numTok_some hn
  simp only at h
  cases hf:t.field tag with
  | none=>rw[hf] at h;simp at h
  | some f' =>
   rw[hf] at h
   cases rest with
   | nil=>simp at h
   | cons c q =>
    by_cases hc:c=61
    ·subst hc
     simp only at h
     cases hq:p f'.kind q with
     | none=>rw[hq] at h;simp at h
     | some y =>
      obtain⟨v',r'⟩:=y
      rw[hq] at h
      simp only[Option.map_some,Option.some.injEq,Prod.mk.injEq] at h
      obtain⟨rfl,rfl,rfl⟩:=h
      obtain⟨h3,h4⟩:=hp _ _ _ _ hq
      have ht:=field_tag hf
      subst ht
      exact⟨hf,h2,h3,by rw[h1,h4]⟩
    ·split at h
     ·rename_i heq _
      simp only[List.cons.injEq] at heq
      exact absurd heq.1 hc
     ·simp at h
theorem fieldTok_read {t:Ty} {p:K→Reads} {f:Fd} {v:V} {r:Bs} (hf:t.field f.tag=some f) (h2:f.tag≤200)
  (hp:p f.kind (v.print++r)=some (v,r)):fieldTok t p (dec f.tag++61::(v.print++r))=some (f,v,r):=by
 unfold fieldTok
 rw[numTok_dec h2 (by omega) (by simp[isDig])]
 simp only[hf,hp,Option.map_some]
def tagged (e:Fd × V):V:=.mk 61 [] e.1.tag [e.2]
theorem tagged_print (e:Fd × V):(tagged e).print=dec e.1.tag++61::e.2.print:=by
 simp[tagged,V.print,V.prints,form,commas]
theorem fieldsW_say {x:Sc} {t:Ty} {p:K→Reads} {Q:Fd→V→Prop} (hp:∀ f s v r,p f.kind s=some (v,r)→Q f v∧s=v.print++r) :
  ∀ (m last:Nat) (s:Bs) (l:List V) (r:Bs),fieldsW x t p m last s=some (l,r) →
   ∃ es:List (Fd × V),es≠[]∧l=es.map tagged∧(last::es.map (fun e=>e.1.tag)).Pairwise (· < ·) ∧
    (∀ e,e∈es→t.field e.1.tag=some e.1∧e.1.tag≤200∧Q e.1 e.2∧e.2.print≠standF x e.1) ∧
    s=commas (l.map V.print)++125::r:=by
 intro m
 induction m with
 | zero=>intro last s l r h;simp[fieldsW] at h
 | succ m ih =>
  intro last s l r h
  simp only[fieldsW] at h
  cases hq:fieldTok t p s with
  | none=>rw[hq] at h;simp at h
  | some y =>
   obtain⟨f,v,rest⟩:=y
   rw[hq] at h
   obtain⟨h1,h2,h3,h4⟩:=fieldTok_say hp hq
   simp only at h
   by_cases hc:f.tag≤last∨v.print=standF x f
   ·rw[if_pos hc] at h;simp at h
   ·rw[if_neg hc] at h
    simp only[not_or,Nat.not_le] at hc
    obtain⟨hc1,hc2⟩:=hc
    split at h
    ·rename_i r'
     cases hi:fieldsW x t p m f.tag r' with
     | none=>rw[hi] at h;simp at h
     | some y =>
      obtain⟨l',q⟩:=y
      rw[hi] at h
      simp only[Option.map_some,Option.some.injEq,Prod.mk.injEq] at h
      obtain⟨rfl,rfl⟩:=h
      obtain⟨es,e1,rfl,e3,e4,e5⟩:=ih _ _ _ _ hi
      refine⟨(f,v)::es,by simp,rfl, ?_, ?_, ?_⟩
      ·simp only[List.map_cons]
       refine List.pairwise_cons.2 ⟨?_,e3⟩
       intro a ha
       rcases List.mem_cons.1 ha with rfl|ha
       ·exact hc1
       ·exact Nat.lt_trans hc1 ((List.pairwise_cons.1 e3).1 a ha)
      ·intro e he
       rcases List.mem_cons.1 he with rfl|he
       ·exact⟨h1,h2,h3,hc2⟩
       ·exact e4 e he
      ·rw[List.map_cons,commas_cons _ (by simpa using e1),h4,e5]
       have:=tagged_print (f,v)
       simp only[tagged] at this
       rw[this];simp
    ·simp only[Option.some.injEq,Prod.mk.injEq] at h
     obtain⟨rfl,rfl⟩:=h
     refine⟨[(f,v)],by simp,rfl, ?_, ?_, ?_⟩
     ·simpa using hc1
     ·intro e he;simp at he;subst he;exact⟨h1,h2,h3,hc2⟩
     ·have:=tagged_print (f,v)
      simp only[tagged] at this
      rw[h4];simp[commas,this]
    ·simp at h
theorem fieldsW_read {x:Sc} {t:Ty} {p:K→Reads} {Q:Fd→V→Prop}
  (hp:∀ f v r,Q f v→(∀ c,r.head? = some c→isDig c=false)→p f.kind (v.print++r)=some (v,r)) :
  ∀ (es:List (Fd × V)) (m last:Nat) (r:Bs),es≠[]→(last::es.map (fun e=>e.1.tag)).Pairwise (· < ·) →
   (∀ e,e∈es→t.field e.1.tag=some e.1∧e.1.tag≤200∧Q e.1 e.2∧e.2.print≠standF x e.1)→es.length≤m →
   fieldsW x t p m last (commas ((es.map tagged).map V.print)++125::r)=some (es.map tagged,r):=by
 intro es
 induction es with
 | nil=>intro m last r h;exact absurd rfl h
 | cons e es ih =>
  intro m last r _ hpw he hm
  cases m with
  | zero=>simp at hm
  | succ m =>
   obtain⟨f,v⟩:=e
   obtain⟨a1,a2,a3,a4⟩:=he (f,v) (by simp)
   simp only[List.map_cons] at hpw
   obtain⟨b1,b2⟩:=List.pairwise_cons.1 hpw
   have hlt:last<f.tag:=b1 f.tag (by simp)
   have hg:¬ (f.tag≤last∨v.print=standF x f):=by
    simp only[not_or,Nat.not_le];exact⟨hlt,a4⟩
   by_cases hl:es=[]
   ·subst hl
    simp only[List.map_cons,List.map_nil,commas,tagged_print,List.append_assoc,List.cons_append,fieldsW]
    rw[fieldTok_read a1 a2 (hp _ _ _ a3 (by simp[isDig]))]
    simp only[if_neg hg]
    rfl
   ·rw[List.map_cons,List.map_cons,commas_cons _ (by simpa using hl)]
    simp only[tagged_print,List.append_assoc,List.cons_append,fieldsW]
    rw[fieldTok_read a1 a2 (hp _ _ _ a3 (by simp[isDig]))]
    simp only[if_neg hg]
    rw[ih m f.tag r hl b2 (fun e hx=>he e (by simp[hx])) (by simp at hm;omega)]
    rfl
end Wf

namespace Wf
set_option linter.unusedVariables false
set_option linter.unusedSimpArgs false
def NoDig (r:Bs):Prop:=∀ c,r.head? = some c→isDig c=false
theorem dec_cons (n:Nat):∃ c t,dec n=c::t∧isDig c=true:=by
 have h:=dec_all n
 cases hd:dec n with
 | nil=>exact absurd hd (dec_ne n)
 | cons c t=>rw[hd] at h;simp at h;exact⟨c,t,rfl,h.1⟩
theorem isDig_ne {c:UInt8} (h:isDig c=true):c≠93∧c≠125∧c≠44∧c≠62:=by
 simp only[isDig,Bool.and_eq_true,decide_eq_true_eq] at h
 refine⟨?_, ?_, ?_, ?_⟩ <;> (intro e;subst e;revert h;decide)
theorem print_tag (tag:Nat) (v:V):(V.mk 61 [] tag [v]).print=dec tag++61::v.print:=tagged_print (⟨tag,[], .num,[]⟩,v)
theorem print_list (l:List V):(V.mk 91 [] 0 l).print=91::(commas (l.map V.print)++[93]):=by simp[V.print,form,V.prints_map]
theorem print_rec (l:List V):(V.mk 82 [] 0 l).print=123::(commas (l.map V.print)++[125]):=by simp[V.print,form,V.prints_map]
theorem print_none:(V.mk 63 [] 0 []).print=[45]:=by simp[V.print,form,V.prints_map]
theorem print_some (v:V):(V.mk 63 [] 0 [v]).print=43::v.print:=by simp[V.print,form,V.prints_map,commas]
theorem print_uni (tag:Nat) (v:V):(V.mk 85 [] tag [v]).print=60::(dec tag++61::(v.print++[62])):=by simp[V.print,form,V.prints_map,commas]
theorem print_enm (tag:Nat):(V.mk 69 [] tag []).print=35::dec tag:=by simp[V.print,form]
theorem print_txt (b:Bs):(V.mk 116 b 0 []).print=39::(b++[39]):=by simp[V.print,form]
theorem print_num (b:Bs):(V.mk 110 b 0 []).print=b:=by simp[V.print,form]
theorem print_flag (b:Bs):(V.mk 102 b 0 []).print=b:=by simp[V.print,form]
theorem print_head {x:Sc} {n:Nat} {k:K} {v:V} (h:Typed x n k v):∃ c t,v.print=c::t∧c≠93∧c≠125:=by
 cases n with
 | zero=>simp[Typed] at h
 | succ n =>
  cases k with
  | num =>
   obtain⟨m,_,rfl⟩:=h
   obtain⟨c,t,hd,hc⟩:=dec_cons m
   exact⟨c,t,by rw[print_num,hd],(isDig_ne hc).1,(isDig_ne hc).2.1⟩
  | txt=>obtain⟨b,_,_,rfl⟩:=h;exact⟨_,_,print_txt b,by decide,by decide⟩
  | flag =>
   rcases h with rfl|rfl
   ·exact⟨_,_,print_flag _,by decide,by decide⟩
   ·exact⟨_,_,print_flag _,by decide,by decide⟩
  | list k=>obtain⟨l,_,_,rfl⟩:=h;exact⟨_,_,print_list l,by decide,by decide⟩
  | opt k =>
   rcases h with rfl|⟨u,_,rfl⟩
   ·exact⟨_,_,print_none,by decide,by decide⟩
   ·exact⟨_,_,print_some u,by decide,by decide⟩
  | ref nm =>
   obtain⟨t,_,h⟩:=h
   rcases h with⟨_,f,_,_,rfl⟩|⟨_,_,f,u,_,_,_,rfl⟩|⟨_,_,l,_,_,rfl⟩
   ·exact⟨_,_,print_enm _,by decide,by decide⟩
   ·exact⟨_,_,print_uni _ _,by decide,by decide⟩
   ·exact⟨_,_,print_rec _,by decide,by decide⟩
theorem commas_len {l:List Bs} (h:∀ a,a∈l→a≠[]):l.length≤(commas l).length:=by
 induction l with
 | nil=>simp
 | cons a l ih =>
  have ha:=List.length_pos_iff.2 (h a (by simp))
  have ih':=ih (fun b hb=>h b (by simp[hb]))
  by_cases hl:l=[]
  ·subst hl;simp[commas];omega
  ·rw[commas_cons _ hl];simp;omega
theorem commas_head {a:Bs} {l:List Bs} {c:UInt8} {t:Bs} (h:a=c::t):∃ u,commas (a::l)=c::u:=by
 by_cases hl:l=[]
 ·subst hl;exact⟨t,by simp[commas,h]⟩
 ·exact⟨t++44::commas l,by rw[commas_cons _ hl,h];rfl⟩
theorem isTxt_39:isTxt 39=false:=by decide
theorem closeU_some {g:Nat} {u v:V} {s r:Bs} (h:closeU g u s=some (v,r)):∃ q,s=62::q∧v=.mk 85 [] g [u]∧r=q:=by
 unfold closeU at h
 split at h
 ·rename_i q
  simp only[Option.some.injEq,Prod.mk.injEq] at h
  exact⟨q,rfl,h.1.symm,h.2.symm⟩
 ·simp at h
theorem parseTy_say {x:Sc} {n:Nat} {t:Ty} {s r:Bs} {v:V} {nm:Bs} (ht:x.find nm=some t)
  (ih:∀ k s v r,parse x n k s=some (v,r)→Typed x n k v∧s=v.print++r)
  (h:parseTy x (fun k' s'=>parse x n k' s') t s=some (v,r)):Typed x (n+1) (.ref nm) v∧s=v.print++r:=by
 have hp:∀ (f:Fd) (s:Bs) (v:V) (r:Bs),(fun k' s'=>parse x n k' s') f.kind s=some (v,r)→Typed x n f.kind v∧s=v.print++r:=fun f s v r hh=>ih _ _ _ _ hh
 unfold parseTy at h
 by_cases h1:t.sort=69
 ·rw[if_pos h1] at h
  cases s with
  | nil=>simp at h
  | cons c q =>
   by_cases hc:c=35
   ·subst hc
    simp only at h
    cases hn:numTok 200 q with
    | none=>rw[hn] at h;simp at h
    | some y =>
     obtain⟨tag,rest⟩:=y
     rw[hn] at h
     simp only at h
     split at h
     ·rename_i hs
      simp only[Option.some.injEq,Prod.mk.injEq] at h
      obtain⟨rfl,rfl⟩:=h
      obtain⟨f,hf⟩:=Option.isSome_iff_exists.1 hs
      have e:=field_tag hf
      subst e
      obtain⟨g1,g2,_,_⟩:=numTok_some hn
      exact⟨⟨t,ht, .inl ⟨h1,f,hf,g2,rfl⟩⟩,by rw[print_enm,g1];rfl⟩
     ·simp at h
   ·split at h
    ·rename_i heq;simp only[List.cons.injEq] at heq;exact absurd heq.1 hc
    ·simp at h
 ·rw[if_neg h1] at h
  by_cases h2:t.sort=85
  ·rw[if_pos h2] at h
   cases s with
   | nil=>simp at h
   | cons c q =>
    by_cases hc:c=60
    ·subst hc
     simp only at h
     cases hf:fieldTok t (fun k' s'=>parse x n k' s') q with
     | none=>rw[hf] at h;simp at h
     | some y =>
      obtain⟨f,u,rest⟩:=y
      rw[hf] at h
      obtain⟨a1,a2,a3,a4⟩:=fieldTok_say hp hf
      obtain⟨q',hq,rfl,rfl⟩:=closeU_some h
      subst hq
      exact⟨⟨t,ht, .inr (.inl ⟨h1,h2,f,u,a1,a2,a3,rfl⟩)⟩,by rw[print_uni,a4];simp⟩
    ·split at h
     ·rename_i heq;simp only[List.cons.injEq] at heq;exact absurd heq.1 hc
     ·simp at h
  ·rw[if_neg h2] at h
   cases s with
   | nil=>simp at h
   | cons c q =>
    by_cases hc:c=123
    ·subst hc
     simp only at h
     have fin:∀ y:List V × Bs,fieldsW x t (fun k' s'=>parse x n k' s') q.length 0 q=some y→v=.mk 82 [] 0 y.1→r=y.2→Typed x (n+1) (.ref nm) v∧123::q=v.print++r:=by
      rintro⟨l,r'⟩ hy rfl rfl
      obtain⟨es,_,rfl,b3,b4,b5⟩:=fieldsW_say hp _ _ _ _ _ hy
      obtain⟨b6,b7⟩:=List.pairwise_cons.1 b3
      refine⟨⟨t,ht, .inr (.inr ⟨h1,h2,es,b7, ?_,rfl⟩)⟩,by rw[print_rec,b5];simp⟩
      intro e he
      obtain⟨c1,c2,c3,c4⟩:=b4 e he
      exact⟨b6 _ (List.mem_map.2 ⟨e,he,rfl⟩),c1,c2,c3,c4⟩
     cases q with
     | nil=>simp[fieldsW] at h
     | cons d q' =>
      by_cases hd:d=125
      ·subst hd
       simp only[Option.some.injEq,Prod.mk.injEq] at h
       obtain⟨rfl,rfl⟩:=h
       exact⟨⟨t,ht, .inr (.inr ⟨h1,h2,[],by simp,by simp,rfl⟩)⟩,by rw[print_rec];simp[commas]⟩
      ·split at h
       ·rename_i heq;simp only[List.cons.injEq] at heq;exact absurd heq.1 hd
       ·cases hy:fieldsW x t (fun k' s'=>parse x n k' s') (d::q').length 0 (d::q') with
        | none=>rw[hy] at h;simp at h
        | some y =>
         rw[hy] at h
         simp only[Option.map_some,Option.some.injEq,Prod.mk.injEq] at h
         exact fin y hy h.1.symm h.2.symm
    ·split at h
     ·rename_i heq;simp only[List.cons.injEq] at heq;exact absurd heq.1 hc
     ·simp at h
theorem parse_say {x:Sc}:∀ (n:Nat) (k:K) (s:Bs) (v:V) (r:Bs),parse x n k s=some (v,r)→Typed x n k v∧s=v.print++r:=by
 intro n
 induction n with
 | zero=>intro k s v r h;simp[parse] at h
 | succ n ih =>
  intro k s v r h
  cases k with
  | num =>
   simp only[parse] at h
   cases hn:numTok 999999 s with
   | none=>rw[hn] at h;simp at h
   | some y =>
    rw[hn] at h
    simp only[Option.map_some,Option.some.injEq,Prod.mk.injEq] at h
    obtain⟨rfl,rfl⟩:=h
    obtain⟨g1,g2,_,_⟩:=numTok_some (n:=y.1) (r:=y.2) hn
    exact⟨⟨y.1,g2,rfl⟩,by rw[print_num];exact g1⟩
  | txt =>
   simp only[parse] at h
   split at h
   ·rename_i q
    split at h
    ·rename_i q' hq
     split at h
     ·rename_i hl
      simp only[Option.some.injEq,Prod.mk.injEq] at h
      obtain⟨rfl,rfl⟩:=h
      refine⟨⟨_, ?_,hl,rfl⟩, ?_⟩
      ·exact List.all_takeWhile
      ·rw[print_txt]
       have:=List.takeWhile_append_dropWhile (p:=isTxt) (l:=q)
       rw[hq] at this
       simp only[List.cons_append,List.append_assoc,List.nil_append,this]
     ·simp at h
    ·simp at h
   ·simp at h
  | flag =>
   simp only[parse] at h
   split at h
   ·simp only[Option.some.injEq,Prod.mk.injEq] at h
    obtain⟨rfl,rfl⟩:=h
    exact⟨.inl rfl,by rw[print_flag];rfl⟩
   ·simp only[Option.some.injEq,Prod.mk.injEq] at h
    obtain⟨rfl,rfl⟩:=h
    exact⟨.inr rfl,by rw[print_flag];rfl⟩
   ·simp at h
  | list k =>
   simp only[parse] at h
   split at h
   ·rename_i q
    split at h
    ·simp only[Option.some.injEq,Prod.mk.injEq] at h
     obtain⟨rfl,rfl⟩:=h
     exact⟨⟨[],by simp,by simp,rfl⟩,by rw[print_list];simp[commas]⟩
    ·cases hi:itemsW (parse x n k) q.length q with
     | none=>rw[hi] at h;simp at h
     | some y =>
      obtain⟨l,q'⟩:=y
      rw[hi] at h
      simp only at h
      split at h
      ·rename_i hl
       simp only[Option.some.injEq,Prod.mk.injEq] at h
       obtain⟨rfl,rfl⟩:=h
       obtain⟨_,b2,b3⟩:=itemsW_say (Q:=Typed x n k) (fun s v r hh=>ih _ _ _ _ hh) _ _ _ _ hi
       exact⟨⟨l,hl,b2,rfl⟩,by rw[print_list,b3];simp⟩
      ·simp at h
   ·simp at h
  | opt k =>
   simp only[parse] at h
   split at h
   ·simp only[Option.some.injEq,Prod.mk.injEq] at h
    obtain⟨rfl,rfl⟩:=h
    exact⟨.inl rfl,by rw[print_none];rfl⟩
   ·rename_i q
    cases hq:parse x n k q with
    | none=>rw[hq] at h;simp at h
    | some y =>
     obtain⟨u,q'⟩:=y
     rw[hq] at h
     simp only[Option.map_some,Option.some.injEq,Prod.mk.injEq] at h
     obtain⟨rfl,rfl⟩:=h
     obtain⟨b1,b2⟩:=ih _ _ _ _ hq
     exact⟨.inr ⟨u,b1,rfl⟩,by rw[print_some,b2];rfl⟩
   ·simp at h
  | ref nm =>
   simp only[parse] at h
   cases ht:x.find nm with
   | none=>rw[ht] at h;simp at h
   | some t =>
    rw[ht] at h
    exact parseTy_say ht ih h
theorem typed_parse {x:Sc}:∀ (n:Nat) (k:K) (v:V) (r:Bs),Typed x n k v→NoDig r→parse x n k (v.print++r)=some (v,r):=by
 intro n
 induction n with
 | zero=>intro k v r h;simp[Typed] at h
 | succ n ih =>
  intro k v r h hr
  cases k with
  | num =>
   obtain⟨m,hm,rfl⟩:=h
   simp only[parse,print_num]
   rw[numTok_dec hm hm hr];rfl
  | txt =>
   obtain⟨b,hb,hl,rfl⟩:=h
   have ha:∀ a,a∈b→isTxt a=true:=List.all_eq_true.1 hb
   simp only[parse,print_txt,List.cons_append,List.append_assoc,List.nil_append]
   have e1:(b++39::r).takeWhile isTxt=b:=by
    rw[List.takeWhile_append_of_pos ha,List.takeWhile_cons,isTxt_39];simp
   have e2:(b++39::r).dropWhile isTxt=39::r:=by
    rw[List.dropWhile_append_of_pos ha,List.dropWhile_cons,isTxt_39];simp
   rw[e1,e2]
   simp[hl]
  | flag =>
   rcases h with rfl|rfl
   ·simp[parse,print_flag]
   ·simp[parse,print_flag]
  | list k =>
   obtain⟨l,hl,hu,rfl⟩:=h
   rw[print_list]
   by_cases hn:l=[]
   ·subst hn;simp[parse,commas]
   ·obtain⟨u,l',rfl⟩:=List.exists_cons_of_ne_nil hn
    obtain⟨c,t,hc,hc1,_⟩:=print_head (hu u (by simp))
    have hlen:(u::l').length≤(commas ((u::l').map V.print)++93::r).length:=by
     have:=commas_len (l:=(u::l').map V.print) (by
      intro a ha
      obtain⟨w,hw,rfl⟩:=List.mem_map.1 ha
      obtain⟨c,t,hc,_⟩:=print_head (hu w hw)
      rw[hc];simp)
     simp only[List.length_map,List.length_append,List.length_cons] at this ⊢
     omega
    have hrd:=itemsW_read (p:=parse x n k) (Q:=Typed x n k) (fun v r hv hr=>ih k v r hv hr) (u::l') (commas ((u::l').map V.print)++93::r).length r (by simp) hu hlen
    obtain⟨w,hw⟩:=commas_head (l:=l'.map V.print) hc
    simp only[List.cons_append,List.append_assoc,List.nil_append]
    simp only[List.map_cons] at hrd ⊢
    rw[hw] at hrd ⊢
    simp only[parse]
    split
    ·rename_i heq;simp only[List.cons_append,List.cons.injEq] at heq;exact absurd heq.1 hc1
    ·rw[hrd];simp only[hl,if_true]
  | opt k =>
   rcases h with rfl|⟨u,hu,rfl⟩
   ·simp[parse,print_none]
   ·rw[print_some]
    simp only[parse,List.cons_append]
    rw[ih k u r hu hr];rfl
  | ref nm =>
   obtain⟨t,ht,h⟩:=h
   simp only[parse,ht]
   rcases h with⟨h1,f,hf,h2,rfl⟩|⟨h1,h2,f,u,hf,h3,hu,rfl⟩|⟨h1,h2,l,hpw,hl,rfl⟩
   ·rw[print_enm]
    simp only[parseTy,if_pos h1,List.cons_append]
    rw[numTok_dec h2 (by omega) hr]
    simp[hf]
   ·rw[print_uni]
    simp only[parseTy,if_neg h1,if_pos h2,List.cons_append,List.append_assoc,List.nil_append]
    rw[fieldTok_read (p:=fun k' s'=>parse x n k' s') hf h3 (ih f.kind u (62::r) hu (by simp[NoDig,isDig]))]
    rfl
   ·rw[print_rec]
    simp only[parseTy,if_neg h1,if_neg h2,List.cons_append,List.append_assoc,List.nil_append]
    by_cases hn:l=[]
    ·subst hn;simp[commas]
    ·obtain⟨e,l',rfl⟩:=List.exists_cons_of_ne_nil hn
     have hlen:(e::l').length≤(commas (((e::l').map tagged).map V.print)++125::r).length:=by
      have:=commas_len (l:=((e::l').map tagged).map V.print) (by
       intro a ha
       obtain⟨w,hw,rfl⟩:=List.mem_map.1 ha
       obtain⟨g,hg,rfl⟩:=List.mem_map.1 hw
       rw[tagged_print];simp[dec_ne])
      simp only[List.length_map,List.length_append,List.length_cons] at this ⊢
      omega
     have hrd:=fieldsW_read (x:=x) (t:=t) (p:=fun k' s'=>parse x n k' s') (Q:=fun f v=>Typed x n f.kind v) (fun f v r hv hr=>ih f.kind v r hv hr)
      (e::l') (commas (((e::l').map tagged).map V.print)++125::r).length 0 r (by simp)
      (List.pairwise_cons.2 ⟨by
       intro a ha
       obtain⟨g,hg,rfl⟩:=List.mem_map.1 ha
       exact(hl g hg).1,hpw⟩) (fun e he=>(hl e he).2) hlen
     obtain⟨c,tt,hc,hcd⟩:=dec_cons e.1.tag
     have hp0:(tagged e).print=c::(tt++61::e.2.print):=by rw[tagged_print,hc];rfl
     obtain⟨w,hw⟩:=commas_head (l:=(l'.map tagged).map V.print) hp0
     have ee:(fun e:Fd × V=>V.mk 61 [] e.1.tag [e.2])=tagged:=rfl
     rw[ee]
     simp only[List.map_cons] at hrd ⊢
     rw[hw] at hrd ⊢
     simp only[List.cons_append] at hrd ⊢
     split
     ·rename_i heq;simp only[List.cons.injEq] at heq;exact absurd heq.1 (isDig_ne hcd).2.1
     ·rw[hrd];rfl
end Wf

namespace Wf
set_option linter.unusedVariables false
set_option linter.unusedSimpArgs false
theorem deep_tag (tag:Nat) (v:V):(V.mk 61 [] tag [v]).deep=v.deep:=by simp[Option.filter_some,V.deep,V.deeps]
theorem deep_ne {what:UInt8} (h:what≠61) (t:Bs) (g:Nat) (l:List V):(V.mk what t g l).deep=V.deeps l+1:=by simp[Option.filter_some,V.deep,h]
theorem itemsW_filter {p p':Reads} {d:Nat} (hp:∀ s,p s=(p' s).filter (fun y=>decide (y.1.deep≤d))) :
  ∀ (m:Nat) (s:Bs),itemsW p m s=(itemsW p' m s).filter (fun y=>decide (V.deeps y.1≤d)):=by
 intro m
 induction m with
 | zero=>intro s;rfl
 | succ m ih =>
  intro s
  simp only[itemsW]
  rw[hp s]
  cases hq:p' s with
  | none=>rfl
  | some y =>
   obtain⟨v,rest⟩:=y
   by_cases hd:v.deep≤d
   ·have e:(some (v,rest)).filter (fun y:V × Bs=>decide (y.1.deep≤d))=some (v,rest):=by simp only[Option.filter_some,hd,decide_true,decide_false,if_true,if_false];try simp
    rw[e]
    simp only
    split
    ·rename_i r
     rw[ih r]
     cases itemsW p' m r with
     | none=>rfl
     | some y =>
      by_cases hy:V.deeps y.1≤d
      ·simp[Option.filter_some,hy,V.deeps,hd,Nat.max_le]
      ·simp[Option.filter_some,hy,V.deeps,hd,Nat.max_le]
    ·simp[Option.filter_some,V.deeps,hd]
    ·rfl
   ·have e:(some (v,rest)).filter (fun y:V × Bs=>decide (y.1.deep≤d))=none:=by simp only[Option.filter_some,hd,decide_true,decide_false,if_true,if_false];try simp
    rw[e]
    simp only
    split
    ·rename_i r
     cases itemsW p' m r with
     | none=>rfl
     | some y=>simp[Option.filter_some,V.deeps,hd,Nat.max_le]
    ·simp[Option.filter_some,V.deeps,hd]
    ·rfl
theorem fieldTok_filter {t:Ty} {p p':K→Reads} {d:Nat} (hp:∀ k s,p k s=(p' k s).filter (fun y=>decide (y.1.deep≤d))) (s:Bs) :
  fieldTok t p s=(fieldTok t p' s).filter (fun y=>decide (y.2.1.deep≤d)):=by
 unfold fieldTok
 cases numTok 200 s with
 | none=>rfl
 | some y =>
  obtain⟨tag,rest⟩:=y
  simp only
  split
  ·rename_i r f _
   rw[hp]
   cases p' f.kind r with
   | none=>rfl
   | some z=>by_cases hz:z.1.deep≤d <;> simp[Option.filter_some,hz]
  ·rfl
theorem fieldsW_filter {x:Sc} {t:Ty} {p p':K→Reads} {d:Nat} (hp:∀ k s,p k s=(p' k s).filter (fun y=>decide (y.1.deep≤d))) :
  ∀ (m last:Nat) (s:Bs),fieldsW x t p m last s=(fieldsW x t p' m last s).filter (fun y=>decide (V.deeps y.1≤d)):=by
 intro m
 induction m with
 | zero=>intro last s;rfl
 | succ m ih =>
  intro last s
  simp only[fieldsW]
  rw[fieldTok_filter hp s]
  cases hq:fieldTok t p' s with
  | none=>rfl
  | some y =>
   obtain⟨f,v,rest⟩:=y
   by_cases hd:v.deep≤d
   ·have e:(some (f,v,rest)).filter (fun y:Fd × V × Bs=>decide (y.2.1.deep≤d))=some (f,v,rest):=by simp only[Option.filter_some,hd,decide_true,decide_false,if_true,if_false];try simp
    rw[e]
    simp only
    split
    ·rfl
    ·split
     ·rename_i r
      rw[ih f.tag r]
      cases fieldsW x t p' m f.tag r with
      | none=>rfl
      | some y =>
       by_cases hy:V.deeps y.1≤d
       ·simp[Option.filter_some,hy,V.deeps,hd,Nat.max_le,deep_tag]
       ·simp[Option.filter_some,hy,V.deeps,hd,Nat.max_le,deep_tag]
     ·simp[Option.filter_some,V.deeps,hd,deep_tag]
     ·rfl
   ·have e:(some (f,v,rest)).filter (fun y:Fd × V × Bs=>decide (y.2.1.deep≤d))=none:=by simp only[Option.filter_some,hd,decide_true,decide_false,if_true,if_false];try simp
    rw[e]
    simp only
    split
    ·rfl
    ·split
     ·rename_i r
      cases fieldsW x t p' m f.tag r with
      | none=>rfl
      | some y=>simp[Option.filter_some,V.deeps,hd,Nat.max_le,deep_tag]
     ·simp[Option.filter_some,V.deeps,hd,deep_tag]
     ·rfl
theorem parse_filter {x:Sc}:∀ (n m:Nat),n≤m→∀ (k:K) (s:Bs),parse x n k s=(parse x m k s).filter (fun y=>decide (y.1.deep≤n)):=by
 intro n
 induction n with
 | zero =>
  intro m _ k s
  cases hp:parse x m k s with
  | none=>simp[Option.filter_some,parse]
  | some y =>
   obtain⟨v,r⟩:=y
   have ht:=(parse_say _ _ _ _ _ hp).1
   have:v.deep≠0:=by
    cases m with
    | zero=>simp[Option.filter_some,Typed] at ht
    | succ m =>
     cases k with
     | num=>obtain⟨_,_,rfl⟩:=ht;simp[Option.filter_some,V.deep]
     | txt=>obtain⟨_,_,_,rfl⟩:=ht;simp[Option.filter_some,V.deep]
     | flag=>rcases ht with rfl|rfl <;> simp[Option.filter_some,V.deep]
     | list k=>obtain⟨_,_,_,rfl⟩:=ht;simp[Option.filter_some,V.deep]
     | opt k=>rcases ht with rfl|⟨_,_,rfl⟩ <;> simp[Option.filter_some,V.deep]
     | ref nm =>
      obtain⟨t,_,h⟩:=ht
      rcases h with⟨_,f,_,_,rfl⟩|⟨_,_,f,u,_,_,_,rfl⟩|⟨_,_,l,_,_,rfl⟩ <;> simp[Option.filter_some,V.deep]
   simp[Option.filter_some,parse,this]
 | succ n ih =>
  intro m hm k s
  cases m with
  | zero=>omega
  | succ m =>
   have ih':=ih m (by omega)
   cases k with
   | num =>
    simp only[parse]
    cases numTok 999999 s with
    | none=>rfl
    | some y=>simp[Option.filter_some,V.deep,V.deeps]
   | txt =>
    simp only[parse]
    repeat' split
    all_goals simp[Option.filter_some,V.deep,V.deeps]
   | flag =>
    simp only[parse]
    repeat' split
    all_goals simp[Option.filter_some,V.deep,V.deeps]
   | list k =>
    simp only[parse]
    split
    ·rename_i q
     split
     ·simp[Option.filter_some,V.deep,V.deeps]
     ·rw[itemsW_filter (ih' k) q.length q]
      cases itemsW (parse x m k) q.length q with
      | none=>rfl
      | some y =>
       obtain⟨l,r⟩:=y
       by_cases hl:V.deeps l≤n
       ·by_cases h20:l.length≤20
        ·simp[Option.filter_some,hl,h20,V.deep]
        ·simp[Option.filter_some,hl,h20]
       ·by_cases h20:l.length≤20
        ·simp[Option.filter_some,hl,h20,V.deep]
        ·simp[Option.filter_some,hl,h20]
    ·rfl
   | opt k =>
    simp only[parse]
    split
    ·simp[Option.filter_some,V.deep,V.deeps]
    ·rename_i q
     rw[ih' k q]
     cases parse x m k q with
     | none=>rfl
     | some y=>by_cases hy:y.1.deep≤n <;> simp[Option.filter_some,hy,V.deep,V.deeps]
    ·rfl
   | ref nm =>
    simp only[parse]
    cases x.find nm with
    | none=>rfl
    | some t =>
     simp only[parseTy]
     split
     ·split
      ·split
       ·rfl
       ·split
        ·simp[Option.filter_some,V.deep,V.deeps]
        ·rfl
      ·rfl
     ·split
      ·split
       ·rename_i r
        rw[fieldTok_filter (p:=fun k' s'=>parse x n k' s') (p':=fun k' s'=>parse x m k' s') (d:=n) (fun k s=>ih' k s) r]
        cases fieldTok t (fun k' s'=>parse x m k' s') r with
        | none=>rfl
        | some y =>
         obtain⟨f,v,rest⟩:=y
         rw[Option.filter_some]
         by_cases hv:v.deep≤n
         ·simp only[hv,decide_true,if_true]
          unfold closeU
          split
          ·simp[Option.filter_some,V.deep,V.deeps,hv]
          ·rfl
         ·simp only[hv,decide_false,if_false,Bool.false_eq_true]
          unfold closeU
          split
          ·simp[Option.filter_some,V.deep,V.deeps,hv]
          ·rfl
       ·rfl
      ·split
       ·rename_i q
        split
        ·simp[Option.filter_some,V.deep,V.deeps]
        ·rw[fieldsW_filter (p:=fun k' s'=>parse x n k' s') (p':=fun k' s'=>parse x m k' s') (d:=n) (fun k s=>ih' k s) q.length 0 q]
         cases fieldsW x t (fun k' s'=>parse x m k' s') q.length 0 q with
         | none=>rfl
         | some y=>by_cases hy:V.deeps y.1≤n <;> simp[Option.filter_some,hy,V.deep]
       ·rfl
end Wf

namespace Wf
set_option linter.unusedVariables false
set_option linter.unusedSimpArgs false
def formB (what:UInt8) (text:Bs) (tag:Nat) (parts:List Bs):Bs :=
 if what=110 then putN (val text)
 else if what=116 then putN text.length++text
 else if what=102 then (if text=[121,101,115] then [1] else [0])
 else if what=91 then putN parts.length++parts.flatten
 else if what=63 then (if parts=[] then [0] else 1::parts.flatten)
 else if what=69 then putN tag
 else if what=85∨what=61 then putN tag++(putN parts.flatten.length++parts.flatten)
 else parts.flatten++[0]
mutual
def V.bytes:V→Bs
 | .mk what text tag kids=>formB what text tag (V.bytess kids)
def V.bytess:List V→List Bs
 | []=>[]
 | v::l=>v.bytes::V.bytess l
end
def whole (p:Reads) (s:Bs):Option V :=
 match p s with
 | none=>none
 | some (v,r)=>if r=[] then some v else none
end Wf

namespace Wf
set_option linter.unusedVariables false
set_option linter.unusedSimpArgs false
theorem commas_length (l:List Bs) (h:l≠[]):(commas l).length+1=l.flatten.length+l.length:=by
 induction l with
 | nil=>exact absurd rfl h
 | cons a l ih =>
  by_cases hl:l=[]
  ·subst hl;simp[commas]
  ·rw[commas_cons _ hl]
   have:=ih hl
   simp only[List.length_append,List.length_cons,List.flatten_cons];omega
theorem commas_length_le (l:List Bs):l.flatten.length≤(commas l).length:=by
 by_cases hl:l=[]
 ·subst hl;simp
 ·have:=commas_length l hl
  have:=List.length_pos_iff.2 hl
  omega
theorem commas_mem {l:List Bs} {a:Bs} (h:a∈l):a.length≤(commas l).length:=by
 have h1:=commas_length_le l
 have:a.length≤l.flatten.length:=by
  clear h1
  induction l with
  | nil=>simp at h
  | cons b l ih =>
   rcases List.mem_cons.1 h with rfl|h
   ·simp
   ·have:=ih h
    simp only[List.flatten_cons,List.length_append];omega
 omega
end Wf

namespace Wf
set_option linter.unusedVariables false
set_option linter.unusedSimpArgs false
theorem typed_mono {x:Sc}:∀ (n:Nat) (k:K) (v:V),Typed x n k v→∀ m,n≤m→Typed x m k v:=by
 intro n
 induction n with
 | zero=>intro k v h;simp[Typed] at h
 | succ n ih =>
  intro k v h m hm
  cases m with
  | zero=>omega
  | succ m =>
   have hm':n≤m:=by omega
   cases k with
   | num=>exact h
   | txt=>exact h
   | flag=>exact h
   | list k =>
    obtain⟨l,hl,hu,rfl⟩:=h
    exact⟨l,hl,fun u hx=>ih k u (hu u hx) m hm',rfl⟩
   | opt k =>
    rcases h with rfl|⟨u,hu,rfl⟩
    ·exact .inl rfl
    ·exact .inr ⟨u,ih k u hu m hm',rfl⟩
   | ref nm =>
    obtain⟨t,ht,h⟩:=h
    refine⟨t,ht, ?_⟩
    rcases h with h|⟨h1,h2,f,u,hf,h3,hu,rfl⟩|⟨h1,h2,l,hpw,hl,rfl⟩
    ·exact .inl h
    ·exact .inr (.inl ⟨h1,h2,f,u,hf,h3,ih f.kind u hu m hm',rfl⟩)
    ·refine .inr (.inr ⟨h1,h2,l,hpw,fun e he => ?_,rfl⟩)
     obtain⟨a,b,c,d,e5⟩:=hl e he
     exact⟨a,b,c,ih _ _ d m hm',e5⟩
theorem typed_deep {x:Sc}:∀ (n:Nat) (k:K) (v:V),Typed x n k v→1≤v.deep∧v.deep≤n:=by
 intro n
 induction n with
 | zero=>intro k v h;simp[Typed] at h
 | succ n ih =>
  intro k v h
  cases k with
  | num=>obtain⟨_,_,rfl⟩:=h;simp[V.deep,V.deeps]
  | txt=>obtain⟨_,_,_,rfl⟩:=h;simp[V.deep,V.deeps]
  | flag=>rcases h with rfl|rfl <;> simp[V.deep,V.deeps]
  | list k =>
   obtain⟨l,_,hu,rfl⟩:=h
   have:V.deeps l≤n:=V.deeps_le.2 fun u hx=>(ih k u (hu u hx)).2
   simp[V.deep];omega
  | opt k =>
   rcases h with rfl|⟨u,hu,rfl⟩
   ·simp[V.deep,V.deeps]
   ·have:=(ih k u hu).2
    simp[V.deep,V.deeps];omega
  | ref nm =>
   obtain⟨t,ht,h⟩:=h
   rcases h with⟨_,f,_,_,rfl⟩|⟨h1,h2,f,u,hf,h3,hu,rfl⟩|⟨h1,h2,l,hpw,hl,rfl⟩
   ·simp[V.deep,V.deeps]
   ·have:=(ih _ _ hu).2
    simp[V.deep,V.deeps];omega
   ·have:V.deeps (l.map fun e=>V.mk 61 [] e.1.tag [e.2])≤n:=V.deeps_le.2 fun u hx=>by
     obtain⟨e,he,rfl⟩:=List.mem_map.1 hx
     rw[deep_tag]
     exact(ih _ _ (hl e he).2.2.2.1).2
    simp[V.deep];omega
theorem typed_of_deep {x:Sc}:∀ (m:Nat) (k:K) (v:V),Typed x m k v→∀ n,v.deep≤n→Typed x n k v:=by
 intro m
 induction m with
 | zero=>intro k v h;simp[Typed] at h
 | succ m ih =>
  intro k v h n hn
  cases n with
  | zero=>have:=(typed_deep _ _ _ h).1;omega
  | succ n =>
   cases k with
   | num=>exact h
   | txt=>exact h
   | flag=>exact h
   | list k =>
    obtain⟨l,hl,hu,rfl⟩:=h
    rw[deep_ne (by decide)] at hn
    exact⟨l,hl,fun u hx=>ih k u (hu u hx) n (V.deeps_le.1 (by omega) u hx),rfl⟩
   | opt k =>
    rcases h with rfl|⟨u,hu,rfl⟩
    ·exact .inl rfl
    ·rw[deep_ne (by decide)] at hn
     exact .inr ⟨u,ih k u hu n (V.deeps_le.1 (show V.deeps [u]≤n by omega) u (by simp)),rfl⟩
   | ref nm =>
    obtain⟨t,ht,h⟩:=h
    refine⟨t,ht, ?_⟩
    rcases h with h|⟨h1,h2,f,u,hf,h3,hu,rfl⟩|⟨h1,h2,l,hpw,hl,rfl⟩
    ·exact .inl h
    ·rw[deep_ne (by decide)] at hn
     exact .inr (.inl ⟨h1,h2,f,u,hf,h3,ih f.kind u hu n (V.deeps_le.1 (show V.deeps [u]≤n by omega) u (by simp)),rfl⟩)
    ·rw[deep_ne (by decide)] at hn
     refine .inr (.inr ⟨h1,h2,l,hpw,fun e he => ?_,rfl⟩)
     obtain⟨a,b,c,d,e5⟩:=hl e he
     have:=V.deeps_le.1 (show V.deeps (l.map fun e=>V.mk 61 [] e.1.tag [e.2])≤n by omega) _ (List.mem_map.2 ⟨e,he,rfl⟩)
     rw[deep_tag] at this
     exact⟨a,b,c,ih _ _ d n this,e5⟩
end Wf

namespace Wf
set_option linter.unusedVariables false
set_option linter.unusedSimpArgs false
def setEs (x:Sc) (es:List (Fd × V)) (f:Fd) (y:V):List (Fd × V) :=
 es.filter (fun e=>decide (e.1.tag<f.tag))++(if y.print=standF x f then [] else [(f,y)])++es.filter (fun e=>decide (f.tag<e.1.tag))
theorem setEs_mem {x:Sc} {es:List (Fd × V)} {f:Fd} {y:V} {e:Fd × V}:e∈setEs x es f y↔(e∈es∧e.1.tag≠f.tag)∨(y.print≠standF x f∧e=(f,y)):=by
 have hm:e∈(if y.print=standF x f then [] else [(f,y)])↔(y.print≠standF x f∧e=(f,y)):=by
  split
  ·rename_i hy;simp[hy]
  ·rename_i hy;simp[hy]
 unfold setEs
 rw[List.mem_append,List.mem_append,hm]
 simp only[List.mem_filter,decide_eq_true_eq]
 constructor
 ·rintro((⟨h1,h2⟩|h1)|⟨h1,h2⟩)
  ·exact .inl ⟨h1,by omega⟩
  ·exact .inr h1
  ·exact .inl ⟨h1,by omega⟩
 ·rintro(⟨h1,h2⟩|h1)
  ·rcases Nat.lt_or_gt_of_ne h2 with h|h
   ·exact .inl (.inl ⟨h1,h⟩)
   ·exact .inr ⟨h1,h⟩
  ·exact .inl (.inr h1)
theorem setEs_sorted {x:Sc} {es:List (Fd × V)} {f:Fd} {y:V} (h:(es.map (fun e=>e.1.tag)).Pairwise (· < ·)):((setEs x es f y).map (fun e=>e.1.tag)).Pairwise (· < ·):=by
 have hsub:∀ p:Fd × V→Bool,((es.filter p).map (fun e=>e.1.tag)).Pairwise (· < ·):=fun p=>h.sublist (List.Sublist.map _ (List.filter_sublist (l:=es)))
 unfold setEs
 rw[List.map_append,List.map_append]
 refine List.pairwise_append.2 ⟨List.pairwise_append.2 ⟨hsub _, ?_, ?_⟩,hsub _, ?_⟩
 ·split <;> simp
 ·intro a ha b hb
  obtain⟨e,he,rfl⟩:=List.mem_map.1 ha
  simp only[List.mem_filter,decide_eq_true_eq] at he
  split at hb
  ·simp at hb
  ·simp at hb;subst hb;exact he.2
 ·intro a ha b hb
  obtain⟨e,he,rfl⟩:=List.mem_map.1 hb
  simp only[List.mem_filter,decide_eq_true_eq] at he
  rcases List.mem_append.1 ha with ha|ha
  ·obtain⟨g,hg,rfl⟩:=List.mem_map.1 ha
   simp only[List.mem_filter,decide_eq_true_eq] at hg
   omega
  ·split at ha
   ·simp at ha
   ·simp at ha;subst ha;exact he.2
end Wf

namespace Wf
set_option linter.unusedVariables false
set_option linter.unusedSimpArgs false
def nxt (x:Sc) (t:Ty):Option Ty :=
 if t.sort≠85 then none else
 match t.fields with
 | []=>none
 | f::_ =>
  match f.kind with
  | .ref nm=>x.find nm
  | _=>none
theorem endsIn_succ (x:Sc) (n:Nat) (t:Ty):endsIn x (n+1) t=(match nxt x t with|none=>true|some u=>endsIn x n u):=by
 simp only[endsIn,nxt]
 split
 ·rfl
 ·cases t.fields with
  | nil=>rfl
  | cons f fs =>
   simp only
   cases f.kind with
   | ref nm=>simp only;cases x.find nm <;> rfl
   | num=>rfl
   | txt=>rfl
   | flag=>rfl
   | list k=>rfl
   | opt k=>rfl
theorem endsIn_mono {x:Sc}:∀ (n:Nat) (t:Ty),endsIn x n t=true→∀ m,n≤m→endsIn x m t=true:=by
 intro n
 induction n with
 | zero=>intro t h;simp[endsIn] at h
 | succ n ih =>
  intro t h m hm
  cases m with
  | zero=>omega
  | succ m =>
   rw[endsIn_succ] at h ⊢
   cases hn:nxt x t with
   | none=>rfl
   | some u=>rw[hn] at h;exact ih u h m (by omega)
def walked (x:Sc):Nat→Ty→List Ty
 | 0,_=>[]
 | n+1,t=>t::(match nxt x t with|none=>[]|some u=>walked x n u)
theorem walked_len {x:Sc}:∀ (n:Nat) (t:Ty),endsIn x n t=true→endsIn x (walked x n t).length t=true∧(∀ m,endsIn x m t=true→(walked x n t).length≤m):=by
 intro n
 induction n with
 | zero=>intro t h;simp[endsIn] at h
 | succ n ih =>
  intro t h
  rw[endsIn_succ] at h
  simp only[walked]
  cases hn:nxt x t with
  | none =>
   refine⟨by simp[endsIn_succ,hn],fun m hm => ?_⟩
   cases m with
   | zero=>simp[endsIn] at hm
   | succ m=>simp
  | some u =>
   rw[hn] at h
   obtain⟨h1,h2⟩:=ih u h
   simp only[List.length_cons]
   refine⟨by rw[endsIn_succ,hn];exact h1,fun m hm => ?_⟩
   cases m with
   | zero=>simp[endsIn] at hm
   | succ m =>
    rw[endsIn_succ,hn] at hm
    have:=h2 m hm
    omega
theorem walked_mem {x:Sc}:∀ (n:Nat) (t:Ty),endsIn x n t=true→∀ v,v∈walked x n t→endsIn x (walked x n t).length v=true∧(v≠t→endsIn x ((walked x n t).length-1) v=true):=by
 intro n
 induction n with
 | zero=>intro t h;simp[endsIn] at h
 | succ n ih =>
  intro t h v hv
  have hl:=(walked_len (n+1) t h).1
  rw[endsIn_succ] at h
  simp only[walked] at hv hl ⊢
  cases hn:nxt x t with
  | none =>
   rw[hn] at hv
   simp only[List.mem_singleton] at hv
   subst hv
   rw[hn] at hl
   exact⟨hl,fun e=>absurd rfl e⟩
  | some u =>
   rw[hn] at hv h hl
   simp only at h
   rcases List.mem_cons.1 hv with rfl|hv
   ·exact⟨hl,fun e=>absurd rfl e⟩
   ·obtain⟨a1,_⟩:=ih u h v hv
    simp only[List.length_cons,Nat.add_sub_cancel]
    exact⟨endsIn_mono _ _ a1 _ (by omega),fun _=>a1⟩
theorem walked_nodup {x:Sc}:∀ (n:Nat) (t:Ty),endsIn x n t=true→(walked x n t).Nodup:=by
 intro n
 induction n with
 | zero=>intro t h;simp[endsIn] at h
 | succ n ih =>
  intro t h
  have h0:=h
  rw[endsIn_succ] at h
  simp only[walked]
  cases hn:nxt x t with
  | none=>simp
  | some u =>
   rw[hn] at h
   simp only at h
   refine List.nodup_cons.2 ⟨fun hm => ?_,ih u h⟩
   obtain⟨a1,_⟩:=walked_mem n u h t hm
   have:=(walked_len (n+1) t h0).2 _ a1
   simp only[walked,hn,List.length_cons] at this
   omega
theorem nxt_mem {x:Sc} {t u:Ty} (h:nxt x t=some u):u∈x:=by
 unfold nxt at h
 split at h
 ·simp at h
 ·split at h
  ·simp at h
  ·split at h
   ·exact(find_mem h).1
   ·simp at h
theorem walked_sub {x:Sc}:∀ (n:Nat) (t:Ty),t∈x→∀ v,v∈walked x n t→v∈x:=by
 intro n
 induction n with
 | zero=>intro t _ v h;simp[walked] at h
 | succ n ih =>
  intro t ht v hv
  simp only[walked] at hv
  rcases List.mem_cons.1 hv with rfl|hv
  ·exact ht
  ·cases hn:nxt x t with
   | none=>rw[hn] at hv;simp at hv
   | some u=>rw[hn] at hv;exact ih u (nxt_mem hn) v hv
theorem nodup_sub_len {α:Type} [DecidableEq α]:∀ (l x:List α),l.Nodup→(∀ a,a∈l→a∈x)→l.length≤x.length:=by
 intro l
 induction l with
 | nil=>intro x _ _;simp
 | cons a l ih =>
  intro x hn hs
  obtain⟨h1,h2⟩:=List.nodup_cons.1 hn
  have ha:=hs a (by simp)
  have:=ih (x.erase a) h2 (fun b hb=>(List.mem_erase_of_ne (fun e=>h1 (by rw[← e];exact hb))).2 (hs b (by simp[hb])))
  rw[List.length_erase_of_mem ha] at this
  have:=List.length_pos_of_mem ha
  simp only[List.length_cons];omega
theorem endsIn_enough {x:Sc} {t:Ty} (ht:t∈x) {n:Nat} (h:endsIn x n t=true):endsIn x x.length t=true:=by
 have h1:=(walked_len n t h).1
 have h2:=nodup_sub_len _ x (walked_nodup n t h) (walked_sub n t ht)
 exact endsIn_mono _ _ h1 _ h2
theorem stands_nxt {x:Sc} (hx:∀ t,t∈x→TyOk t):∀ (n m:Nat) (t:Ty) (nm:Bs),x.find nm=some t→endsIn x n t=true→n≤m→stands x m (.ref nm)=stands x n (.ref nm):=by
 intro n
 induction n with
 | zero=>intro m t nm _ h;simp[endsIn] at h
 | succ n ih =>
  intro m t nm ht h hm
  cases m with
  | zero=>omega
  | succ m =>
   simp only[stands,ht]
   split
   ·rfl
   ·rename_i h82
    split
    ·rfl
    ·rename_i f fs hf
     split
     ·rfl
     ·rename_i h69
      by_cases h85:t.sort=85
      ·rw[endsIn_succ] at h
       have hn:nxt x t=(match f.kind with | .ref nm=>x.find nm|_=>none):=by simp[nxt,h85,hf]
       rw[hn] at h
       cases hk:f.kind with
       | ref nm2 =>
        rw[hk] at h
        simp only at h
        cases hu:x.find nm2 with
        | none=>cases m <;> cases n <;> simp[stands,hu]
        | some u =>
         rw[hu] at h
         simp only at h
         rw[ih m u nm2 hu h (by omega)]
       | num=>cases m <;> cases n <;> simp[stands]
       | txt=>cases m <;> cases n <;> simp[stands]
       | flag=>cases m <;> cases n <;> simp[stands]
       | list k=>cases m <;> cases n <;> simp[stands]
       | opt k=>cases m <;> cases n <;> simp[stands]
      ·rcases(hx t (find_mem ht).1).sort with h|h|h
       ·exact absurd h h82
       ·exact absurd h h85
       ·exact absurd h h69
end Wf

namespace Wf
set_option linter.unusedVariables false
set_option linter.unusedSimpArgs false
def mapTys:List Bs→Option (List Ty)
 | []=>some []
 | s::l =>
  match lineTy s with
  | none=>none
  | some t=>(mapTys l).map (t :: ·)
def namesOk (x:List Ty):Bool:=decide ((x.map (·.name)).Pairwise (· ≠ ·))
theorem addTys_eq:∀ (l:List Bs) (acc:List Ty),acc.length≤8→(acc.map (·.name)).Pairwise (· ≠ ·) →
  addTys acc l=if acc.length+l.length≤8 then (match mapTys l with|none=>none|some r=>if namesOk (acc++r)=true then some (acc++r) else none) else none:=by
 intro l
 induction l with
 | nil=>intro acc h hn;simp[addTys,mapTys,h,namesOk,hn]
 | cons s l ih =>
  intro acc h hn
  simp only[addTys,mapTys,List.length_cons]
  by_cases h8:acc.length=8
  ·rw[if_pos h8,if_neg (by omega)]
  ·rw[if_neg h8]
   cases ht:lineTy s with
   | none=>simp
   | some t =>
    simp only
    by_cases ha:acc.any (fun u=>u.name==t.name)=true
    ·rw[if_pos ha]
     simp only[List.any_eq_true,beq_iff_eq] at ha
     obtain⟨u,hu,hut⟩:=ha
     split
     ·cases mapTys l with
      | none=>rfl
      | some r =>
       simp only[Option.map_some]
       rw[if_neg]
       simp only[namesOk,decide_eq_true_eq,List.map_append,List.map_cons]
       intro hp
       exact(List.pairwise_append.1 hp).2.2 u.name (List.mem_map.2 ⟨u,hu,rfl⟩) t.name (by simp) hut
     ·rfl
    ·rw[if_neg ha]
     simp only[List.any_eq_true,beq_iff_eq,not_exists,not_and] at ha
     rw[ih (acc++[t]) (by simp;omega) (by
      rw[List.map_append]
      refine List.pairwise_append.2 ⟨hn,by simp, ?_⟩
      intro a hx b hb
      obtain⟨g,hg,rfl⟩:=List.mem_map.1 hx
      simp only[List.map_cons,List.map_nil,List.mem_singleton] at hb
      subst hb
      exact ha g hg)]
     simp only[List.length_append,List.length_cons,List.length_nil]
     by_cases hl:acc.length+(l.length+1)≤8
     ·rw[if_pos (by omega),if_pos hl]
      cases mapTys l with
      | none=>rfl
      | some r=>simp
     ·rw[if_neg (by omega),if_neg hl]
def schemaB (s:Bs):Option Sc :=
 if 400<s.length∨9<(cutAt 10 s).length∨(cutAt 10 s).getLast? ≠ some [] then none else
 match mapTys (cutAt 10 s).dropLast with
 | none=>none
 | some x=>if namesOk x=true∧refsOk x=true∧x.all (endsIn x (x.length+1))=true then some x else none
theorem schemaB_eq (s:Bs):schemaB s=schemaOf s:=by
 unfold schemaB schemaOf
 by_cases h1:400<s.length
 ·simp[h1]
 ·by_cases h2:(cutAt 10 s).getLast? ≠ some []
  ·simp[h1,h2]
  ·have hlen:=List.length_pos_iff.2 (cutAt_ne 10 s)
   have hdl:(cutAt 10 s).dropLast.length=(cutAt 10 s).length-1:=by simp
   rw[addTys_eq _ _ (by simp) (by simp)]
   simp only[h1,h2,if_false,or_false,false_or,List.length_nil,Nat.zero_add,List.nil_append]
   by_cases h3:9<(cutAt 10 s).length
   ·rw[if_pos h3,if_neg (by omega)]
   ·rw[if_neg h3,if_pos (by omega)]
    cases hm:mapTys (cutAt 10 s).dropLast with
    | none=>rfl
    | some x =>
     have hxl:x.length≤8:=by
      have:∀ (l:List Bs) (r:List Ty),mapTys l=some r→r.length=l.length:=by
       intro l
       induction l with
       | nil=>intro r h;simp[mapTys] at h;subst h;rfl
       | cons a l ih =>
        intro r h
        simp only[mapTys] at h
        split at h
        ·simp at h
        ·cases hr:mapTys l with
         | none=>rw[hr] at h;simp at h
         | some r'=>rw[hr] at h;simp at h;subst h;simp[ih r' hr]
      have:=this _ _ hm
      omega
     simp only
     by_cases hn:namesOk x=true
     ·simp only[hn,true_and,if_true]
      have he:x.all (endsIn x (x.length+1))=x.all (endsIn x 9):=by
       rw[Bool.eq_iff_iff,List.all_eq_true,List.all_eq_true]
       constructor
       ·intro h t ht;exact endsIn_mono _ _ (h t ht) _ (by omega)
       ·intro h t ht;exact endsIn_mono _ _ (endsIn_enough ht (h t ht)) _ (by omega)
      rw[he]
     ·simp[hn]
end Wf

namespace Wf
set_option linter.unusedVariables false
set_option linter.unusedSimpArgs false
abbrev Asc (es:List (Fd × V)):Prop:=(es.map (fun e=>e.1.tag)).Pairwise (· < ·)
theorem typed_inj {x:Sc} {n m:Nat} {k:K} {u v:V} (hu:Typed x n k u) (hv:Typed x m k v) (h:u.print=v.print):u=v:=by
 have h1:=typed_parse _ _ _ [] (typed_mono _ _ _ hu (max n m) (Nat.le_max_left _ _)) (by simp[NoDig])
 have h2:=typed_parse _ _ _ [] (typed_mono _ _ _ hv (max n m) (Nat.le_max_right _ _)) (by simp[NoDig])
 rw[h,h2] at h1
 simp only[Option.some.injEq,Prod.mk.injEq,and_true] at h1
 exact h1.symm
theorem hasRef_ref {x:Sc} {nm:Bs} (h:hasRef x (.ref nm)=true):∃ t,x.find nm=some t:=by
 simp only[hasRef,K.base,K.name,ne_eq,not_true_eq_false,decide_false,Bool.false_or] at h
 exact Option.isSome_iff_exists.1 h
end Wf
