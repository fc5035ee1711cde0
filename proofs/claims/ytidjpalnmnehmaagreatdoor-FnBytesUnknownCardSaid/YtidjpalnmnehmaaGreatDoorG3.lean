/- Packed. -/
import Derived.Test.YtidjpalnmnehmaaGreatDoorG2
set_option maxRecDepth 99999
set_option maxHeartbeats 40000000
set_option linter.all false
namespace Wf
theorem getN_len {s r:Bs} {n:Nat} (h:getN s=some (n,r)):n<=999999/\r.length+1<=s.length/\(dec n).length+2+5*r.length<=5*s.length:=by
 obtain⟨h1,rfl⟩:=jW h;refine⟨h1,?_,?_⟩
 ·have:=(bH n h1).1
  rw[zaD];omega
 ·rw[zaD]
  by_cases h2:n<128
  ·have:=dZ n 2 (by have:(10:Nat)^3=1000:=rfl;omega)
   rw[bL h2];simp only[zaF,zaM];omega
  ·by_cases h3:n<16384
   ·have:=dZ n 4 (by have:(10:Nat)^5=100000:=rfl;omega)
    rw[cC (by omega),bL (by omega)];simp only[zaF,zaM];omega
   ·have:=bW h1
    have:=(bH (n / 128 / 128) (by omega)).1;rw[cC (by omega),cC (by omega)];simp only[zaF];omega
theorem takeN_len {s b r:Bs} (h:takeN s=some (b,r)):b.length+r.length+1<=s.length:=by
 obtain⟨h1,h2⟩:=sG h;have:=(bH b.length h2).1;rw[h1];simp only[zaD];omega
def Short (p:Reads):Prop:=∀ s v r,p s=some (v,r)->v.print.length+1+5*r.length<=5*s.length
theorem getItems_short {p:Reads} (hp:Short p):∀ (m:Nat) (s:Bs) (l:List V) (r:Bs),getItems p m s=some (l,r)->pl l+5*r.length<=5*s.length:=by
 intro m;induction m with
 | zero=>intro s l r h;simp[getItems] at h;obtain⟨rfl,rfl⟩:=h;rw[kC];omega
 | succ m ih =>
  intro s l r h;simp only[getItems] at h;cases hq:p s with
  | none=>rw[hq] at h;cases h
  | some y =>
   rw[hq] at h;dsimp only at h;cases hi:getItems p m y.2 with
   | none=>rw[hi] at h;cases h
   | some z =>
    rw[hi] at h;simp only[zaL,zaE,zaK] at h;obtain⟨rfl,rfl⟩:=h;have h1:=hp s y.1 y.2 hq;have h2:=ih _ _ _ hi;unfold pl at h2 ⊢;simp only[zaX,List.flatten_cons,zaD,zaF];omega
theorem whole_short {p:Reads} (hp:Short p) {s:Bs} {v:V} (h:whole p s=some v):v.print.length+1<=5*s.length:=by
 have:=hp s v [] (lU h);simpa using this
theorem getFields_short {x:Sc} {t:Ty} {p:K->Reads} (hp:∀ k,Short (p k)):∀ (m last:Nat) (s:Bs) (l:List V) (sk:List Nat) (r:Bs),getFields x t p m last s=some (l,sk,r)->pl l+5*r.length+5<=5*s.length:=by
 intro m;induction m with
 | zero=>intro last s l sk r h;simp[getFields] at h
 | succ m ih =>
  intro last s l sk r h;simp only[getFields] at h;cases hn:getN s with
  | none=>rw[hn] at h;cases h
  | some y =>
   obtain⟨tag,rest⟩:=y;rw[hn] at h;dsimp only at h;obtain⟨h1,h2,h3⟩:=getN_len hn;split at h
   ·simp only[zaE,zaK] at h
    obtain⟨rfl,rfl,rfl⟩:=h;rw[kC];omega
   ·cases ht:takeN rest with
    | none=>rw[ht] at h;cases h
    | some z =>
     obtain⟨part,more⟩:=z;rw[ht] at h;dsimp only at h;have h4:=takeN_len ht;split at h
     ·cases h
     ·cases hf:t.field tag with
      | none =>
       rw[hf] at h;dsimp only at h;cases hg:getFields x t p m tag more with
       | none=>rw[hg] at h;cases h
       | some y =>
        obtain⟨l',sk',r'⟩:=y;rw[hg] at h;simp only[zaL,zaE,zaK] at h;obtain⟨rfl,rfl,rfl⟩:=h;have:=ih _ _ _ _ _ hg;omega
      | some f =>
       rw[hf] at h;dsimp only at h;cases hw:whole (p f.kind) part with
       | none=>rw[hw] at h;cases h
       | some v =>
        rw[hw] at h;dsimp only at h;have h5:=whole_short (hp f.kind) hw;cases hg:getFields x t p m tag more with
        | none=>rw[hg] at h;cases h
        | some y =>
         obtain⟨l',sk',r'⟩:=y;rw[hg] at h;simp only[zaL,zaE,zaK] at h;obtain⟨hl,rfl,rfl⟩:=h;have h6:=ih _ _ _ _ _ hg;split at hl
         ·rw[<-hl];omega
         ·rw[<-hl]
          have e:pl (V.mk 61 [] tag [v]::l')=pl l'+(dec tag).length+v.print.length+2:=by
           unfold pl;simp only[zaX,List.flatten_cons,zaD,zaF,dO];omega
          rw[e];omega
theorem row_short {w:UInt8} (hw:w=91\/w=82) (l:List V):(V.mk w [] 0 l).print.length<=pl l+2:=by
 rw[jR hw];by_cases h:l=[]
 ·subst h;simp[commas]
 ·have:=kT h
  omega
theorem getB_short {x:Sc}:∀ (n:Nat) (k:K),Short (getB x n k):=by
 intro n;induction n with
 | zero=>intro k s v r h;simp[getB] at h
 | succ n ih =>
  intro k s v r h;cases k with
  | num =>
   simp only[getB] at h;cases hn:getN s with
   | none=>rw[hn] at h;cases h
   | some y =>
    rw[hn] at h;simp only[zaL,zaE,zaK] at h;obtain⟨rfl,rfl⟩:=h;have:=(getN_len (n:=y.1) (r:=y.2) hn).2.2;rw[eR];omega
  | txt =>
   simp only[getB] at h;split at h
   ·cases h
   ·split at h
    ·rename_i b q ht hb
     simp only[zaE,zaK] at h;obtain⟨rfl,rfl⟩:=h;have:=takeN_len ht;rw[eM];simp only[zaF,zaD,zaM];omega
    ·cases h
  | flag =>
   simp only[getB] at h;split at h
   ·simp only[zaE,zaK] at h
    obtain⟨rfl,rfl⟩:=h;rw[cQ];simp only[zaF,zaM];omega
   ·simp only[zaE,zaK] at h
    obtain⟨rfl,rfl⟩:=h;rw[cQ];simp only[zaF,zaM];omega
   ·cases h
  | list k =>
   simp only[getB] at h;split at h
   ·cases h
   ·split at h
    ·rename_i m q hm _
     cases hi:getItems (getB x n k) m q with
     | none=>rw[hi] at h;cases h
     | some y =>
      rw[hi] at h;simp only[zaL,zaE,zaK] at h;obtain⟨rfl,rfl⟩:=h;have h1:=getItems_short (ih k) m q y.1 y.2 hi;have h2:=(getN_len hm).2.1;have h3:=row_short (.inl rfl) y.1;omega
    ·cases h
  | opt k =>
   simp only[getB] at h;split at h
   ·simp only[zaE,zaK] at h
    obtain⟨rfl,rfl⟩:=h;rw[eO];simp only[zaF,zaM];omega
   ·rename_i q
    cases hq:getB x n k q with
    | none=>rw[hq] at h;cases h
    | some y =>
     rw[hq] at h;simp only[zaL,zaE,zaK] at h;obtain⟨rfl,rfl⟩:=h;have:=ih k q y.1 y.2 hq;rw[dA];simp only[zaF];omega
   ·cases h
  | ref nm =>
   simp only[getB] at h;cases ht:x.find nm with
   | none=>rw[ht] at h;cases h
   | some t =>
    rw[ht] at h;simp only[eD] at h;split at h
    ·split at h
     ·cases h
     ·rename_i tag rest hn
      obtain⟨_,_,h3⟩:=getN_len hn;split at h
      ·simp only[zaE,zaK] at h
       obtain⟨rfl,rfl⟩:=h;rw[eT];simp only[zaF];omega
      ·cases h
    ·split at h
     ·split at h
      ·cases h
      ·rename_i tag rest hn
       obtain⟨_,_,h3⟩:=getN_len hn;split at h
       ·cases h
       ·rename_i f hf
        split at h
        ·cases h
        ·rename_i part more hp
         have h4:=takeN_len hp;cases hw:whole (fun s'=>getB x n f.kind s') part with
         | none=>rw[hw] at h;cases h
         | some u =>
          rw[hw] at h;simp only[zaL,zaE,zaK] at h;obtain⟨rfl,rfl⟩:=h;have h5:=whole_short (p:=fun s'=>getB x n f.kind s') (ih f.kind) hw;rw[dH];simp only[zaF,zaD,zaM];omega
     ·cases hg:getFields x t (fun k' s'=>getB x n k' s') s.length 0 s with
      | none=>rw[hg] at h;cases h
      | some y =>
       rw[hg] at h;simp only[zaL,zaE,zaK] at h;obtain⟨rfl,rfl⟩:=h;have h1:=getFields_short (p:=fun k' s'=>getB x n k' s') (fun k=>ih k) _ _ _ _ _ _ (show getFields x t (fun k' s'=>getB x n k' s') s.length 0 s=some (y.1,y.2.1,y.2.2) from hg);have h2:=row_short (.inr rfl) y.1;omega
theorem getFields_fuel {x:Sc} {t:Ty} {p:K->Reads}:∀ (m m' last:Nat) (s:Bs),s.length<=m->s.length<=m'->getFields x t p m last s=getFields x t p m' last s:=by
 have h0:∀ m last,getFields x t p m last []=none:=fun m last=>by
  cases m with
  | zero=>rfl
  | succ m=>rfl
 intro m;induction m with
 | zero =>
  intro m' last s h _;rw[List.eq_nil_of_length_eq_zero (by omega:s.length=0),h0,h0]
 | succ m ih =>
  intro m' last s h h';cases m' with
  | zero=>rw[List.eq_nil_of_length_eq_zero (by omega:s.length=0),h0,h0]
  | succ m' =>
   simp only[getFields];cases hn:getN s with
   | none=>rfl
   | some y =>
    obtain⟨tag,rest⟩:=y;dsimp only;have h1:=(getN_len hn).2.1;split
    ·rfl
    ·cases ht:takeN rest with
     | none=>rfl
     | some z =>
      obtain⟨part,more⟩:=z;dsimp only;have h2:=takeN_len ht;rw[ih m' tag more (by omega) (by omega)]
def recB (x:Sc) (t:Ty) (p:K->Reads) (last:Nat) (s:Bs):Option (List V × List Nat × Bs):=getFields x t p s.length last s
theorem recB_step {x:Sc} {t:Ty} {p:K->Reads} {last g:Nat} {s q:Bs} (h:getN s=some (g,q)):recB x t p last s=(if g=0 then some ([],[],q) else match takeN q with
  | none=>none
  | some (part,more)=>if g<=last then none else match t.field g with
   | none=>(recB x t p g more).map fun y=>(y.1,g::y.2.1,y.2.2)
   | some f=>match whole (p f.kind) part with
    | none=>none
    | some v=>(recB x t p g more).map fun y=>(if v.print=aO x f then y.1 else .mk 61 [] g [v]::y.1,y.2.1,y.2.2)):=by
 have h1:=(getN_len h).2.1;unfold recB;obtain⟨m,hm⟩:∃ m,s.length=m+1:=⟨s.length-1,by omega⟩;rw[hm];simp only[getFields];rw[h];dsimp only;split
 ·rfl
 ·cases ht:takeN q with
  | none=>rfl
  | some z =>
   obtain⟨part,more⟩:=z;dsimp only;have h2:=takeN_len ht;rw[getFields_fuel m more.length g more (by omega) (by omega)];rfl
theorem recB_none {x:Sc} {t:Ty} {p:K->Reads} {last:Nat} {s:Bs} (h:getN s=none):recB x t p last s=none:=by
 unfold recB;cases hl:s.length with
 | zero=>rfl
 | succ m =>
  simp only[getFields];rw[h]
theorem recB_end {x:Sc} {t:Ty} {p:K->Reads} {last:Nat} {s q:Bs} (h:getN s=some (0,q)):recB x t p last s=some ([],[],q):=by
 rw[recB_step h,if_pos rfl]
theorem recB_cut {x:Sc} {t:Ty} {p:K->Reads} {last g:Nat} {s q:Bs} (h:getN s=some (g,q)) (h0:g≠0) (ht:takeN q=none):recB x t p last s=none:=by
 rw[recB_step h,if_neg h0,ht]
theorem recB_low {x:Sc} {t:Ty} {p:K->Reads} {last g:Nat} {s q part more:Bs} (h:getN s=some (g,q)) (h0:g≠0) (ht:takeN q=some (part,more)) (hl:g<=last):recB x t p last s=none:=by
 rw[recB_step h,if_neg h0,ht];dsimp only;rw[if_pos hl]
theorem recB_skip {x:Sc} {t:Ty} {p:K->Reads} {last g:Nat} {s q part more:Bs} (h:getN s=some (g,q)) (h0:g≠0) (ht:takeN q=some (part,more)) (hl:¬ g<=last) (hf:t.field g=none):recB x t p last s=(recB x t p g more).map fun y=>(y.1,g::y.2.1,y.2.2):=by
 rw[recB_step h,if_neg h0,ht];dsimp only;rw[if_neg hl,hf]
theorem recB_bad {x:Sc} {t:Ty} {p:K->Reads} {last g:Nat} {s q part more:Bs} {f:Fd} (h:getN s=some (g,q)) (h0:g≠0) (ht:takeN q=some (part,more)) (hl:¬ g<=last) (hf:t.field g=some f) (hw:whole (p f.kind) part=none):recB x t p last s=none:=by
 rw[recB_step h,if_neg h0,ht];dsimp only;rw[if_neg hl,hf];dsimp only;rw[hw]
theorem recB_same {x:Sc} {t:Ty} {p:K->Reads} {last g:Nat} {s q part more:Bs} {f:Fd} {v:V} (h:getN s=some (g,q)) (h0:g≠0) (ht:takeN q=some (part,more)) (hl:¬ g<=last) (hf:t.field g=some f) (hw:whole (p f.kind) part=some v) (hs:v.print=aO x f):recB x t p last s=recB x t p g more:=by
 rw[recB_step h,if_neg h0,ht];dsimp only;rw[if_neg hl,hf];dsimp only;rw[hw];dsimp only;simp only[if_pos hs];cases recB x t p g more <;> rfl
theorem recB_told {x:Sc} {t:Ty} {p:K->Reads} {last g:Nat} {s q part more:Bs} {f:Fd} {v:V} (h:getN s=some (g,q)) (h0:g≠0) (ht:takeN q=some (part,more)) (hl:¬ g<=last) (hf:t.field g=some f) (hw:whole (p f.kind) part=some v) (hs:v.print≠aO x f):recB x t p last s=(recB x t p g more).map fun y=>(.mk 61 [] g [v]::y.1,y.2.1,y.2.2):=by
 rw[recB_step h,if_neg h0,ht];dsimp only;rw[if_neg hl,hf];dsimp only;rw[hw];dsimp only;simp only[if_neg hs]
theorem getB_rec {x:Sc} {n:Nat} {nm:Bs} {t:Ty} (hf:x.find nm=some t) (h:t.sort=82) (s:Bs):getB x (n+1) (.ref nm) s=(recB x t (fun k' s'=>getB x n k' s') 0 s).map fun y=>(.mk 82 [] 0 y.1,y.2.2):=by
 simp only[getB,hf,eD];rw[if_neg (by rw[h];decide),if_neg (by rw[h];decide)];rfl
end Wf

namespace Wf
theorem tN {l m:List Bs} (h:l≠[]) (hm:m≠[]):commas (l++m)=commas l++44::commas m:=by
 induction l with
 | nil=>exact absurd rfl h
 | cons a l ih =>
  cases l with
  | nil =>
   rw[List.singleton_append,dR a hm];rfl
  | cons b l =>
   rw[zaN,dR a (by simp),ih (by simp),dR a (by simp)];simp
theorem a3Q {l:List Bs} (h:l≠[]) (a:Bs):commas (l++[a])=commas l++44::a:=by
 rw[tN h (by simp)];rfl
theorem pN {l:List Bs} (i:Nat):(commas (l.take i)).length<=(commas l).length:=by
 by_cases h1:l.take i=[]
 ·rw[h1];simp[commas]
 ·by_cases h2:l.drop i=[]
  ·have:l.take i=l:=by
    have:=List.take_append_drop i l;rw[h2,List.append_nil] at this;exact this
   rw[this];exact zaA
  ·have:=congrArg (fun m=>(commas m).length) (List.take_append_drop i l)
   simp only[tN h1 h2,zaD,zaF] at this;omega
theorem oX {l:List Bs} {i:Nat} (h:i<l.length):commas (l.take (i+1))=if i=0 then l[i] else commas (l.take i)++44::l[i]:=by
 have e:l.take (i+1)=l.take i++[l[i]]:=by rw[List.take_add_one,zaV h];rfl
 rw[e];by_cases h0:i=0
 ·subst h0
  simp[commas]
 ·rw[if_neg h0,a3Q]
  intro hn;rw[List.take_eq_nil_iff] at hn;rcases hn with hn|hn
  ·exact h0 hn
  ·rw[hn] at h;simp at h
theorem oK {x:Sc} {n:Nat} {k:K} {v:V} (h:Typed x n k v):v.what≠61:=by
 cases n with
 | zero=>exact h.elim
 | succ n =>
  cases k with
  | num=>obtain⟨m,_,rfl⟩:=h;simp[V.what]
  | txt=>obtain⟨b,_,_,rfl⟩:=h;simp[V.what]
  | flag=>rcases h with rfl|rfl <;> simp[V.what]
  | list k=>obtain⟨l,_,_,rfl⟩:=h;simp[V.what]
  | opt k=>rcases h with rfl|⟨u,_,rfl⟩ <;> simp[V.what]
  | ref nm =>
   obtain⟨t,_,h⟩:=h;rcases h with⟨_,f,_,_,rfl⟩|⟨_,_,f,u,_,_,_,rfl⟩|⟨_,_,l,_,_,rfl⟩ <;> simp[V.what]
end Wf

namespace Wf
end Wf

namespace Wf
def putL (o:Option (Fd × V)) (g:Int):Bool->List (Fd × V)->List (Fd × V)
 | done,[]=>if done then [] else o.toList
 | done,e::es=>(if done=false/\g<=(e.1.tag:Int) then o.toList else [])++(if (e.1.tag:Int)≠g then [e] else [])++putL o g (done || decide (g<=(e.1.tag:Int))) es
def psum (l:List Bs):Nat:=(l.map fun a=>a.length+1).sum
theorem qC:∀ (l:List Bs),(commas l).length<=psum l/\psum l<=(commas l).length+1:=by
 intro l;induction l with
 | nil=>exact⟨zaA,Nat.le_succ _⟩
 | cons b l ih =>
  have h:psum (b::l)=b.length+1+psum l:=by unfold psum;rw[zaX,List.sum_cons]
  cases l with
  | nil=>rw[h];simp[commas,psum]
  | cons c l =>
   rw[h];simp only[commas,zaD,zaF];omega
end Wf
