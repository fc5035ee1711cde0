/- Packed. -/
import Derived.Test.YtidjpalnmnehmaaGreatDoorP1
set_option maxRecDepth 99999
set_option maxHeartbeats 40000000
set_option linter.all false
namespace Wf
theorem dX {x:Sc} {n:Nat} {k:K} {s r:Bs} {v:V} (h:parse x n k s=some (v,r)):r.length<s.length:=by
 obtain⟨ht,hs⟩:=eG n k s v r h;obtain⟨c,t,hc,_⟩:=iK ht;rw[hs,hc];simp;omega
theorem oA {p:Reads} (hp:∀ s v r,p s=some (v,r)->r.length<s.length):∀ (m m':Nat) (s:Bs),s.length<=m->s.length<=m'->itemsW p m s=itemsW p m' s:=by
 intro m;induction m with
 | zero =>
  intro m' s h1 h2;cases m' with
  | zero=>rfl
  | succ m' =>
   have hs:s=[]:=List.eq_nil_of_length_eq_zero (by omega);subst hs;simp only[itemsW];cases hq:p [] with
   | none=>rfl
   | some y=>have:=hp [] y.1 y.2 hq;simp at this
 | succ m ih =>
  intro m' s h1 h2;cases m' with
  | zero =>
   have hs:s=[]:=List.eq_nil_of_length_eq_zero (by omega);subst hs;simp only[itemsW];cases hq:p [] with
   | none=>rfl
   | some y=>have:=hp [] y.1 y.2 hq;simp at this
  | succ m' =>
   simp only[itemsW];cases hq:p s with
   | none=>rfl
   | some y =>
    obtain⟨v,rest⟩:=y;have hlt:=hp s v rest hq;dsimp only;split
    ·rename_i r
     simp only[List.length_cons] at hlt;rw[ih m' r (by omega) (by omega)]
    ·rfl
    ·rfl
def items (p:Reads) (s:Bs):Option (List V × Bs):=itemsW p s.length s
theorem items_step {p:Reads} (hp:∀ s v r,p s=some (v,r)->r.length<s.length) (s:Bs):items p s=match p s with
  | none=>none
  | some (v,rest) =>
   match rest with
   | 44::r=>(items p r).map fun x=>(v::x.1,x.2)
   | 93::r=>some ([v],r)
   | _=>none:=by
 unfold items;rw[oA hp s.length (s.length+1) s (Nat.le_refl _) (by omega)];simp only[itemsW];cases hq:p s with
 | none=>rfl
 | some y =>
  obtain⟨v,rest⟩:=y;have hlt:=hp s v rest hq;dsimp only;split
  ·rename_i r
   simp only[List.length_cons] at hlt;rw[oA hp s.length r.length r (by omega) (Nat.le_refl _)];rfl
  ·rfl
  ·rename_i h1 h2
   split
   ·exact(h1 _ rfl).elim
   ·exact(h2 _ rfl).elim
   ·rfl
theorem a2X {p:Reads} (hp:∀ s v r,p s=some (v,r)->r.length<s.length) {s:Bs} {l:List V} {q:Bs} (h:items p s=some (l,q)):l≠[]:=by
 rw[items_step hp] at h;split at h
 ·cases h
 ·split at h
  ·rw[Option.map_eq_some_iff] at h
   obtain⟨y,_,hy⟩:=h;simp only[Prod.mk.injEq] at hy;rw[<-hy.1];simp
  ·simp only[Option.some.injEq,Prod.mk.injEq] at h
   rw[<-h.1];simp
  ·cases h
theorem iF {most n:Nat} {s r:Bs} (h:aO most s=some (n,r)):r.length<s.length:=by
 obtain⟨m,h1,h2⟩:=Option.map_eq_some_iff.1 h;simp only[Prod.mk.injEq] at h2;have hne:s.takeWhile aB≠[]:=by
  intro e;rw[e] at h1;simp[aG] at h1
 have:=congrArg List.length (List.takeWhile_append_dropWhile (p:=aB) (l:=s));rw[List.length_append] at this;have h3:=List.length_pos_iff.2 hne;rw[<-h2.2];omega
theorem iL {t:Ty} {p:K->Reads} (hp:∀ k s v r,p k s=some (v,r)->r.length<s.length) {s r:Bs} {f:Fd} {v:V} (h:fieldTok t p s=some (f,v,r)):r.length+2<s.length:=by
 unfold fieldTok at h;cases hn:aO 200 s with
 | none=>rw[hn] at h;cases h
 | some y =>
  obtain⟨tag,rest⟩:=y;have h1:=iF hn;rw[hn] at h;dsimp only at h;split at h
  ·rename_i q f' hf
   simp only[List.length_cons] at h1;obtain⟨y,hy,h2⟩:=Option.map_eq_some_iff.1 h;simp only[Prod.mk.injEq] at h2;have:=hp _ _ _ _ hy;rw[<-h2.2.2];omega
  ·cases h
theorem nS {x:Sc} {t:Ty} {p:K->Reads} (hp:∀ k s v r,p k s=some (v,r)->r.length<s.length):∀ (m m' last:Nat) (s:Bs),s.length<=m->s.length<=m'->fieldsW x t p m last s=fieldsW x t p m' last s:=by
 intro m;induction m with
 | zero =>
  intro m' last s h1 h2;cases m' with
  | zero=>rfl
  | succ m' =>
   have hs:s=[]:=List.eq_nil_of_length_eq_zero (by omega);subst hs;simp only[fieldsW];cases hq:fieldTok t p [] with
   | none=>rfl
   | some y=>have:=iL hp hq;simp at this
 | succ m ih =>
  intro m' last s h1 h2;cases m' with
  | zero =>
   have hs:s=[]:=List.eq_nil_of_length_eq_zero (by omega);subst hs;simp only[fieldsW];cases hq:fieldTok t p [] with
   | none=>rfl
   | some y=>have:=iL hp hq;simp at this
  | succ m' =>
   simp only[fieldsW];cases hq:fieldTok t p s with
   | none=>rfl
   | some y =>
    obtain⟨f,v,rest⟩:=y;have hlt:=iL hp hq;dsimp only;split
    ·rfl
    ·split
     ·rename_i r
      simp only[List.length_cons] at hlt;rw[ih m' _ r (by omega) (by omega)]
     ·rfl
     ·rfl
def flds (x:Sc) (t:Ty) (p:K->Reads) (last:Nat) (s:Bs):Option (List V × Bs):=fieldsW x t p s.length last s
theorem flds_step {x:Sc} {t:Ty} {p:K->Reads} (hp:∀ k s v r,p k s=some (v,r)->r.length<s.length) (last:Nat) (s:Bs):flds x t p last s=match fieldTok t p s with
  | none=>none
  | some (f,v,rest) =>
   if f.tag<=last\/v.print=aL x f then none else
   match rest with
   | 44::r=>(flds x t p f.tag r).map fun y=>(.mk 61 [] f.tag [v]::y.1,y.2)
   | 125::r=>some ([.mk 61 [] f.tag [v]],r)
   | _=>none:=by
 unfold flds;rw[nS hp s.length (s.length+1) last s (Nat.le_refl _) (by omega)];simp only[fieldsW];cases hq:fieldTok t p s with
 | none=>rfl
 | some y =>
  obtain⟨f,v,rest⟩:=y;have hlt:=iL hp hq;dsimp only;split
  ·rfl
  ·split
   ·rename_i r
    simp only[List.length_cons] at hlt;rw[nS hp s.length r.length _ r (by omega) (Nat.le_refl _)];rfl
   ·rfl
   ·rename_i h1 h2
    first
    |rfl
    |(split;exact(h1 _ rfl).elim;exact(h2 _ rfl).elim;rfl)
def valIn (x:Sc) (k:K) (s:Bs):Option V:=if s.length<=400 then (match parse x 12 k s with|some (v,[])=>some v|_=>none) else none
theorem nK {x:Sc} {k:K} {s:Bs} (h:¬ s.length<=400):valIn x k s=none:=by rw[valIn,if_neg h]
theorem a1C {x:Sc} {k:K} {s:Bs} (h:s.length<=400):valIn x k s=match parse x 401 k s with
  | some (v,r)=>if r=[]/\v.deep<=12 then some v else none
  | none=>none:=by
 rw[valIn,if_pos h,a4W 12 401 (by omega) k s];cases parse x 401 k s with
 | none=>rfl
 | some y =>
  obtain⟨v,r⟩:=y;by_cases hd:v.deep<=12
  ·simp only[Option.filter_some,hd,decide_true,if_true]
   cases r <;> simp
  ·simp only[Option.filter_some,hd,decide_false]
   simp
theorem gD {x:Sc} {k:K} {s:Bs} {v:V} (h:valIn x k s=some v):Typed x 12 k v/\s=v.print/\s.length<=400:=by
 unfold valIn at h;split at h
 ·rename_i hs
  split at h
  ·rename_i v' hp
   cases h;obtain⟨h1,h2⟩:=eG _ _ _ _ _ hp;exact⟨h1,by simpa using h2,hs⟩
  ·cases h
 ·cases h
theorem a1W {x:Sc} {n:Nat} {k:K} {v:V} (h:Typed x n k v) (hd:v.deep<=12) (hs:v.print.length<=400):valIn x k v.print=some v:=by
 have h12:=a0B n k v h 12 hd;have:=yD 12 k v [] h12 (by intro c hc;simp at hc);rw[List.append_nil] at this;rw[valIn,if_pos hs,this]
end Wf

namespace Wf
end Wf

namespace Wf
def Ty.fO (t:Ty) (g:Int):Option Fd:=t.fields.find? fun f=>(f.tag:Int)==g
theorem pU (t:Ty) (g:Nat):t.fO g=t.field g:=by
 unfold Ty.fO Ty.field;refine congrArg (fun p=>List.find? p t.fields) (funext fun f=>?_);rw[Bool.eq_iff_iff,beq_iff_eq,beq_iff_eq];omega
theorem rO {t:Ty} {g:Int} {f:Fd} (h:t.fO g=some f):f∈t.fields/\(f.tag:Int)=g/\t.field f.tag=some f:=by
 have h1:=List.mem_of_find?_eq_some h;have h2:(f.tag:Int)=g:=by have:=List.find?_some h;simpa using this
 refine⟨h1,h2,?_⟩;rw[<-pU,h2];exact h
def recTy (x:Sc):K->Option Ty
 | .ref nm=>(x.find nm).bind fun t=>if t.sort=82 then some t else none
 | _=>none
theorem oX {x:Sc} {k:K} {t:Ty} (h:recTy x k=some t):∃ nm,k=.ref nm/\x.find nm=some t/\t.sort=82:=by
 cases k with
 | ref nm =>
  simp only[recTy] at h;cases hf:x.find nm with
  | none=>rw[hf] at h;cases h
  | some u =>
   rw[hf] at h;simp only[Option.bind_some] at h;split at h
   ·rename_i h82;cases h;exact⟨nm,rfl,hf,h82⟩
   ·cases h
 | _=>cases h
def cR (x:Sc) (k:K) (g:Int):Option Fd:=(recTy x k).bind fun t=>t.fO g
theorem rQ {x:Sc} {k:K} {g:Int} {f:Fd} (h:cR x k g=some f):∃ nm t,k=.ref nm/\x.find nm=some t/\t.sort=82/\t.fO g=some f:=by
 unfold cR at h;cases ht:recTy x k with
 | none=>rw[ht] at h;cases h
 | some t =>
  rw[ht] at h;obtain⟨nm,h1,h2,h3⟩:=oX ht;exact⟨nm,t,h1,h2,h3,h⟩
def getV (x:Sc) (kids:List V) (f:Fd):Bs :=
 match kids.find? (fun u=>u.tag==f.tag) with
 | some u=>(match u.kids with | [y]=>y.print|_=>[])
 | none=>aL x f
def gJ (x:Sc) (k:K) (v:V) (g:Int):Option Bs:=(cR x k g).map fun f=>getV x v.kids f
theorem rF (x:Sc) (es:List (Fd × V)) (f:Fd):getV x (es.map tagged) f=getEs x es f:=by
 unfold getV getEs;induction es with
 | nil=>rfl
 | cons e es ih =>
  simp only[List.map_cons,List.find?_cons];have:(tagged e).tag=e.1.tag:=rfl;rw[this];cases hq:(e.1.tag==f.tag) with
  | true=>rfl
  | false=>exact ih
def nB (x:Sc) (t:Ty) (n:Nat) (es:List (Fd × V)):Prop :=
 Asc es/\∀ e,e∈es->0<e.1.tag/\t.field e.1.tag=some e.1/\e.1.tag<=200/\Typed x n e.1.kind e.2/\e.2.print≠aL x e.1
abbrev recV (es:List (Fd × V)):V:=.mk 82 [] 0 (es.map tagged)
theorem rI {x:Sc} {n:Nat} {nm:Bs} {v:V} {t:Ty} (h:Typed x (n+1) (.ref nm) v) (ht:x.find nm=some t) (h82:t.sort=82):∃ es,nB x t n es/\v=recV es:=by
 simp only[Typed] at h;obtain⟨u,hu,h⟩:=h;rw[ht] at hu;cases hu;rcases h with⟨h1,_⟩|⟨_,h1,_⟩|⟨_,_,l,h1,h2,h3⟩
 ·rw[h82] at h1;exact absurd h1 (by decide)
 ·rw[h82] at h1;exact absurd h1 (by decide)
 ·exact⟨l,⟨h1,h2⟩,h3⟩
theorem rW {x:Sc} {n:Nat} {nm:Bs} {t:Ty} {es:List (Fd × V)} (h:nB x t n es) (ht:x.find nm=some t) (h82:t.sort=82):Typed x (n+1) (.ref nm) (recV es):=by
 simp only[Typed];exact⟨t,ht,.inr (.inr ⟨by rw[h82];decide,by rw[h82];decide,es,h.1,h.2,rfl⟩)⟩
theorem wA {l:List Bs} {a:Bs} (h:a∈l):a.length<=(commas l).length:=by
 induction l with
 | nil=>simp at h
 | cons b l ih =>
  cases l with
  | nil=>simp at h;subst h;exact Nat.le_refl _
  | cons c l =>
   simp only[commas,List.length_append,List.length_cons];rcases List.mem_cons.1 h with rfl|h
   ·omega
   ·have:=ih h;omega
theorem pY {es:List (Fd × V)} {e:Fd × V} (h:e∈es):e.2.print.length<=(recV es).print.length:=by
 rw[recV,cV];have h1:(tagged e).print∈(es.map tagged).map V.print:=List.mem_map_of_mem (List.mem_map_of_mem h);have h2:=wA h1;rw[dR] at h2;simp at h2 ⊢;omega
theorem a0J {x:Sc} (hx:ScOk x):∀ (n:Nat) (k:K),(stands x n k).length<=7+9*n:=by
 intro n;induction n with
 | zero=>intro k;cases k <;> simp[stands]
 | succ n ih =>
  intro k;cases k with
  | ref nm =>
   simp only[stands];cases ht:x.find nm with
   | none=>simp
   | some t =>
    dsimp only;split
    ·simp;omega
    ·cases hf:t.fields with
     | nil=>simp
     | cons f fs =>
      dsimp only;have hfo:=(hx.tys t (bI ht).1).fds f (by rw[hf];simp);have hd:(dec f.tag).length<=3:=dP f.tag 2 (by have:=hfo.tag2;omega);have:=ih f.kind;split
      ·simp;omega
      ·simp;omega
  | _=>simp[stands] <;> omega
theorem yA {x:Sc} (hx:ScOk x) {t:Ty} (ht:t∈x) {f:Fd} (hf:f∈t.fields):(aL x f).length<=88:=by
 unfold aL;by_cases hg:f.given=[]
 ·rw[if_pos hg]
  exact a0J hx 9 f.kind
 ·rw[if_neg hg]
  have h:=(((hx.tys t ht).fds f hf).given hg).2;cases hk:f.kind with
  | num =>
   rw[hk] at h;simp only[stOk] at h;cases hp:aG f.given 999999 with
   | none=>rw[hp] at h;simp at h
   | some m =>
    obtain⟨h1,h2,_⟩:=dF hp;rw[h1];have:=bW h2;omega
  | txt =>
   rw[hk] at h;simp only[stOk,Bool.and_eq_true] at h;obtain⟨b,hb,_,hl⟩:=eU.1 h.1;rw[hb];simp;omega
  | flag=>rw[hk] at h;simp only[stOk,decide_eq_true_eq] at h;rw[h];simp
  | ref n=>rw[hk] at h;simp[stOk] at h
  | list k=>rw[hk] at h;simp[stOk] at h
  | opt k=>rw[hk] at h;simp[stOk] at h
theorem a3D {x:Sc} {nm:Bs} {t:Ty} {es:List (Fd × V)} {g:Int} (ht:x.find nm=some t) (h82:t.sort=82):gJ x (.ref nm) (recV es) g=(t.fO g).map fun f=>getEs x es f:=by
 have hr:recTy x (.ref nm)=some t:=by simp only[recTy,ht,Option.bind_some,if_pos h82]
 unfold gJ cR;rw[hr];simp only[Option.bind_some,V.kids,rF]
end Wf

namespace Wf
def fieldAt (want:Nat) (s:Bs):Option Bs:=fieldB want (s.length+1) 0 s
theorem es_bytes (es:List (Fd × V)) (h:∀ e,e∈es->e.1.tag<=200):es.length<=((es.map tagged).map V.bytes).flatten.length:=by
 induction es with
 | nil=>exact Nat.zero_le _
 | cons e es ih =>
  have h1:=ih fun d hd=>h d (List.mem_cons_of_mem _ hd);have h2:=(cB e.1.tag (by have:=h e List.mem_cons_self;omega)).1;have h3:(tagged e).bytes=putN e.1.tag++(putN e.2.bytes.length++e.2.bytes):=jG _ _;rw[List.map_cons,List.map_cons,List.flatten_cons,List.length_append,h3,List.length_append,List.length_cons];omega
theorem part_law {x:Sc} {k:K} {s:Bs} {v:V} {g:Int} {f:Fd} (hv:valIn x k s=some v) (hf:cR x k g=some f) :
  (∃ y,fieldAt f.tag v.bytes=some y.bytes/\getV x v.kids f=y.print/\y.print≠aL x f/\valIn x f.kind y.print=some y)\/(fieldAt f.tag v.bytes=none/\getV x v.kids f=aL x f):=by
 obtain⟨nm,t,rfl,ht,h82,hz⟩:=rQ hf;obtain⟨h1,h2,h3⟩:=gD hv;obtain⟨es,hes,rfl⟩:=rI h1 ht h82;obtain⟨_,_,hff⟩:=rO hz;have hpl:∀ e,e∈es->e.2.print.length<=400:=fun e he=>Nat.le_trans (pY he) (by rw[<-h2];exact h3);have hb:(recV es).bytes=((es.map tagged).map V.bytes).flatten++[0]:=lC _;have hr:=a6Z f.tag es ((recV es).bytes.length+1) 0 (List.pairwise_cons.2 ⟨fun a ha=>by
   obtain⟨e,he,rfl⟩:=List.mem_map.1 ha;exact(hes.2 e he).1,hes.1⟩) (fun e he=>by
   obtain⟨_,_,c3,c4,_⟩:=hes.2 e he;have:=hM 11 _ _ c4 (by have:=hpl e he;omega);exact⟨c3,by have:=hpl e he;omega⟩) (by
   have:=es_bytes es fun e he=>(hes.2 e he).2.2.1;rw[hb,List.length_append];omega)
 rw[<-hb] at hr;have hg:getV x (recV es).kids f=getEs x es f:=rF x es f;unfold fieldAt;rw[hr,hg];unfold getEs;cases hfi:es.find? (fun e=>e.1.tag==f.tag) with
 | none=>exact .inr ⟨rfl,rfl⟩
 | some e =>
  left
  have he:=List.mem_of_find?_eq_some hfi;have htag:e.1.tag=f.tag:=by
   have:=List.find?_some hfi;simpa using this
  obtain⟨_,c2,_,c4,c5⟩:=hes.2 e he;rw[htag,hff] at c2;have hef:e.1=f:=(Option.some.inj c2).symm;rw[hef] at c4 c5;exact⟨e.2,rfl,rfl,c5,a1W c4 (by have:=(lJ 11 _ _ c4).2;omega) (hpl e he)⟩
end Wf

namespace Wf
end Wf

namespace Wf
theorem jF (x:Sc) (n:Nat) (s:Bs):parse x (n+1) .num s=(aO 999999 s).map fun y=>(.mk 110 (dec y.1) 0 [],y.2):=by simp only[parse]
theorem lO (x:Sc) (n:Nat) {s r q:Bs} (h1:s=39::r) (h2:r.dropWhile aF=39::q) (h3:(r.takeWhile aF).length<=12):parse x (n+1) .txt s=some (.mk 116 (r.takeWhile aF) 0 [],q):=by
 subst h1;simp only[parse,h2,h3,if_true]
theorem lU (x:Sc) (n:Nat) {s:Bs} (h:s.head? ≠ some 39):parse x (n+1) .txt s=none:=by
 simp only[parse];split
 ·simp at h
 ·rfl
theorem mP (x:Sc) (n:Nat) {s r:Bs} (h1:s=39::r) (h2:(r.dropWhile aF).head? ≠ some 39):parse x (n+1) .txt s=none:=by
 subst h1;simp only[parse];split
 ·rename_i q hq
  rw[hq] at h2;simp at h2
 ·rfl
theorem pP (x:Sc) (n:Nat) {s r:Bs} (h1:s=39::r) (h3:¬ (r.takeWhile aF).length<=12):parse x (n+1) .txt s=none:=by
 subst h1;simp only[parse,h3,if_false];split <;> rfl
theorem parse_list (x:Sc) (n:Nat) (k:K) (s:Bs):parse x (n+1) (.list k) s=match s with
  | 91::r=>(match r with
   | 93::q=>some (.mk 91 [] 0 [],q)
   | _=>match items (parse x n k) r with
    | none=>none
    | some (l,q)=>if l.length<=20 then some (.mk 91 [] 0 l,q) else none)
  | _=>none:=by
 simp only[parse,items];rfl
theorem parse_opt (x:Sc) (n:Nat) (k:K) (s:Bs):parse x (n+1) (.opt k) s=match s with
  | 45::q=>some (.mk 63 [] 0 [],q)
  | 43::r=>(parse x n k r).map fun y=>(.mk 63 [] 0 [y.1],y.2)
  | _=>none:=by
 simp only[parse];rfl
theorem dM (x:Sc) (n:Nat) (nm:Bs) (t:Ty) (h:x.find nm=some t) (s:Bs):parse x (n+1) (.ref nm) s=parseTy x (fun k' s'=>parse x n k' s') t s:=by
 simp only[parse];rw[h]
theorem parseTy_rec (x:Sc) (p:K->Reads) (t:Ty) (s:Bs) (h:t.sort=82):parseTy x p t s=match s with
  | 123::r=>(match r with
   | 125::q=>some (.mk 82 [] 0 [],q)
   | _=>(flds x t p 0 r).map fun y=>(.mk 82 [] 0 y.1,y.2))
  | _=>none:=by
 unfold parseTy flds;rw[if_neg (by rw[h];decide),if_neg (by rw[h];decide)];rfl
theorem parseTy_uni (x:Sc) (p:K->Reads) (t:Ty) (s:Bs) (h:t.sort=85):parseTy x p t s=match s with
  | 60::r=>(match fieldTok t p r with
   | some (f,v,rest)=>closeU f.tag v rest
   | none=>none)
  | _=>none:=by
 unfold parseTy;rw[if_neg (by rw[h];decide),if_pos h];rfl
theorem parseTy_enm (x:Sc) (p:K->Reads) (t:Ty) (s:Bs) (h:t.sort=69):parseTy x p t s=match s with
  | 35::r=>(match aO 200 r with
   | none=>none
   | some (tag,rest)=>if (t.field tag).isSome then some (.mk 69 [] tag [],rest) else none)
  | _=>none:=by
 unfold parseTy;rw[if_pos h];rfl
def Badv (s r:Bs) (v:V):Prop:=v.print.length+8*r.length<=8*s.length+8/\r.length<=s.length
theorem a0M:(V.mk 0 [] 0 []).print=[]:=by simp[V.print,form]
theorem a3F {s r:Bs} {m:Nat} (hm:m<=999999) (h:r.length<=s.length):Badv s r (.mk 110 (dec m) 0 []):=by
 refine⟨?_,h⟩;rw[fQ];have:=bW hm;omega
theorem a3H {s r t:Bs} (h:t.length+r.length<=s.length):Badv s r (.mk 116 t 0 []):=by
 refine⟨?_,by omega⟩;rw[eX];simp;omega
theorem a4R {s r t:Bs} (ht:t.length<=3) (h:r.length<=s.length):Badv s r (.mk 102 t 0 []):=by
 refine⟨?_,h⟩;rw[dL];omega
theorem uS {s r:Bs} {g:Nat} (hg:g<=999999) (h:r.length<=s.length):Badv s r (.mk 69 [] g []):=by
 refine⟨?_,h⟩;rw[eY];have:=bW hg;simp;omega
theorem a6L {s r q:Bs} {c:UInt8} {v:V} (hs:s=c::q) (h:Badv q r v):Badv s r (.mk 63 [] 0 [v]):=by
 obtain⟨h1,h2⟩:=h;subst hs;refine⟨?_,by simp;omega⟩;rw[dV];simp;omega
theorem yW {s:Bs}:Badv s s (.mk 63 [] 0 [.mk 0 [] 0 []]):=by
 refine⟨?_,Nat.le_refl _⟩;rw[dV,a0M];simp;omega
theorem a3P {s r:Bs} (h:r.length<=s.length):Badv s r (.mk 85 [] 0 []):=by
 refine⟨?_,h⟩;have:(V.mk 85 [] 0 []).print=[60,48,61,62]:=by
  simp[V.print,form,V.prints,commas];rw[dec_lt (by omega)];decide
 rw[this];simp;omega
def pl (l:List V):Nat:=(l.map V.print).flatten.length+l.length
theorem oK:pl []=0:=rfl
theorem gO (l:List V) (v:V):pl (l++[v])=pl l+v.print.length+1:=by
 unfold pl;simp;omega
theorem tY {l:List V} (h:l≠[]):(commas (l.map V.print)).length+1=pl l:=by
 rw[gP _ (by simpa using h),pl,List.length_map]
theorem mA {w:UInt8} (hw:w=91\/w=82) (l:List V):(V.mk w [] 0 l).print.length=(commas (l.map V.print)).length+2:=by
 rcases hw with rfl|rfl
 ·rw[dG];simp
 ·rw[cV];simp
theorem sT {w:UInt8} (hw:w=91\/w=82) {s s0 s1 r:Bs} {l:List V} {u:V} (h0:s.length=s0.length+1) (h1:pl l+s1.length=s0.length) (h:Badv s1 r u):Badv s r (.mk w [] 0 (l++[u])):=by
 obtain⟨h2,h3⟩:=h;refine⟨?_,by omega⟩;rw[mA hw];have:=tY (l:=l++[u]) (by simp);rw[gO] at this;omega
theorem lD {w:UInt8} (hw:w=91\/w=82) {s s0 r:Bs} {l:List V} (h0:s.length=s0.length+1) (hl:l≠[]) (h1:pl l+r.length<=s0.length+1):Badv s r (.mk w [] 0 l):=by
 have h2:=tY hl;have h3:1<=pl l:=by unfold pl;have:=List.length_pos_iff.2 hl;omega
 refine⟨?_,by omega⟩;rw[mA hw];omega
theorem mI {w:UInt8} (hw:w=91\/w=82) {s r:Bs} (h:r.length<=s.length):Badv s r (.mk w [] 0 []):=by
 refine⟨?_,h⟩;rw[mA hw];simp[commas];omega
theorem lH {s q r:Bs} {g:Nat} {u:V} (hg:g<=200) (hq:q.length+2<=s.length) (h:Badv q r u):Badv s r (.mk 61 [] g [u]):=by
 obtain⟨h1,h2⟩:=h;refine⟨?_,by omega⟩;rw[eJ];have:=dP g 2 (by omega);simp;omega
theorem sN {s q r:Bs} {c:UInt8} {g:Nat} {u:V} (hs:s=c::q) (h:Badv q r (.mk 61 [] g [u])):Badv s r (.mk 85 [] g [u]):=by
 obtain⟨h1,h2⟩:=h;subst hs;refine⟨?_,by simp;omega⟩;rw[eJ] at h1;rw[eK];simp at h1 ⊢;omega
end Wf

namespace Wf
theorem getN_len {s r:Bs} {n:Nat} (h:getN s=some (n,r)):n<=999999/\r.length+1<=s.length/\(dec n).length+2+5*r.length<=5*s.length:=by
 obtain⟨h1,rfl⟩:=oS h;refine⟨h1,?_,?_⟩
 ·have:=(cB n h1).1
  rw[List.length_append];omega
 ·rw[List.length_append]
  by_cases h2:n<128
  ·have:=dP n 2 (by have:(10:Nat)^3=1000:=rfl;omega)
   rw[bM h2];simp only[List.length_cons,List.length_nil];omega
  ·by_cases h3:n<16384
   ·have:=dP n 4 (by have:(10:Nat)^5=100000:=rfl;omega)
    rw[cH (by omega),bM (by omega)];simp only[List.length_cons,List.length_nil];omega
   ·have:=bW h1
    have:=(cB (n / 128 / 128) (by omega)).1;rw[cH (by omega),cH (by omega)];simp only[List.length_cons];omega
theorem takeN_len {s b r:Bs} (h:takeN s=some (b,r)):b.length+r.length+1<=s.length:=by
 obtain⟨h1,h2⟩:=vB h;have:=(cB b.length h2).1;rw[h1];simp only[List.length_append];omega
end Wf

namespace Wf
def fieldW (want:Int):Nat->Nat->Bs->Option Bs
 | 0,_,_=>none
 | m+1,last,s =>
  match getN s with
  | none=>none
  | some (tag,rest) =>
   match takeN rest with
   | none=>none
   | some (part,more)=>if tag<=last then none else if (tag:Int)=want then some part else fieldW want m tag more
theorem fieldW_nat (want:Nat):∀ (m last:Nat) (s:Bs),fieldW want m last s=fieldB want m last s:=by
 intro m;induction m with
 | zero=>intros;rfl
 | succ m ih =>
  intro last s;unfold fieldW fieldB;cases getN s with
  | none=>rfl
  | some y =>
   obtain⟨tag,rest⟩:=y;dsimp only;cases takeN rest with
   | none=>rfl
   | some z =>
    obtain⟨part,more⟩:=z;dsimp only;rw[ih];simp only[Int.natCast_inj]
def fieldF (s:Bs) (want:Int):Option Bs:=if s.length<=600 then fieldW want (s.length+1) 0 s else none
theorem fieldF_nat {s:Bs} (h:s.length<=600) (want:Nat):fieldF s want=fieldAt want s:=by
 unfold fieldF fieldAt;rw[if_pos h,fieldW_nat]
theorem fieldW_step {want:Int} {m last tag:Nat} {s rest:Bs} (h:getN s=some (tag,rest)):fieldW want (m+1) last s=match takeN rest with
  | none=>none
  | some (part,more)=>if tag<=last then none else if (tag:Int)=want then some part else fieldW want m tag more:=by
 conv=>lhs;unfold fieldW
 rw[h]
theorem fieldW_none {want:Int} {m last:Nat} {s:Bs} (h:getN s=none):fieldW want (m+1) last s=none:=by
 unfold fieldW;rw[h]
end Wf

namespace Wf
def bH (c:UInt8):Bool:=c != 39
theorem a5X {c:UInt8} (h:aF c=true):bH c=true:=by
 unfold bH;rw[bne_iff_ne];intro e;rw[e,iX] at h;cases h
theorem nR {p q:UInt8->Bool} (hpq:∀ c,p c=true->q c=true):∀ (b:Bs) (c:UInt8) (r:Bs),b.all p=true->q c=false->(b++c::r).takeWhile q=b/\(b++c::r).dropWhile q=c::r:=by
 intro b;induction b with
 | nil=>intro c r _ hc;simp[hc]
 | cons a b ih =>
  intro c r hb hc;simp only[List.all_cons,Bool.and_eq_true] at hb;obtain⟨h1,h2⟩:=ih c r hb.2 hc;simp[hpq a hb.1,h1,h2]
def cT (s:Bs):Nat:=min (1+(s.tail.takeWhile bH).length+1) s.length
theorem a2I (s:Bs):cT s<=s.length:=Nat.min_le_right _ _
theorem a2C (x:Sc) (n:Nat) (c0:UInt8) (r:Bs):parse x (n+1) .txt (c0::r)=if quoted ((c0::r).take (cT (c0::r)))=true then some (.mk 116 ((c0::r).take (cT (c0::r))).tail.dropLast 0 [],(c0::r).drop (cT (c0::r))) else none:=by
 have hsp:=List.takeWhile_append_dropWhile (p:=bH) (l:=r);cases hd:r.dropWhile bH with
 | nil =>
  rw[hd,List.append_nil] at hsp;have hno:(39:UInt8) ∉ r:=by
   intro hm;rw[<-hsp] at hm;have hall:(r.takeWhile bH).all bH=true:=List.all_takeWhile;have:=List.all_eq_true.1 hall 39 hm;simp[bH] at this
  have he:cT (c0::r)=(c0::r).length:=by
   unfold cT;rw[List.tail_cons,hsp];simp
  rw[he,List.take_length,if_neg]
  ·by_cases h0:c0=39
   ·subst h0
    refine mP x n rfl ?_;intro h;have hm:(39:UInt8)∈r.dropWhile aF:=List.mem_of_head? h;exact hno ((List.dropWhile_sublist _).subset hm)
   ·exact lU x n (by simpa using h0)
  ·intro hq
   obtain⟨b,hb,_,_⟩:=eU.1 hq;simp only[List.cons.injEq] at hb;exact hno (by rw[hb.2];simp)
 | cons d q =>
  have hd39:d=39:=by
   have:=List.head?_dropWhile_not (p:=bH) (l:=r);rw[hd] at this;simpa[bH] using this
  subst hd39;rw[hd] at hsp;obtain⟨b,hbdef⟩:∃ b,r.takeWhile bH=b:=⟨_,rfl⟩;rw[hbdef] at hsp;have he:cT (c0::r)=b.length+2:=by
   unfold cT;rw[List.tail_cons,hbdef,<-hsp];simp;omega
  have ht:(c0::r).take (b.length+2)=c0::(b++[39]):=by
   rw[<-hsp,List.take_succ_cons,List.take_append,List.take_of_length_le (by omega)];simp
  have hdr:(c0::r).drop (b.length+2)=q:=by
   rw[<-hsp,List.drop_succ_cons,List.drop_append,List.drop_of_length_le (by omega)];simp
  rw[he,ht,hdr];have htl:(c0::(b++[39])).tail.dropLast=b:=by simp
  rw[htl];have hb39:b.all bH=true:=by rw[<-hbdef];exact List.all_takeWhile
  by_cases h0:c0=39
  ·subst h0
   by_cases hall:b.all aF=true
   ·obtain⟨e1,e2⟩:=nR (p:=aF) (q:=aF) (fun _ h=>h) b 39 q hall iX
    rw[hsp] at e1 e2;by_cases hl:b.length<=12
    ·rw[if_pos (eU.2 ⟨b,rfl,hall,hl⟩),lO x n rfl e2 (by rw[e1];exact hl),e1]
    ·rw[if_neg,pP x n rfl (by rw[e1];exact hl)]
     intro hq;obtain⟨b',hb',_,h12⟩:=eU.1 hq;simp only[List.cons.injEq,true_and] at hb';have:=congrArg List.length hb';simp at this;omega
   ·rw[if_neg]
    ·refine mP x n rfl ?_
     intro h;cases hdd:r.dropWhile aF with
     | nil=>rw[hdd] at h;simp at h
     | cons d2 q2 =>
      rw[hdd] at h;simp only[List.head?_cons,Option.some.injEq] at h;subst h;have hs2:=List.takeWhile_append_dropWhile (p:=aF) (l:=r);rw[hdd] at hs2;have ha2:(r.takeWhile aF).all aF=true:=List.all_takeWhile;obtain⟨e1,_⟩:=nR (p:=aF) (q:=bH) (fun _ h=>a5X h) (r.takeWhile aF) 39 q2 ha2 (by decide);rw[hs2,hbdef] at e1;rw[e1] at hall;exact hall ha2
    ·intro hq
     obtain⟨b',hb',ha,_⟩:=eU.1 hq;simp only[List.cons.injEq,true_and] at hb';have:=List.append_inj_left' hb' rfl;rw[this] at hall;exact hall ha
  ·rw[if_neg,lU x n (by simpa using h0)]
   intro hq;obtain⟨b',hb',_,_⟩:=eU.1 hq;simp only[List.cons.injEq] at hb';exact h0 hb'.1
end Wf

namespace Wf
theorem uF (x:Sc) (n:Nat) (q:Bs):parse x (n+1) .flag (121::101::115::q)=some (.mk 102 [121,101,115] 0 [],q):=by simp only[parse]
theorem nX (x:Sc) (n:Nat) (q:Bs):parse x (n+1) .flag (110::111::q)=some (.mk 102 [110,111] 0 [],q):=by simp only[parse]
theorem rD (x:Sc) (n:Nat) {s:Bs} (h1:¬ [121,101,115] <+: s) (h2:¬ [110,111] <+: s):parse x (n+1) .flag s=none:=by
 simp only[parse];split
 ·rename_i q;exact absurd ⟨q,rfl⟩ h1
 ·rename_i q;exact absurd ⟨q,rfl⟩ h2
 ·rfl
theorem nH (x:Sc) (n:Nat) (k:K):parse x n k []=none:=by
 cases hp:parse x n k [] with
 | none=>rfl
 | some y=>have:=dX (v:=y.1) (r:=y.2) hp;simp at this
theorem a4M (x:Sc) (k:K) (s:Bs):parse x 0 k s=none:=rfl
def itemsL (p:Reads) (acc:List V) (s:Bs):Option (List V × Bs):=match items p s with
 | some (l,q)=>if acc.length+l.length<=20 then some (acc++l,q) else none
 | none=>none
theorem itemsL_step {p:Reads} (hp:∀ s v r,p s=some (v,r)->r.length<s.length) (acc:List V) (s:Bs):itemsL p acc s=match p s with
  | none=>none
  | some (v,rest) =>
   match rest with
   | 44::r=>itemsL p (acc++[v]) r
   | 93::r=>if acc.length+1<=20 then some (acc++[v],r) else none
   | _=>none:=by
 unfold itemsL;rw[items_step hp];cases hq:p s with
 | none=>rfl
 | some y =>
  obtain⟨v,rest⟩:=y;dsimp only;split
  ·rename_i l q hl
   split at hl
   ·rename_i r
    rw[Option.map_eq_some_iff] at hl;obtain⟨z,hz,hz2⟩:=hl;simp only[Prod.mk.injEq] at hz2;obtain⟨rfl,rfl⟩:=hz2;simp only[hz];simp only[List.length_cons,List.length_append,List.length_nil,List.append_assoc,List.cons_append,List.nil_append];by_cases h20:acc.length+(z.1.length+1)<=20
    ·rw[if_pos h20,if_pos (by omega)]
    ·rw[if_neg h20,if_neg (by omega)]
   ·simp only[Option.some.injEq,Prod.mk.injEq] at hl
    obtain⟨rfl,rfl⟩:=hl;rfl
   ·cases hl
  ·rename_i hl
   split at hl
   ·rename_i r
    rw[Option.map_eq_none_iff] at hl;simp only[hl]
   ·cases hl
   ·rename_i h1 h2
    first
    |rfl
    |(split;exact(h1 _ rfl).elim;exact(h2 _ rfl).elim;rfl)
theorem wC {p:Reads} (hp:∀ s v r,p s=some (v,r)->r.length<s.length) {acc:List V} (h:20<=acc.length) (s:Bs):itemsL p acc s=none:=by
 unfold itemsL;cases hi:items p s with
 | none=>rfl
 | some y =>
  have:=List.length_pos_iff.2 (a2X hp (l:=y.1) (q:=y.2) hi);dsimp only;rw[if_neg (by omega)]
theorem xA {p:Reads} (s:Bs):itemsL p [] s=match items p s with
  | none=>none
  | some (l,q)=>if l.length<=20 then some (l,q) else none:=by
 unfold itemsL;cases items p s with
 | none=>rfl
 | some y=>simp
theorem rH (x:Sc) (n:Nat) (k:K) {s:Bs} (h:s.head? ≠ some 91):parse x (n+1) (.list k) s=none:=by
 rw[parse_list];split
 ·simp at h
 ·rfl
theorem qF (x:Sc) (n:Nat) (k:K) (q:Bs):parse x (n+1) (.list k) (91::93::q)=some (.mk 91 [] 0 [],q):=by simp only[parse_list]
theorem tG (x:Sc) (n:Nat) (k:K) {r:Bs} (h:r.head? ≠ some 93):parse x (n+1) (.list k) (91::r)=(itemsL (parse x n k) [] r).map fun y=>(.mk 91 [] 0 y.1,y.2):=by
 simp only[parse_list];split
 ·simp at h
 ·rw[xA]
  cases items (parse x n k) r with
  | none=>rfl
  | some y=>simp only[];split <;> rfl
theorem qI (x:Sc) (n:Nat) (k:K) (q:Bs):parse x (n+1) (.opt k) (45::q)=some (.mk 63 [] 0 [],q):=by simp only[parse_opt]
theorem qN (x:Sc) (n:Nat) (k:K) (r:Bs):parse x (n+1) (.opt k) (43::r)=(parse x n k r).map fun y=>(.mk 63 [] 0 [y.1],y.2):=by simp only[parse_opt]
theorem tN (x:Sc) (n:Nat) (k:K) {s:Bs} (h1:s.head? ≠ some 45) (h2:s.head? ≠ some 43):parse x (n+1) (.opt k) s=none:=by
 rw[parse_opt];split
 ·simp at h1
 ·simp at h2
 ·rfl
def bY (x:Sc) (t:Ty) (p:K->Reads) (acc:List V) (last:Nat) (s:Bs):Option (List V × Bs):=(flds x t p last s).map fun y=>(acc++y.1,y.2)
theorem fldsL_step {x:Sc} {t:Ty} {p:K->Reads} (hp:∀ k s v r,p k s=some (v,r)->r.length<s.length) (acc:List V) (last:Nat) (s:Bs):bY x t p acc last s=match fieldTok t p s with
  | none=>none
  | some (f,v,rest) =>
   if f.tag<=last\/v.print=aL x f then none else
   match rest with
   | 44::r=>bY x t p (acc++[.mk 61 [] f.tag [v]]) f.tag r
   | 125::r=>some (acc++[.mk 61 [] f.tag [v]],r)
   | _=>none:=by
 unfold bY;rw[flds_step hp];cases hq:fieldTok t p s with
 | none=>rfl
 | some y =>
  obtain⟨f,v,rest⟩:=y;dsimp only;split
  ·rfl
  ·split
   ·rw[Option.map_map]
    congr 1
    funext y
    simp
   ·rfl
   ·rename_i h1 h2
    first
    |rfl
    |(split;exact(h1 _ rfl).elim;exact(h2 _ rfl).elim;rfl)
theorem rV (x:Sc) (n:Nat) {nm:Bs} {t:Ty} (h:x.find nm=some t) (h82:t.sort=82) {s:Bs} (hs:s.head? ≠ some 123):parse x (n+1) (.ref nm) s=none:=by
 rw[dM x n nm t h,parseTy_rec _ _ _ _ h82];split
 ·simp at hs
 ·rfl
theorem tB (x:Sc) (n:Nat) {nm:Bs} {t:Ty} (h:x.find nm=some t) (h82:t.sort=82) (q:Bs):parse x (n+1) (.ref nm) (123::125::q)=some (.mk 82 [] 0 [],q):=by
 simp only[dM x n nm t h,parseTy_rec _ _ _ _ h82]
theorem nP (x:Sc) (n:Nat) {nm:Bs} {t:Ty} (h:x.find nm=some t) (h82:t.sort=82) {r:Bs} (hr:r.head? ≠ some 125):parse x (n+1) (.ref nm) (123::r)=(bY x t (fun k' s'=>parse x n k' s') [] 0 r).map fun y=>(.mk 82 [] 0 y.1,y.2):=by
 simp only[dM x n nm t h,parseTy_rec _ _ _ _ h82];split
 ·simp at hr
 ·unfold bY
  rw[Option.map_map];congr 1
theorem pC (x:Sc) (n:Nat) {nm:Bs} {t:Ty} (h:x.find nm=some t) (h85:t.sort=85) {s:Bs} (hs:s.head? ≠ some 60):parse x (n+1) (.ref nm) s=none:=by
 rw[dM x n nm t h,parseTy_uni _ _ _ _ h85];split
 ·simp at hs
 ·rfl
theorem tO (x:Sc) (n:Nat) {nm:Bs} {t:Ty} (h:x.find nm=some t) (h85:t.sort=85) {r q:Bs} {f:Fd} {v:V} (hf:fieldTok t (fun k' s'=>parse x n k' s') r=some (f,v,62::q)):parse x (n+1) (.ref nm) (60::r)=some (.mk 85 [] f.tag [v],q):=by
 simp only[dM x n nm t h,parseTy_uni _ _ _ _ h85,hf];rfl
theorem nQ (x:Sc) (n:Nat) {nm:Bs} {t:Ty} (h:x.find nm=some t) (h85:t.sort=85) {r q:Bs} {f:Fd} {v:V} (hf:fieldTok t (fun k' s'=>parse x n k' s') r=some (f,v,q)) (hq:q.head? ≠ some 62):parse x (n+1) (.ref nm) (60::r)=none:=by
 simp only[dM x n nm t h,parseTy_uni _ _ _ _ h85,hf];unfold closeU;split
 ·simp at hq
 ·rfl
theorem lM (x:Sc) (n:Nat) {nm:Bs} {t:Ty} (h:x.find nm=some t) (h85:t.sort=85) {r:Bs} (hf:fieldTok t (fun k' s'=>parse x n k' s') r=none):parse x (n+1) (.ref nm) (60::r)=none:=by
 simp only[dM x n nm t h,parseTy_uni _ _ _ _ h85,hf]
theorem sE (x:Sc) (n:Nat) {nm:Bs} {t:Ty} (h:x.find nm=some t) (h69:t.sort=69) {s:Bs} (hs:s.head? ≠ some 35):parse x (n+1) (.ref nm) s=none:=by
 rw[dM x n nm t h,parseTy_enm _ _ _ _ h69];split
 ·simp at hs
 ·rfl
theorem oU (x:Sc) (n:Nat) {nm:Bs} {t:Ty} (h:x.find nm=some t) (h69:t.sort=69) {r:Bs} (hr:aO 200 r=none):parse x (n+1) (.ref nm) (35::r)=none:=by
 simp only[dM x n nm t h,parseTy_enm _ _ _ _ h69,hr]
theorem kB (x:Sc) (n:Nat) {nm:Bs} {t:Ty} (h:x.find nm=some t) (h69:t.sort=69) {r q:Bs} {g:Nat} (hr:aO 200 r=some (g,q)):parse x (n+1) (.ref nm) (35::r)=if (t.field g).isSome then some (.mk 69 [] g [],q) else none:=by
 simp only[dM x n nm t h,parseTy_enm _ _ _ _ h69,hr]
theorem mU (t:Ty) (p:K->Reads) {s:Bs} (h:aO 200 s=none):fieldTok t p s=none:=by
 unfold fieldTok;rw[h]
theorem qK (t:Ty) (p:K->Reads) {s r:Bs} {g:Nat} (h:aO 200 s=some (g,r)) (hr:r.head? ≠ some 61):fieldTok t p s=none:=by
 unfold fieldTok;rw[h];dsimp only;split
 ·simp at hr
 ·rfl
theorem nU (t:Ty) (p:K->Reads) {s r:Bs} {g:Nat} (h:aO 200 s=some (g,r)) (hf:t.field g=none):fieldTok t p s=none:=by
 unfold fieldTok;simp only[h,hf]
theorem nO (t:Ty) (p:K->Reads) {s r:Bs} {g:Nat} {f:Fd} (h:aO 200 s=some (g,61::r)) (hf:t.field g=some f):fieldTok t p s=(p f.kind r).map fun y=>(f,y.1,y.2):=by
 unfold fieldTok;simp only[h,hf]
end Wf

namespace Wf
theorem pD {l m:List Bs} (h:l≠[]) (hm:m≠[]):commas (l++m)=commas l++44::commas m:=by
 induction l with
 | nil=>exact absurd rfl h
 | cons a l ih =>
  cases l with
  | nil =>
   rw[List.singleton_append,dY a hm];rfl
  | cons b l =>
   rw[List.cons_append,dY a (by simp),ih (by simp),dY a (by simp)];simp
theorem a4K {l:List Bs} (h:l≠[]) (a:Bs):commas (l++[a])=commas l++44::a:=by
 rw[pD h (by simp)];rfl
theorem pL {l:List Bs} (i:Nat):(commas (l.take i)).length<=(commas l).length:=by
 by_cases h1:l.take i=[]
 ·rw[h1];simp[commas]
 ·by_cases h2:l.drop i=[]
  ·have:l.take i=l:=by
    have:=List.take_append_drop i l;rw[h2,List.append_nil] at this;exact this
   rw[this];exact Nat.le_refl _
  ·have:=congrArg (fun m=>(commas m).length) (List.take_append_drop i l)
   simp only[pD h1 h2,List.length_append,List.length_cons] at this;omega
theorem oM {l:List Bs} {i:Nat} (h:i<l.length):commas (l.take (i+1))=if i=0 then l[i] else commas (l.take i)++44::l[i]:=by
 have e:l.take (i+1)=l.take i++[l[i]]:=by rw[List.take_add_one,List.getElem?_eq_getElem h];rfl
 rw[e];by_cases h0:i=0
 ·subst h0
  simp[commas]
 ·rw[if_neg h0,a4K]
  intro hn;rw[List.take_eq_nil_iff] at hn;rcases hn with hn|hn
  ·exact h0 hn
  ·rw[hn] at h;simp at h
theorem sL {x:Sc} {n:Nat} {k:K} {v:V} (h:Typed x n k v):v.what≠61:=by
 cases n with
 | zero=>exact h.elim
 | succ n =>
  cases k with
  | num=>obtain⟨m,_,rfl⟩:=h;simp[V.what]
  | txt=>obtain⟨b,_,_,rfl⟩:=h;simp[V.what]
  | flag=>rcases h with rfl|rfl <;> simp[V.what]
  | list k=>obtain⟨l,_,_,rfl⟩:=h;simp[V.what]
  | opt k=>rcases h with rfl|⟨u,_,rfl⟩ <;> simp[V.what]
  | ref nm =>
   obtain⟨t,_,h⟩:=h;rcases h with⟨_,f,_,_,rfl⟩|⟨_,_,f,u,_,_,_,rfl⟩|⟨_,_,l,_,_,rfl⟩ <;> simp[V.what]
end Wf

namespace Wf
end Wf

namespace Wf
def putL (o:Option (Fd × V)) (g:Int):Bool->List (Fd × V)->List (Fd × V)
 | done,[]=>if done then [] else o.toList
 | done,e::es=>(if done=false/\g<=(e.1.tag:Int) then o.toList else [])++(if (e.1.tag:Int)≠g then [e] else [])++putL o g (done || decide (g<=(e.1.tag:Int))) es
def psum (l:List Bs):Nat:=(l.map fun a=>a.length+1).sum
theorem qO:∀ (l:List Bs),(commas l).length<=psum l/\psum l<=(commas l).length+1:=by
 intro l;induction l with
 | nil=>exact⟨Nat.le_refl _,Nat.le_succ _⟩
 | cons b l ih =>
  have h:psum (b::l)=b.length+1+psum l:=by unfold psum;rw[List.map_cons,List.sum_cons]
  cases l with
  | nil=>rw[h];simp[commas,psum]
  | cons c l =>
   rw[h];simp only[commas,List.length_append,List.length_cons];omega
end Wf
