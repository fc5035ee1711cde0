/- Packed. -/
import Derived.Test.YtidjpalnmnehmaaGreatDoorK1
set_option maxRecDepth 99999
set_option maxHeartbeats 40000000
set_option linter.all false
namespace Wf
def mapTys:List Bs->Option (List Ty)
 | []=>some []
 | s::l =>
  match lineTy s with
  | none=>none
  | some t=>(mapTys l).map (t :: ·)
def dF (x:List Ty):Bool:=decide ((x.map (·.name)).Pairwise (· ≠ ·))
theorem addTys_eq:∀ (l:List Bs) (acc:List Ty),acc.length<=8->(acc.map (·.name)).Pairwise (· ≠ ·) ->
  addTys acc l=if acc.length+l.length<=8 then (match mapTys l with|none=>none|some r=>if dF (acc++r)=true then some (acc++r) else none) else none:=by
 intro l;induction l with
 | nil=>intro acc h hn;simp[addTys,mapTys,h,dF,hn]
 | cons s l ih =>
  intro acc h hn;simp only[addTys,mapTys,zaF];by_cases h8:acc.length=8
  ·rw[if_pos h8,if_neg (by omega)]
  ·rw[if_neg h8]
   cases ht:lineTy s with
   | none=>simp
   | some t =>
    simp only;by_cases ha:acc.any (fun u=>u.name==t.name)=true
    ·rw[if_pos ha]
     simp only[List.any_eq_true,beq_iff_eq] at ha;obtain⟨u,hu,hut⟩:=ha;split
     ·cases mapTys l with
      | none=>rfl
      | some r =>
       simp only[zaL];rw[if_neg];simp only[dF,decide_eq_true_eq,List.map_append,zaX];intro hp;exact(List.pairwise_append.1 hp).2.2 u.name (List.mem_map.2 ⟨u,hu,rfl⟩) t.name (by simp) hut
     ·rfl
    ·rw[if_neg ha]
     simp only[List.any_eq_true,beq_iff_eq,not_exists,not_and] at ha;rw[ih (acc++[t]) (by simp;omega) (by
      rw[List.map_append];refine List.pairwise_append.2 ⟨hn,by simp,?_⟩;intro a hx b hb;obtain⟨g,hg,rfl⟩:=List.mem_map.1 hx;simp only[zaX,List.map_nil,List.mem_singleton] at hb;subst hb;exact ha g hg)]
     simp only[zaD,zaF,zaM];by_cases hl:acc.length+(l.length+1)<=8
     ·rw[if_pos (by omega),if_pos hl]
      cases mapTys l with
      | none=>rfl
      | some r=>simp
     ·rw[if_neg (by omega),if_neg hl]
def jN (s:Bs):Option Sc :=
 if 400<s.length\/9<(cutAt 10 s).length\/(cutAt 10 s).getLast? ≠ some [] then none else
 match mapTys (cutAt 10 s).dropLast with
 | none=>none
 | some x=>if dF x=true/\cC x=true/\x.all (endsIn x (x.length+1))=true then some x else none
theorem tL (s:Bs):jN s=schemaOf s:=by
 unfold jN schemaOf;by_cases h1:400<s.length
 ·simp[h1]
 ·by_cases h2:(cutAt 10 s).getLast? ≠ some []
  ·simp[h1,h2]
  ·have hlen:=List.length_pos_iff.2 (cD 10 s)
   have hdl:(cutAt 10 s).dropLast.length=(cutAt 10 s).length-1:=(by simp);rw[addTys_eq _ _ (by simp) (by simp)];simp only[h1,h2,if_false,or_false,false_or,zaM,Nat.zero_add,List.nil_append];by_cases h3:9<(cutAt 10 s).length
   ·rw[if_pos h3,if_neg (by omega)]
   ·rw[if_neg h3,if_pos (by omega)]
    cases hm:mapTys (cutAt 10 s).dropLast with
    | none=>rfl
    | some x =>
     have hxl:x.length<=8:=by
      have:∀ (l:List Bs) (r:List Ty),mapTys l=some r->r.length=l.length:=by
       intro l;induction l with
       | nil=>intro r h;simp[mapTys] at h;subst h;rfl
       | cons a l ih =>
        intro r h;simp only[mapTys] at h;split at h
        ·simp at h
        ·cases hr:mapTys l with
         | none=>rw[hr] at h;simp at h
         | some r'=>rw[hr] at h;simp at h;subst h;simp[ih r' hr]
      have:=this _ _ hm;omega
     simp only;by_cases hn:dF x=true
     ·simp only[hn,true_and,if_true]
      have he:x.all (endsIn x (x.length+1))=x.all (endsIn x 9):=by
       rw[Bool.eq_iff_iff,List.all_eq_true,List.all_eq_true];constructor
       ·intro h t ht;exact gS _ _ (h t ht) _ (by omega)
       ·intro h t ht;exact gS _ _ (oA ht (h t ht)) _ (by omega)
      rw[he]
     ·simp[hn]
end Wf

namespace Wf
theorem mP {x:Sc} {nm:Bs} (h:aL x (.ref nm)=true):∃ t,x.find nm=some t:=by
 simp only[aL,K.base,K.name,ne_eq,not_true_eq_false,decide_false,Bool.false_or] at h;exact Option.isSome_iff_exists.1 h
theorem eH {x:Sc} (hx:ScOk x):jI x:=by
 intro nm t ht g f hf;obtain⟨h1,_⟩:=dT hf;have:=((hx.tys t (cE ht).1).fds f h1);exact⟨this.tag1,this.tag2⟩
end Wf

namespace Wf
theorem dN {x:Sc} {n:Nat} {k:K} {s r:Bs} {v:V} (h:parse x n k s=some (v,r)):r.length<s.length:=by
 obtain⟨ht,hs⟩:=dW n k s v r h;obtain⟨c,t,hc,_⟩:=kW ht;rw[hs,hc];simp;omega
theorem rV {p:Reads} (hp:∀ s v r,p s=some (v,r)->r.length<s.length):∀ (m m':Nat) (s:Bs),s.length<=m->s.length<=m'->itemsW p m s=itemsW p m' s:=by
 intro m;induction m with
 | zero =>
  intro m' s h1 h2;cases m' with
  | zero=>rfl
  | succ m' =>
   have hs:s=[]:=List.eq_nil_of_length_eq_zero (by omega);subst hs;simp only[itemsW];cases hq:p [] with
   | none=>rfl
   | some y=>have:=hp [] y.1 y.2 hq;simp at this
 | succ m ih =>
  intro m' s h1 h2;cases m' with
  | zero =>
   have hs:s=[]:=List.eq_nil_of_length_eq_zero (by omega);subst hs;simp only[itemsW];cases hq:p [] with
   | none=>rfl
   | some y=>have:=hp [] y.1 y.2 hq;simp at this
  | succ m' =>
   simp only[itemsW];cases hq:p s with
   | none=>rfl
   | some y =>
    obtain⟨v,rest⟩:=y;have hlt:=hp s v rest hq;dsimp only;split
    ·rename_i r
     simp only[zaF] at hlt;rw[ih m' r (by omega) (by omega)]
    ·rfl
    ·rfl
def items (p:Reads) (s:Bs):Option (List V × Bs):=itemsW p s.length s
theorem items_step {p:Reads} (hp:∀ s v r,p s=some (v,r)->r.length<s.length) (s:Bs):items p s=match p s with
  | none=>none
  | some (v,rest) =>
   match rest with
   | 44::r=>(items p r).map fun x=>(v::x.1,x.2)
   | 93::r=>some ([v],r)
   | _=>none:=by
 unfold items;rw[rV hp s.length (s.length+1) s (zaA) (by omega)];simp only[itemsW];cases hq:p s with
 | none=>rfl
 | some y =>
  obtain⟨v,rest⟩:=y;have hlt:=hp s v rest hq;dsimp only;split
  ·rename_i r
   simp only[zaF] at hlt;rw[rV hp s.length r.length r (by omega) (zaA)];rfl
  ·rfl
  ·rename_i h1 h2
   split
   ·exact(h1 _ rfl).elim
   ·exact(h2 _ rfl).elim
   ·rfl
theorem sZ {p:Reads} (hp:∀ s v r,p s=some (v,r)->r.length<s.length) {s:Bs} {l:List V} {q:Bs} (h:items p s=some (l,q)):l≠[]:=by
 rw[items_step hp] at h;split at h
 ·cases h
 ·split at h
  ·rw[Option.map_eq_some_iff] at h
   obtain⟨y,_,hy⟩:=h;simp only[zaK] at hy;rw[<-hy.1];simp
  ·simp only[zaE,zaK] at h
   rw[<-h.1];simp
  ·cases h
theorem gU {most n:Nat} {s r:Bs} (h:aO most s=some (n,r)):r.length<s.length:=by
 obtain⟨m,h1,h2⟩:=Option.map_eq_some_iff.1 h;simp only[zaK] at h2;have hne:s.takeWhile aD≠[]:=by
  intro e;rw[e] at h1;simp[aI] at h1
 have:=congrArg List.length (List.takeWhile_append_dropWhile (p:=aD) (l:=s));rw[zaD] at this;have h3:=List.length_pos_iff.2 hne;rw[<-h2.2];omega
theorem iY {t:Ty} {p:K->Reads} (hp:∀ k s v r,p k s=some (v,r)->r.length<s.length) {s r:Bs} {f:Fd} {v:V} (h:fieldTok t p s=some (f,v,r)):r.length+2<s.length:=by
 unfold fieldTok at h;cases hn:aO 200 s with
 | none=>rw[hn] at h;cases h
 | some y =>
  obtain⟨tag,rest⟩:=y;have h1:=gU hn;rw[hn] at h;dsimp only at h;split at h
  ·rename_i q f' hf
   simp only[zaF] at h1;obtain⟨y,hy,h2⟩:=Option.map_eq_some_iff.1 h;simp only[zaK] at h2;have:=hp _ _ _ _ hy;rw[<-h2.2.2];omega
  ·cases h
theorem nT {x:Sc} {t:Ty} {p:K->Reads} (hp:∀ k s v r,p k s=some (v,r)->r.length<s.length):∀ (m m' last:Nat) (s:Bs),s.length<=m->s.length<=m'->fieldsW x t p m last s=fieldsW x t p m' last s:=by
 intro m;induction m with
 | zero =>
  intro m' last s h1 h2;cases m' with
  | zero=>rfl
  | succ m' =>
   have hs:s=[]:=List.eq_nil_of_length_eq_zero (by omega);subst hs;simp only[fieldsW];cases hq:fieldTok t p [] with
   | none=>rfl
   | some y=>have:=iY hp hq;simp at this
 | succ m ih =>
  intro m' last s h1 h2;cases m' with
  | zero =>
   have hs:s=[]:=List.eq_nil_of_length_eq_zero (by omega);subst hs;simp only[fieldsW];cases hq:fieldTok t p [] with
   | none=>rfl
   | some y=>have:=iY hp hq;simp at this
  | succ m' =>
   simp only[fieldsW];cases hq:fieldTok t p s with
   | none=>rfl
   | some y =>
    obtain⟨f,v,rest⟩:=y;have hlt:=iY hp hq;dsimp only;split
    ·rfl
    ·split
     ·rename_i r
      simp only[zaF] at hlt;rw[ih m' _ r (by omega) (by omega)]
     ·rfl
     ·rfl
def flds (x:Sc) (t:Ty) (p:K->Reads) (last:Nat) (s:Bs):Option (List V × Bs):=fieldsW x t p s.length last s
theorem flds_step {x:Sc} {t:Ty} {p:K->Reads} (hp:∀ k s v r,p k s=some (v,r)->r.length<s.length) (last:Nat) (s:Bs):flds x t p last s=match fieldTok t p s with
  | none=>none
  | some (f,v,rest) =>
   if f.tag<=last\/v.print=aK x f then none else
   match rest with
   | 44::r=>(flds x t p f.tag r).map fun y=>(.mk 61 [] f.tag [v]::y.1,y.2)
   | 125::r=>some ([.mk 61 [] f.tag [v]],r)
   | _=>none:=by
 unfold flds;rw[nT hp s.length (s.length+1) last s (zaA) (by omega)];simp only[fieldsW];cases hq:fieldTok t p s with
 | none=>rfl
 | some y =>
  obtain⟨f,v,rest⟩:=y;have hlt:=iY hp hq;dsimp only;split
  ·rfl
  ·split
   ·rename_i r
    simp only[zaF] at hlt;rw[nT hp s.length r.length _ r (by omega) (zaA)];rfl
   ·rfl
   ·rename_i h1 h2
    split
    ·exact(h1 _ rfl).elim
    ·exact(h2 _ rfl).elim
    ·rfl
def valIn (x:Sc) (k:K) (s:Bs):Option V:=if s.length<=400 then (match parse x 12 k s with|some (v,[])=>some v|_=>none) else none
theorem jW {x:Sc} {k:K} {s:Bs} (h:¬ s.length<=400):valIn x k s=none:=by rw[valIn,if_neg h]
theorem yR {x:Sc} {k:K} {s:Bs} (h:s.length<=400):valIn x k s=match parse x 401 k s with
  | some (v,r)=>if r=[]/\v.deep<=12 then some v else none
  | none=>none:=by
 rw[valIn,if_pos h,uY 12 401 (by omega) k s];cases parse x 401 k s with
 | none=>rfl
 | some y =>
  obtain⟨v,r⟩:=y;by_cases hd:v.deep<=12
  ·simp only[zaP,hd,decide_true,if_true]
   cases r <;> simp
  ·simp only[zaP,hd,decide_false]
   simp
theorem kA {x:Sc} {k:K} {s:Bs} {v:V} (h:valIn x k s=some v):Typed x 12 k v/\s=v.print/\s.length<=400:=by
 unfold valIn at h;split at h
 ·rename_i hs
  split at h
  ·rename_i v' hp
   cases h;obtain⟨h1,h2⟩:=dW _ _ _ _ _ hp;exact⟨h1,by simpa using h2,hs⟩
  ·cases h
 ·cases h
theorem pJ {x:Sc} {n:Nat} {k:K} {v:V} (h:Typed x n k v) (hd:v.deep<=12) (hs:v.print.length<=400):valIn x k v.print=some v:=by
 have h12:=mZ n k v h 12 hd;have:=uK 12 k v [] h12 (by intro c hc;simp at hc);rw[List.append_nil] at this;rw[valIn,if_pos hs,this]
end Wf

namespace Wf
theorem iK (x:Sc) (n:Nat) (s:Bs):parse x (n+1) .num s=(aO 999999 s).map fun y=>(.mk 110 (dec y.1) 0 [],y.2):=by simp only[parse]
theorem kH (x:Sc) (n:Nat) {s r q:Bs} (h1:s=39::r) (h2:r.dropWhile aG=39::q) (h3:(r.takeWhile aG).length<=12):parse x (n+1) .txt s=some (.mk 116 (r.takeWhile aG) 0 [],q):=by
 subst h1;simp only[parse,h2,h3,if_true]
theorem lH (x:Sc) (n:Nat) {s:Bs} (h:s.head? ≠ some 39):parse x (n+1) .txt s=none:=by
 simp only[parse];split
 ·simp at h
 ·rfl
theorem kL (x:Sc) (n:Nat) {s r:Bs} (h1:s=39::r) (h2:(r.dropWhile aG).head? ≠ some 39):parse x (n+1) .txt s=none:=by
 subst h1;simp only[parse];split
 ·rename_i q hq
  rw[hq] at h2;simp at h2
 ·rfl
theorem oF (x:Sc) (n:Nat) {s r:Bs} (h1:s=39::r) (h3:¬ (r.takeWhile aG).length<=12):parse x (n+1) .txt s=none:=by
 subst h1;simp only[parse,h3,if_false];split <;> rfl
theorem parse_list (x:Sc) (n:Nat) (k:K) (s:Bs):parse x (n+1) (.list k) s=match s with
  | 91::r=>(match r with
   | 93::q=>some (.mk 91 [] 0 [],q)
   | _=>match items (parse x n k) r with
    | none=>none
    | some (l,q)=>if l.length<=20 then some (.mk 91 [] 0 l,q) else none)
  | _=>none:=by
 simp only[parse,items];rfl
theorem parse_opt (x:Sc) (n:Nat) (k:K) (s:Bs):parse x (n+1) (.opt k) s=match s with
  | 45::q=>some (.mk 63 [] 0 [],q)
  | 43::r=>(parse x n k r).map fun y=>(.mk 63 [] 0 [y.1],y.2)
  | _=>none:=by
 simp only[parse];rfl
theorem dH (x:Sc) (n:Nat) (nm:Bs) (t:Ty) (h:x.find nm=some t) (s:Bs):parse x (n+1) (.ref nm) s=parseTy x (fun k' s'=>parse x n k' s') t s:=by
 simp only[parse];rw[h]
theorem parseTy_rec (x:Sc) (p:K->Reads) (t:Ty) (s:Bs) (h:t.sort=82):parseTy x p t s=match s with
  | 123::r=>(match r with
   | 125::q=>some (.mk 82 [] 0 [],q)
   | _=>(flds x t p 0 r).map fun y=>(.mk 82 [] 0 y.1,y.2))
  | _=>none:=by
 unfold parseTy flds;rw[if_neg (by rw[h];decide),if_neg (by rw[h];decide)];rfl
theorem parseTy_uni (x:Sc) (p:K->Reads) (t:Ty) (s:Bs) (h:t.sort=85):parseTy x p t s=match s with
  | 60::r=>(match fieldTok t p r with
   | some (f,v,rest)=>closeU f.tag v rest
   | none=>none)
  | _=>none:=by
 unfold parseTy;rw[if_neg (by rw[h];decide),if_pos h];rfl
theorem parseTy_enm (x:Sc) (p:K->Reads) (t:Ty) (s:Bs) (h:t.sort=69):parseTy x p t s=match s with
  | 35::r=>(match aO 200 r with
   | none=>none
   | some (tag,rest)=>if (t.field tag).isSome then some (.mk 69 [] tag [],rest) else none)
  | _=>none:=by
 unfold parseTy;rw[if_pos h];rfl
def Badv (s r:Bs) (v:V):Prop:=v.print.length+8*r.length<=8*s.length+8/\r.length<=s.length
theorem sW:(V.mk 0 [] 0 []).print=[]:=by simp[V.print,form]
theorem tG {s r:Bs} {m:Nat} (hm:m<=999999) (h:r.length<=s.length):Badv s r (.mk 110 (dec m) 0 []):=by
 refine⟨?_,h⟩;rw[eR];have:=cA hm;omega
theorem a3H {s r t:Bs} (h:t.length+r.length<=s.length):Badv s r (.mk 116 t 0 []):=by
 refine⟨?_,by omega⟩;rw[eU];simp;omega
theorem a2O {s r t:Bs} (ht:t.length<=3) (h:r.length<=s.length):Badv s r (.mk 102 t 0 []):=by
 refine⟨?_,h⟩;rw[cU];omega
theorem wH {s r:Bs} {g:Nat} (hg:g<=999999) (h:r.length<=s.length):Badv s r (.mk 69 [] g []):=by
 refine⟨?_,h⟩;rw[eX];have:=cA hg;simp;omega
theorem vK {s r q:Bs} {c:UInt8} {v:V} (hs:s=c::q) (h:Badv q r v):Badv s r (.mk 63 [] 0 [v]):=by
 obtain⟨h1,h2⟩:=h;subst hs;refine⟨?_,by simp;omega⟩;rw[dE];simp;omega
theorem vA {s:Bs}:Badv s s (.mk 63 [] 0 [.mk 0 [] 0 []]):=by
 refine⟨?_,zaA⟩;rw[dE,sW];simp;omega
theorem yX {s r:Bs} (h:r.length<=s.length):Badv s r (.mk 85 [] 0 []):=by
 refine⟨?_,h⟩;have:(V.mk 85 [] 0 []).print=[60,48,61,62]:=by
  simp[V.print,form,V.prints,commas];rw[dec_lt (by omega)];decide
 rw[this];simp;omega
def pl (l:List V):Nat:=(l.map V.print).flatten.length+l.length
theorem iF:pl []=0:=rfl
theorem gF (l:List V) (v:V):pl (l++[v])=pl l+v.print.length+1:=by
 unfold pl;simp;omega
theorem jQ {l:List V} (h:l≠[]):(commas (l.map V.print)).length+1=pl l:=by
 rw[fY _ (by simpa using h),pl,zaG]
theorem jE {w:UInt8} (hw:w=91\/w=82) (l:List V):(V.mk w [] 0 l).print.length=(commas (l.map V.print)).length+2:=by
 rcases hw with rfl|rfl
 ·rw[dK];simp
 ·rw[dS];simp
theorem nL {w:UInt8} (hw:w=91\/w=82) {s s0 s1 r:Bs} {l:List V} {u:V} (h0:s.length=s0.length+1) (h1:pl l+s1.length=s0.length) (h:Badv s1 r u):Badv s r (.mk w [] 0 (l++[u])):=by
 obtain⟨h2,h3⟩:=h;refine⟨?_,by omega⟩;rw[jE hw];have:=jQ (l:=l++[u]) (by simp);rw[gF] at this;omega
theorem mD {w:UInt8} (hw:w=91\/w=82) {s s0 r:Bs} {l:List V} (h0:s.length=s0.length+1) (hl:l≠[]) (h1:pl l+r.length<=s0.length+1):Badv s r (.mk w [] 0 l):=by
 have h2:=jQ hl;have h3:1<=pl l:=by unfold pl;have:=List.length_pos_iff.2 hl;omega
 refine⟨?_,by omega⟩;rw[jE hw];omega
theorem lJ {w:UInt8} (hw:w=91\/w=82) {s r:Bs} (h:r.length<=s.length):Badv s r (.mk w [] 0 []):=by
 refine⟨?_,h⟩;rw[jE hw];simp[commas];omega
theorem kJ {s q r:Bs} {g:Nat} {u:V} (hg:g<=200) (hq:q.length+2<=s.length) (h:Badv q r u):Badv s r (.mk 61 [] g [u]):=by
 obtain⟨h1,h2⟩:=h;refine⟨?_,by omega⟩;rw[dB];have:=gO g 2 (by omega);simp;omega
theorem sD {s q r:Bs} {c:UInt8} {g:Nat} {u:V} (hs:s=c::q) (h:Badv q r (.mk 61 [] g [u])):Badv s r (.mk 85 [] g [u]):=by
 obtain⟨h1,h2⟩:=h;subst hs;refine⟨?_,by simp;omega⟩;rw[dB] at h1;rw[dY];simp at h1 ⊢;omega
end Wf

namespace Wf
def bI (c:UInt8):Bool:=c != 39
theorem tC {c:UInt8} (h:aG c=true):bI c=true:=by
 unfold bI;rw[bne_iff_ne];intro e;rw[e,iI] at h;cases h
theorem nK {p q:UInt8->Bool} (hpq:∀ c,p c=true->q c=true):∀ (b:Bs) (c:UInt8) (r:Bs),b.all p=true->q c=false->(b++c::r).takeWhile q=b/\(b++c::r).dropWhile q=c::r:=by
 intro b;induction b with
 | nil=>intro c r _ hc;simp[hc]
 | cons a b ih =>
  intro c r hb hc;simp only[List.all_cons,Bool.and_eq_true] at hb;obtain⟨h1,h2⟩:=ih c r hb.2 hc;simp[hpq a hb.1,h1,h2]
def cN (s:Bs):Nat:=min (1+(s.tail.takeWhile bI).length+1) s.length
theorem a0P (s:Bs):cN s<=s.length:=Nat.min_le_right _ _
theorem xY (x:Sc) (n:Nat) (c0:UInt8) (r:Bs):parse x (n+1) .txt (c0::r)=if quoted ((c0::r).take (cN (c0::r)))=true then some (.mk 116 ((c0::r).take (cN (c0::r))).tail.dropLast 0 [],(c0::r).drop (cN (c0::r))) else none:=by
 have hsp:=List.takeWhile_append_dropWhile (p:=bI) (l:=r);cases hd:r.dropWhile bI with
 | nil =>
  rw[hd,List.append_nil] at hsp;have hno:(39:UInt8) ∉ r:=by
   intro hm;rw[<-hsp] at hm;have hall:(r.takeWhile bI).all bI=true:=List.all_takeWhile;have:=List.all_eq_true.1 hall 39 hm;simp[bI] at this
  have he:cN (c0::r)=(c0::r).length:=by
   unfold cN;rw[List.tail_cons,hsp];simp
  rw[he,List.take_length,if_neg]
  ·by_cases h0:c0=39
   ·subst h0
    refine kL x n rfl ?_;intro h;have hm:(39:UInt8)∈r.dropWhile aG:=List.mem_of_head? h;exact hno ((List.dropWhile_sublist _).subset hm)
   ·exact lH x n (by simpa using h0)
  ·intro hq
   obtain⟨b,hb,_,_⟩:=eL.1 hq;simp only[List.cons.injEq] at hb;exact hno (by rw[hb.2];simp)
 | cons d q =>
  have hd39:d=39:=by
   have:=List.head?_dropWhile_not (p:=bI) (l:=r);rw[hd] at this;simpa[bI] using this
  subst hd39;rw[hd] at hsp;obtain⟨b,hbdef⟩:∃ b,r.takeWhile bI=b:=⟨_,rfl⟩;rw[hbdef] at hsp;have he:cN (c0::r)=b.length+2:=by
   unfold cN;rw[List.tail_cons,hbdef,<-hsp];simp;omega
  have ht:(c0::r).take (b.length+2)=c0::(b++[39]):=by
   rw[<-hsp,List.take_succ_cons,List.take_append,zaS (by omega)];simp
  have hdr:(c0::r).drop (b.length+2)=q:=by
   rw[<-hsp,List.drop_succ_cons,List.drop_append,List.drop_of_length_le (by omega)];simp
  rw[he,ht,hdr];have htl:(c0::(b++[39])).tail.dropLast=b:=by simp
  rw[htl];have hb39:b.all bI=true:=by rw[<-hbdef];exact List.all_takeWhile
  by_cases h0:c0=39
  ·subst h0
   by_cases hall:b.all aG=true
   ·obtain⟨e1,e2⟩:=nK (p:=aG) (q:=aG) (fun _ h=>h) b 39 q hall iI
    rw[hsp] at e1 e2;by_cases hl:b.length<=12
    ·rw[if_pos (eL.2 ⟨b,rfl,hall,hl⟩),kH x n rfl e2 (by rw[e1];exact hl),e1]
    ·rw[if_neg,oF x n rfl (by rw[e1];exact hl)]
     intro hq;obtain⟨b',hb',_,h12⟩:=eL.1 hq;simp only[List.cons.injEq,true_and] at hb';have:=congrArg List.length hb';simp at this;omega
   ·rw[if_neg]
    ·refine kL x n rfl ?_
     intro h;cases hdd:r.dropWhile aG with
     | nil=>rw[hdd] at h;simp at h
     | cons d2 q2 =>
      rw[hdd] at h;simp only[List.head?_cons,zaE] at h;subst h;have hs2:=List.takeWhile_append_dropWhile (p:=aG) (l:=r);rw[hdd] at hs2;have ha2:(r.takeWhile aG).all aG=true:=List.all_takeWhile;obtain⟨e1,_⟩:=nK (p:=aG) (q:=bI) (fun _ h=>tC h) (r.takeWhile aG) 39 q2 ha2 (by decide);rw[hs2,hbdef] at e1;rw[e1] at hall;exact hall ha2
    ·intro hq
     obtain⟨b',hb',ha,_⟩:=eL.1 hq;simp only[List.cons.injEq,true_and] at hb';have:=List.append_inj_left' hb' rfl;rw[this] at hall;exact hall ha
  ·rw[if_neg,lH x n (by simpa using h0)]
   intro hq;obtain⟨b',hb',_,_⟩:=eL.1 hq;simp only[List.cons.injEq] at hb';exact h0 hb'.1
end Wf

namespace Wf
theorem pQ (x:Sc) (n:Nat) (q:Bs):parse x (n+1) .flag (121::101::115::q)=some (.mk 102 [121,101,115] 0 [],q):=by simp only[parse]
theorem nP (x:Sc) (n:Nat) (q:Bs):parse x (n+1) .flag (110::111::q)=some (.mk 102 [110,111] 0 [],q):=by simp only[parse]
theorem nC (x:Sc) (n:Nat) {s:Bs} (h1:¬ [121,101,115] <+: s) (h2:¬ [110,111] <+: s):parse x (n+1) .flag s=none:=by
 simp only[parse];split
 ·rename_i q;exact absurd ⟨q,rfl⟩ h1
 ·rename_i q;exact absurd ⟨q,rfl⟩ h2
 ·rfl
theorem rM (x:Sc) (n:Nat) (k:K):parse x n k []=none:=by
 cases hp:parse x n k [] with
 | none=>rfl
 | some y=>have:=dN (v:=y.1) (r:=y.2) hp;simp at this
theorem zC (x:Sc) (k:K) (s:Bs):parse x 0 k s=none:=rfl
def itemsL (p:Reads) (acc:List V) (s:Bs):Option (List V × Bs):=match items p s with
 | some (l,q)=>if acc.length+l.length<=20 then some (acc++l,q) else none
 | none=>none
theorem itemsL_step {p:Reads} (hp:∀ s v r,p s=some (v,r)->r.length<s.length) (acc:List V) (s:Bs):itemsL p acc s=match p s with
  | none=>none
  | some (v,rest) =>
   match rest with
   | 44::r=>itemsL p (acc++[v]) r
   | 93::r=>if acc.length+1<=20 then some (acc++[v],r) else none
   | _=>none:=by
 unfold itemsL;rw[items_step hp];cases hq:p s with
 | none=>rfl
 | some y =>
  obtain⟨v,rest⟩:=y;dsimp only;split
  ·rename_i l q hl
   split at hl
   ·rename_i r
    rw[Option.map_eq_some_iff] at hl;obtain⟨z,hz,hz2⟩:=hl;simp only[zaK] at hz2;obtain⟨rfl,rfl⟩:=hz2;simp only[hz];simp only[zaF,zaD,zaM,zaT,zaN,List.nil_append];by_cases h20:acc.length+(z.1.length+1)<=20
    ·rw[if_pos h20,if_pos (by omega)]
    ·rw[if_neg h20,if_neg (by omega)]
   ·simp only[zaE,zaK] at hl
    obtain⟨rfl,rfl⟩:=hl;rfl
   ·cases hl
  ·rename_i hl
   split at hl
   ·rename_i r
    rw[Option.map_eq_none_iff] at hl;simp only[hl]
   ·cases hl
   ·rename_i h1 h2
    first
    | rfl
    | (split;exact(h1 _ rfl).elim;exact(h2 _ rfl).elim;rfl)
theorem zQ {p:Reads} (hp:∀ s v r,p s=some (v,r)->r.length<s.length) {acc:List V} (h:20<=acc.length) (s:Bs):itemsL p acc s=none:=by
 unfold itemsL;cases hi:items p s with
 | none=>rfl
 | some y =>
  have:=List.length_pos_iff.2 (sZ hp (l:=y.1) (q:=y.2) hi);dsimp only;rw[if_neg (by omega)]
theorem wU {p:Reads} (s:Bs):itemsL p [] s=match items p s with
  | none=>none
  | some (l,q)=>if l.length<=20 then some (l,q) else none:=by
 unfold itemsL;cases items p s with
 | none=>rfl
 | some y=>simp
theorem rW (x:Sc) (n:Nat) (k:K) {s:Bs} (h:s.head? ≠ some 91):parse x (n+1) (.list k) s=none:=by
 rw[parse_list];split
 ·simp at h
 ·rfl
theorem qQ (x:Sc) (n:Nat) (k:K) (q:Bs):parse x (n+1) (.list k) (91::93::q)=some (.mk 91 [] 0 [],q):=by simp only[parse_list]
theorem pU (x:Sc) (n:Nat) (k:K) {r:Bs} (h:r.head? ≠ some 93):parse x (n+1) (.list k) (91::r)=(itemsL (parse x n k) [] r).map fun y=>(.mk 91 [] 0 y.1,y.2):=by
 simp only[parse_list];split
 ·simp at h
 ·rw[wU]
  cases items (parse x n k) r with
  | none=>rfl
  | some y=>simp only[];split <;> rfl
theorem pW (x:Sc) (n:Nat) (k:K) (q:Bs):parse x (n+1) (.opt k) (45::q)=some (.mk 63 [] 0 [],q):=by simp only[parse_opt]
theorem nM (x:Sc) (n:Nat) (k:K) (r:Bs):parse x (n+1) (.opt k) (43::r)=(parse x n k r).map fun y=>(.mk 63 [] 0 [y.1],y.2):=by simp only[parse_opt]
theorem nH (x:Sc) (n:Nat) (k:K) {s:Bs} (h1:s.head? ≠ some 45) (h2:s.head? ≠ some 43):parse x (n+1) (.opt k) s=none:=by
 rw[parse_opt];split
 ·simp at h1
 ·simp at h2
 ·rfl
def bW (x:Sc) (t:Ty) (p:K->Reads) (acc:List V) (last:Nat) (s:Bs):Option (List V × Bs):=(flds x t p last s).map fun y=>(acc++y.1,y.2)
theorem fldsL_step {x:Sc} {t:Ty} {p:K->Reads} (hp:∀ k s v r,p k s=some (v,r)->r.length<s.length) (acc:List V) (last:Nat) (s:Bs):bW x t p acc last s=match fieldTok t p s with
  | none=>none
  | some (f,v,rest) =>
   if f.tag<=last\/v.print=aK x f then none else
   match rest with
   | 44::r=>bW x t p (acc++[.mk 61 [] f.tag [v]]) f.tag r
   | 125::r=>some (acc++[.mk 61 [] f.tag [v]],r)
   | _=>none:=by
 unfold bW;rw[flds_step hp];cases hq:fieldTok t p s with
 | none=>rfl
 | some y =>
  obtain⟨f,v,rest⟩:=y;dsimp only;split
  ·rfl
  ·split
   ·rw[Option.map_map]
    congr 1
    funext y
    simp
   ·rfl
   ·rename_i h1 h2
    first
    | rfl
    | (split;exact(h1 _ rfl).elim;exact(h2 _ rfl).elim;rfl)
theorem oB (x:Sc) (n:Nat) {nm:Bs} {t:Ty} (h:x.find nm=some t) (h82:t.sort=82) {s:Bs} (hs:s.head? ≠ some 123):parse x (n+1) (.ref nm) s=none:=by
 rw[dH x n nm t h,parseTy_rec _ _ _ _ h82];split
 ·simp at hs
 ·rfl
theorem pZ (x:Sc) (n:Nat) {nm:Bs} {t:Ty} (h:x.find nm=some t) (h82:t.sort=82) (q:Bs):parse x (n+1) (.ref nm) (123::125::q)=some (.mk 82 [] 0 [],q):=by
 simp only[dH x n nm t h,parseTy_rec _ _ _ _ h82]
theorem rL (x:Sc) (n:Nat) {nm:Bs} {t:Ty} (h:x.find nm=some t) (h82:t.sort=82) {r:Bs} (hr:r.head? ≠ some 125):parse x (n+1) (.ref nm) (123::r)=(bW x t (fun k' s'=>parse x n k' s') [] 0 r).map fun y=>(.mk 82 [] 0 y.1,y.2):=by
 simp only[dH x n nm t h,parseTy_rec _ _ _ _ h82];split
 ·simp at hr
 ·unfold bW
  rw[Option.map_map];congr 1
theorem rE (x:Sc) (n:Nat) {nm:Bs} {t:Ty} (h:x.find nm=some t) (h85:t.sort=85) {s:Bs} (hs:s.head? ≠ some 60):parse x (n+1) (.ref nm) s=none:=by
 rw[dH x n nm t h,parseTy_uni _ _ _ _ h85];split
 ·simp at hs
 ·rfl
theorem pN (x:Sc) (n:Nat) {nm:Bs} {t:Ty} (h:x.find nm=some t) (h85:t.sort=85) {r q:Bs} {f:Fd} {v:V} (hf:fieldTok t (fun k' s'=>parse x n k' s') r=some (f,v,62::q)):parse x (n+1) (.ref nm) (60::r)=some (.mk 85 [] f.tag [v],q):=by
 simp only[dH x n nm t h,parseTy_uni _ _ _ _ h85,hf];rfl
theorem rZ (x:Sc) (n:Nat) {nm:Bs} {t:Ty} (h:x.find nm=some t) (h85:t.sort=85) {r q:Bs} {f:Fd} {v:V} (hf:fieldTok t (fun k' s'=>parse x n k' s') r=some (f,v,q)) (hq:q.head? ≠ some 62):parse x (n+1) (.ref nm) (60::r)=none:=by
 simp only[dH x n nm t h,parseTy_uni _ _ _ _ h85,hf];unfold closeU;split
 ·simp at hq
 ·rfl
theorem kQ (x:Sc) (n:Nat) {nm:Bs} {t:Ty} (h:x.find nm=some t) (h85:t.sort=85) {r:Bs} (hf:fieldTok t (fun k' s'=>parse x n k' s') r=none):parse x (n+1) (.ref nm) (60::r)=none:=by
 simp only[dH x n nm t h,parseTy_uni _ _ _ _ h85,hf]
theorem qU (x:Sc) (n:Nat) {nm:Bs} {t:Ty} (h:x.find nm=some t) (h69:t.sort=69) {s:Bs} (hs:s.head? ≠ some 35):parse x (n+1) (.ref nm) s=none:=by
 rw[dH x n nm t h,parseTy_enm _ _ _ _ h69];split
 ·simp at hs
 ·rfl
theorem pD (x:Sc) (n:Nat) {nm:Bs} {t:Ty} (h:x.find nm=some t) (h69:t.sort=69) {r:Bs} (hr:aO 200 r=none):parse x (n+1) (.ref nm) (35::r)=none:=by
 simp only[dH x n nm t h,parseTy_enm _ _ _ _ h69,hr]
theorem mI (x:Sc) (n:Nat) {nm:Bs} {t:Ty} (h:x.find nm=some t) (h69:t.sort=69) {r q:Bs} {g:Nat} (hr:aO 200 r=some (g,q)):parse x (n+1) (.ref nm) (35::r)=if (t.field g).isSome then some (.mk 69 [] g [],q) else none:=by
 simp only[dH x n nm t h,parseTy_enm _ _ _ _ h69,hr]
theorem jP (t:Ty) (p:K->Reads) {s:Bs} (h:aO 200 s=none):fieldTok t p s=none:=by
 unfold fieldTok;rw[h]
theorem rO (t:Ty) (p:K->Reads) {s r:Bs} {g:Nat} (h:aO 200 s=some (g,r)) (hr:r.head? ≠ some 61):fieldTok t p s=none:=by
 unfold fieldTok;rw[h];dsimp only;split
 ·simp at hr
 ·rfl
theorem oC (t:Ty) (p:K->Reads) {s r:Bs} {g:Nat} (h:aO 200 s=some (g,r)) (hf:t.field g=none):fieldTok t p s=none:=by
 unfold fieldTok;simp only[h,hf]
theorem rX (t:Ty) (p:K->Reads) {s r:Bs} {g:Nat} {f:Fd} (h:aO 200 s=some (g,61::r)) (hf:t.field g=some f):fieldTok t p s=(p f.kind r).map fun y=>(f,y.1,y.2):=by
 unfold fieldTok;simp only[h,hf]
end Wf

namespace Wf
inductive BOk:V->Prop
 | mk {what:UInt8} {text:Bs} {tag:Nat} {kids:List V} (h1:what=110->∃ m,m<=999999/\text=dec m) (h2:what=116->text.length<=12) (h3:what=63->kids.length<=1) (h4:what=85\/what=61->∃ u,kids=[u]) (ht:tag<=999999) (hl:kids.length<=1000)
   (h7:what=110\/what=116\/what=102\/what=91\/what=63\/what=69\/what=85\/what=61\/what=82) (hk:∀ u,u∈kids->BOk u):BOk (.mk what text tag kids)
theorem BOk.leaf {what:UInt8} {text:Bs} {tag:Nat} (h:what=110\/what=116\/what=102\/what=91\/what=63\/what=69\/what=82) (h1:what=110->∃ m,m<=999999/\text=dec m) (h2:what=116->text.length<=12) (h3:tag<=999999):BOk (.mk what text tag []) :=
 .mk h1 h2 (fun _=>Nat.zero_le _) (fun h'=>by rcases h with rfl|rfl|rfl|rfl|rfl|rfl|rfl <;> rcases h' with h'|h' <;> exact absurd h' (by decide)) h3 (Nat.zero_le _) (by rcases h with h|h|h|h|h|h|h <;> simp[h]) (fun u hu=>absurd hu List.not_mem_nil)
theorem typed_bok {x:Sc}:∀ (n:Nat) (k:K) (v:V),Typed x n k v->BOk v:=by
 intro n;induction n with
 | zero=>intro k v h;exact h.elim
 | succ n ih =>
  intro k v h;cases k with
  | num=>obtain⟨m,hm,rfl⟩:=h;exact .leaf (.inl rfl) (fun _=>⟨m,hm,rfl⟩) (fun h=>absurd h (by decide)) (Nat.zero_le _)
  | txt=>obtain⟨b,_,hb,rfl⟩:=h;exact .leaf (.inr (.inl rfl)) (fun h=>absurd h (by decide)) (fun _=>hb) (Nat.zero_le _)
  | flag =>
   rcases h with rfl|rfl
   ·exact .leaf (.inr (.inr (.inl rfl))) (fun h=>absurd h (by decide)) (fun h=>absurd h (by decide)) (Nat.zero_le _)
   ·exact .leaf (.inr (.inr (.inl rfl))) (fun h=>absurd h (by decide)) (fun h=>absurd h (by decide)) (Nat.zero_le _)
  | list k' =>
   obtain⟨l,hl,hk,rfl⟩:=h;exact .mk (fun h=>absurd h (by decide)) (fun h=>absurd h (by decide)) (fun h=>absurd h (by decide)) (fun h=>by rcases h with h|h <;> exact absurd h (by decide)) (Nat.zero_le _) (by omega) (by simp) fun u hu=>ih k' u (hk u hu)
  | opt k' =>
   rcases h with rfl|⟨u,hu,rfl⟩
   ·exact .leaf (.inr (.inr (.inr (.inr (.inl rfl))))) (fun h=>absurd h (by decide)) (fun h=>absurd h (by decide)) (Nat.zero_le _)
   ·exact .mk (fun h=>absurd h (by decide)) (fun h=>absurd h (by decide)) (fun _=>zaA) (fun h=>by rcases h with h|h <;> exact absurd h (by decide)) (Nat.zero_le _) (by simp) (by simp) fun w hw=>by rw[List.mem_singleton.1 hw];exact ih k' u hu
  | ref nm =>
   obtain⟨t,ht,h⟩:=h;rcases h with⟨_,f,_,hf,rfl⟩|⟨_,_,f,u,_,hf,hu,rfl⟩|⟨_,_,l,hs,hl,rfl⟩
   ·exact .leaf (.inr (.inr (.inr (.inr (.inr (.inl rfl)))))) (fun h=>absurd h (by decide)) (fun h=>absurd h (by decide)) (by omega)
   ·exact .mk (fun h=>absurd h (by decide)) (fun h=>absurd h (by decide)) (fun h=>absurd h (by decide)) (fun _=>⟨u,rfl⟩) (by omega) (by simp) (by simp) fun w hw=>by rw[List.mem_singleton.1 hw];exact ih f.kind u hu
   ·have hlen:l.length<=1000:=by
     refine zaI ?_ (show 200<=1000 by omega);have h1:(l.map fun e=>e.1.tag).length<=(List.range 201).length-1:=by
      have hp:∀ (m:List Nat) (lo:Nat),(∀ g,g∈m->lo<g/\g<=200)->m.Pairwise (· < ·)->m.length<=200-lo:=by
       intro m;induction m with
       | nil=>intro lo _ _;exact Nat.zero_le _
       | cons g m ihm =>
        intro lo hg hpw;obtain⟨hp1,hp2⟩:=List.pairwise_cons.1 hpw;have h1:=hg g List.mem_cons_self;have h2:=ihm g (fun c hc=>⟨hp1 c hc,(hg c (List.mem_cons_of_mem _ hc)).2⟩) hp2;rw[zaF];omega
      have h2:=hp (l.map fun e=>e.1.tag) 0 (fun g hg=>by
       obtain⟨e,he,rfl⟩:=List.mem_map.1 hg;exact⟨(hl e he).1,(hl e he).2.2.1⟩) hs
      simpa using h2
     simpa using h1
    refine .mk (fun h=>absurd h (by decide)) (fun h=>absurd h (by decide)) (fun h=>absurd h (by decide)) (fun h=>by rcases h with h|h <;> exact absurd h (by decide)) (Nat.zero_le _) (by rw[zaG];exact hlen) (by simp) fun u hu=>?_;obtain⟨e,he,rfl⟩:=List.mem_map.1 hu;have h:=hl e he;exact .mk (fun h=>absurd h (by decide)) (fun h=>absurd h (by decide)) (fun h=>absurd h (by decide)) (fun _=>⟨e.2,rfl⟩) (by omega) (by simp) (by simp) fun w hw=>by rw[List.mem_singleton.1 hw];exact ih e.1.kind e.2 h.2.2.2.1
theorem bytes_by {what:UInt8} {text:Bs} {tag:Nat} {kids:List V} (h:BOk (.mk what text tag kids)) (q:Nat) (hq:what.toNat=q) :
  (q=110/\∃ m,m<=999999/\text=dec m/\(V.mk what text tag kids).bytes=putN m)\/(q=116/\text.length<=12/\(V.mk what text tag kids).bytes=putN text.length++text) \/
  (q=102/\text=[121,101,115]/\(V.mk what text tag kids).bytes=[1])\/(q=102/\text≠[121,101,115]/\(V.mk what text tag kids).bytes=[0]) \/
  (q=91/\(V.mk what text tag kids).bytes=putN kids.length++(kids.map V.bytes).flatten)\/(q=63/\kids=[]/\(V.mk what text tag kids).bytes=[0])\/(q=63/\∃ u,kids=[u]/\(V.mk what text tag kids).bytes=1::u.bytes) \/
  (q=69/\(V.mk what text tag kids).bytes=putN tag)\/((q=85\/q=61)/\∃ u,kids=[u]/\(V.mk what text tag kids).bytes=putN tag++(putN u.bytes.length++u.bytes)) \/
  (q=82/\(V.mk what text tag kids).bytes=(kids.map V.bytes).flatten++[0]):=by
 subst hq;cases h with
 | mk h1 h2 h3 h4 h5 h6 h7 h8 =>
  rcases h7 with rfl|rfl|rfl|rfl|rfl|rfl|rfl|rfl|rfl
  ·obtain⟨m,hm,rfl⟩:=h1 rfl
   exact .inl ⟨rfl,m,hm,rfl,by simp[V.bytes,bE,eG]⟩
  ·exact .inr (.inl ⟨rfl,h2 rfl,by simp[V.bytes,bE]⟩)
  ·by_cases ht:text=[121,101,115]
   ·exact .inr (.inr (.inl ⟨rfl,ht,by simp[V.bytes,bE,ht]⟩))
   ·exact .inr (.inr (.inr (.inl ⟨rfl,ht,by simp[V.bytes,bE,ht]⟩)))
  ·exact .inr (.inr (.inr (.inr (.inl ⟨rfl,by simp[V.bytes,bE,V.dL]⟩))))
  ·cases kids with
   | nil=>exact .inr (.inr (.inr (.inr (.inr (.inl ⟨rfl,rfl,by simp[V.bytes,bE,V.dL]⟩)))))
   | cons u l =>
    have hl:l=[]:=by
     have:=h3 rfl;cases l with
     | nil=>rfl
     | cons a l=>simp at this
    subst hl;exact .inr (.inr (.inr (.inr (.inr (.inr (.inl ⟨rfl,u,rfl,by simp[V.bytes,bE,V.dL]⟩))))))
  ·exact .inr (.inr (.inr (.inr (.inr (.inr (.inr (.inl ⟨rfl,by simp[V.bytes,bE]⟩)))))))
  ·obtain⟨u,rfl⟩:=h4 (.inl rfl)
   exact .inr (.inr (.inr (.inr (.inr (.inr (.inr (.inr (.inl ⟨.inl rfl,u,rfl,by simp[V.bytes,bE,V.dL]⟩))))))))
  ·obtain⟨u,rfl⟩:=h4 (.inr rfl)
   exact .inr (.inr (.inr (.inr (.inr (.inr (.inr (.inr (.inl ⟨.inr rfl,u,rfl,by simp[V.bytes,bE,V.dL]⟩))))))))
  ·exact .inr (.inr (.inr (.inr (.inr (.inr (.inr (.inr (.inr ⟨rfl,by simp[V.bytes,bE,V.dL]⟩))))))))
end Wf

namespace Wf
end Wf

namespace Wf
def getVal (x:Sc) (k:K) (s:Bs):Option V :=
 if s.length<=600 then (match getB x 13 k s with|some (v,[])=>if v.print.length<=400/\v.deep<=12 then some v else none|_=>none) else none
theorem getVal_some {x:Sc} {k:K} {s:Bs} {v:V} (h:getVal x k s=some v):s.length<=600/\getB x 13 k s=some (v,[])/\v.print.length<=400/\v.deep<=12:=by
 unfold getVal at h;split at h
 ·rename_i hs
  split at h
  ·rename_i v' hg
   split at h
   ·rename_i hp
    cases h;exact⟨hs,hg,hp.1,hp.2⟩
   ·cases h
  ·cases h
 ·cases h
theorem getVal_bytes {x:Sc} {k:K} {v:V} (h:Typed x 12 k v) (hp:v.print.length<=400):getVal x k v.bytes=some v:=by
 have hb:=eK 12 k v h (by omega);have h13:=a3N 12 k v h 13 (by omega);have hg:=rJ 13 k v [] h13 (by omega);rw[List.append_nil] at hg;unfold getVal;rw[if_pos (by omega),hg];exact if_pos ⟨hp,(iO 12 k v h).2⟩
def canonB (x:Sc) (k:K) (s:Bs):Bool:=match getVal x k s with|some v=>decide (v.bytes=s)|none=>false
theorem canon_bytes {x:Sc} {k:K} {v:V} (h:Typed x 12 k v) (hp:v.print.length<=400):canonB x k v.bytes=true:=by
 unfold canonB;rw[getVal_bytes h hp];exact decide_eq_true rfl
end Wf

namespace Wf
def canonR (x:Sc) (k:K) (s:Bs):Bool :=
 if s.length<=600 then (match getB x 12 k s with|some (v,[])=>(valIn x k v.print).isSome&&decide (v.bytes=s)|_=>false) else false
theorem canon_same {x:Sc} (hx:jI x) (k:K) (s:Bs):canonB x k s=canonR x k s:=by
 rw[Bool.eq_iff_iff];constructor
 ·intro h
  unfold canonB at h;cases hg:getVal x k s with
  | none=>rw[hg] at h;cases h
  | some v =>
   rw[hg] at h;have hb:v.bytes=s:=of_decide_eq_true h;obtain⟨h1,h2,h3,h4⟩:=getVal_some hg;have ht:=mZ 13 k v (fB hx 13 k s v [] h2) 12 h4;have hg12:=rJ 12 k v [] ht (by omega);rw[List.append_nil,hb] at hg12;unfold canonR;rw[if_pos h1,hg12];dsimp only;rw[pJ ht h4 h3,Bool.and_eq_true];exact⟨rfl,decide_eq_true hb⟩
 ·intro h
  unfold canonR at h;split at h
  ·rename_i h1
   split at h
   ·rename_i v hg
    rw[Bool.and_eq_true] at h;obtain⟨hv,hb⟩:=h;have hb:v.bytes=s:=of_decide_eq_true hb;obtain⟨u,hu⟩:=Option.isSome_iff_exists.1 hv;obtain⟨t1,t2,t3⟩:=kA hu;have ht:=fB hx 12 k s v [] hg;rw[<-hb];exact canon_bytes ht t3
   ·cases h
  ·cases h
end Wf

namespace Wf
def Ty.a0E (t:Ty) (g:Int):Option Fd:=t.fields.find? fun f=>(f.tag:Int)==g
def recTy (x:Sc):K->Option Ty
 | .ref nm=>(x.find nm).bind fun t=>if t.sort=82 then some t else none
 | _=>none
theorem xM {x:Sc} {k:K} {t:Ty} (h:recTy x k=some t):∃ nm,k=.ref nm/\x.find nm=some t/\t.sort=82:=by
 cases k with
 | ref nm =>
  simp only[recTy] at h;cases hf:x.find nm with
  | none=>rw[hf] at h;cases h
  | some u =>
   rw[hf] at h;simp only[Option.bind_some] at h;split at h
   ·rename_i h82;cases h;exact⟨nm,rfl,hf,h82⟩
   ·cases h
 | _=>cases h
def gN (x:Sc) (k:K) (g:Int):Option Fd:=(recTy x k).bind fun t=>t.a0E g
end Wf

namespace Wf
end Wf

namespace Wf
end Wf

namespace Wf
theorem getN_len {s r:Bs} {n:Nat} (h:getN s=some (n,r)):n<=999999/\r.length+1<=s.length/\(dec n).length+2+5*r.length<=5*s.length:=by
 obtain⟨h1,rfl⟩:=lT h;refine⟨h1,?_,?_⟩
 ·have:=(bZ n h1).1
  rw[zaD];omega
 ·rw[zaD]
  by_cases h2:n<128
  ·have:=gO n 2 (by have:(10:Nat)^3=1000:=rfl;omega)
   rw[bM h2];simp only[zaF,zaM];omega
  ·by_cases h3:n<16384
   ·have:=gO n 4 (by have:(10:Nat)^5=100000:=rfl;omega)
    rw[cB (by omega),bM (by omega)];simp only[zaF,zaM];omega
   ·have:=cA h1
    have:=(bZ (n / 128 / 128) (by omega)).1;rw[cB (by omega),cB (by omega)];simp only[zaF];omega
theorem takeN_len {s b r:Bs} (h:takeN s=some (b,r)):b.length+r.length+1<=s.length:=by
 obtain⟨h1,h2⟩:=xP h;have:=(bZ b.length h2).1;rw[h1];simp only[zaD];omega
def Short (p:Reads):Prop:=∀ s v r,p s=some (v,r)->v.print.length+1+5*r.length<=5*s.length
theorem getItems_short {p:Reads} (hp:Short p):∀ (m:Nat) (s:Bs) (l:List V) (r:Bs),getItems p m s=some (l,r)->pl l+5*r.length<=5*s.length:=by
 intro m;induction m with
 | zero=>intro s l r h;simp[getItems] at h;obtain⟨rfl,rfl⟩:=h;rw[iF];omega
 | succ m ih =>
  intro s l r h;simp only[getItems] at h;cases hq:p s with
  | none=>rw[hq] at h;cases h
  | some y =>
   rw[hq] at h;dsimp only at h;cases hi:getItems p m y.2 with
   | none=>rw[hi] at h;cases h
   | some z =>
    rw[hi] at h;simp only[zaL,zaE,zaK] at h;obtain⟨rfl,rfl⟩:=h;have h1:=hp s y.1 y.2 hq;have h2:=ih _ _ _ hi;unfold pl at h2 ⊢;simp only[zaX,List.flatten_cons,zaD,zaF];omega
theorem whole_short {p:Reads} (hp:Short p) {s:Bs} {v:V} (h:whole p s=some v):v.print.length+1<=5*s.length:=by
 have:=hp s v [] (lD h);simpa using this
theorem getFields_short {x:Sc} {t:Ty} {p:K->Reads} (hp:∀ k,Short (p k)):∀ (m last:Nat) (s:Bs) (l:List V) (sk:List Nat) (r:Bs),getFields x t p m last s=some (l,sk,r)->pl l+5*r.length+5<=5*s.length:=by
 intro m;induction m with
 | zero=>intro last s l sk r h;simp[getFields] at h
 | succ m ih =>
  intro last s l sk r h;simp only[getFields] at h;cases hn:getN s with
  | none=>rw[hn] at h;cases h
  | some y =>
   obtain⟨tag,rest⟩:=y;rw[hn] at h;dsimp only at h;obtain⟨h1,h2,h3⟩:=getN_len hn;split at h
   ·simp only[zaE,zaK] at h
    obtain⟨rfl,rfl,rfl⟩:=h;rw[iF];omega
   ·cases ht:takeN rest with
    | none=>rw[ht] at h;cases h
    | some z =>
     obtain⟨part,more⟩:=z;rw[ht] at h;dsimp only at h;have h4:=takeN_len ht;split at h
     ·cases h
     ·cases hf:t.field tag with
      | none =>
       rw[hf] at h;dsimp only at h;cases hg:getFields x t p m tag more with
       | none=>rw[hg] at h;cases h
       | some y =>
        obtain⟨l',sk',r'⟩:=y;rw[hg] at h;simp only[zaL,zaE,zaK] at h;obtain⟨rfl,rfl,rfl⟩:=h;have:=ih _ _ _ _ _ hg;omega
      | some f =>
       rw[hf] at h;dsimp only at h;cases hw:whole (p f.kind) part with
       | none=>rw[hw] at h;cases h
       | some v =>
        rw[hw] at h;dsimp only at h;have h5:=whole_short (hp f.kind) hw;cases hg:getFields x t p m tag more with
        | none=>rw[hg] at h;cases h
        | some y =>
         obtain⟨l',sk',r'⟩:=y;rw[hg] at h;simp only[zaL,zaE,zaK] at h;obtain⟨hl,rfl,rfl⟩:=h;have h6:=ih _ _ _ _ _ hg;split at hl
         ·rw[<-hl];omega
         ·rw[<-hl]
          have e:pl (V.mk 61 [] tag [v]::l')=pl l'+(dec tag).length+v.print.length+2:=by
           unfold pl;simp only[zaX,List.flatten_cons,zaD,zaF,dB];omega
          rw[e];omega
theorem row_short {w:UInt8} (hw:w=91\/w=82) (l:List V):(V.mk w [] 0 l).print.length<=pl l+2:=by
 rw[jE hw];by_cases h:l=[]
 ·subst h;simp[commas]
 ·have:=jQ h
  omega
theorem getB_short {x:Sc}:∀ (n:Nat) (k:K),Short (getB x n k):=by
 intro n;induction n with
 | zero=>intro k s v r h;simp[getB] at h
 | succ n ih =>
  intro k s v r h;cases k with
  | num =>
   simp only[getB] at h;cases hn:getN s with
   | none=>rw[hn] at h;cases h
   | some y =>
    rw[hn] at h;simp only[zaL,zaE,zaK] at h;obtain⟨rfl,rfl⟩:=h;have:=(getN_len (n:=y.1) (r:=y.2) hn).2.2;rw[eR];omega
  | txt =>
   simp only[getB] at h;split at h
   ·cases h
   ·split at h
    ·rename_i b q ht hb
     simp only[zaE,zaK] at h;obtain⟨rfl,rfl⟩:=h;have:=takeN_len ht;rw[eU];simp only[zaF,zaD,zaM];omega
    ·cases h
  | flag =>
   simp only[getB] at h;split at h
   ·simp only[zaE,zaK] at h
    obtain⟨rfl,rfl⟩:=h;rw[cU];simp only[zaF,zaM];omega
   ·simp only[zaE,zaK] at h
    obtain⟨rfl,rfl⟩:=h;rw[cU];simp only[zaF,zaM];omega
   ·cases h
  | list k =>
   simp only[getB] at h;split at h
   ·cases h
   ·split at h
    ·rename_i m q hm _
     cases hi:getItems (getB x n k) m q with
     | none=>rw[hi] at h;cases h
     | some y =>
      rw[hi] at h;simp only[zaL,zaE,zaK] at h;obtain⟨rfl,rfl⟩:=h;have h1:=getItems_short (ih k) m q y.1 y.2 hi;have h2:=(getN_len hm).2.1;have h3:=row_short (.inl rfl) y.1;omega
    ·cases h
  | opt k =>
   simp only[getB] at h;split at h
   ·simp only[zaE,zaK] at h
    obtain⟨rfl,rfl⟩:=h;rw[fR];simp only[zaF,zaM];omega
   ·rename_i q
    cases hq:getB x n k q with
    | none=>rw[hq] at h;cases h
    | some y =>
     rw[hq] at h;simp only[zaL,zaE,zaK] at h;obtain⟨rfl,rfl⟩:=h;have:=ih k q y.1 y.2 hq;rw[dE];simp only[zaF];omega
   ·cases h
  | ref nm =>
   simp only[getB] at h;cases ht:x.find nm with
   | none=>rw[ht] at h;cases h
   | some t =>
    rw[ht] at h;simp only[bF] at h;split at h
    ·split at h
     ·cases h
     ·rename_i tag rest hn
      obtain⟨_,_,h3⟩:=getN_len hn;split at h
      ·simp only[zaE,zaK] at h
       obtain⟨rfl,rfl⟩:=h;rw[eX];simp only[zaF];omega
      ·cases h
    ·split at h
     ·split at h
      ·cases h
      ·rename_i tag rest hn
       obtain⟨_,_,h3⟩:=getN_len hn;split at h
       ·cases h
       ·rename_i f hf
        split at h
        ·cases h
        ·rename_i part more hp
         have h4:=takeN_len hp;cases hw:whole (fun s'=>getB x n f.kind s') part with
         | none=>rw[hw] at h;cases h
         | some u =>
          rw[hw] at h;simp only[zaL,zaE,zaK] at h;obtain⟨rfl,rfl⟩:=h;have h5:=whole_short (p:=fun s'=>getB x n f.kind s') (ih f.kind) hw;rw[dY];simp only[zaF,zaD,zaM];omega
     ·cases hg:getFields x t (fun k' s'=>getB x n k' s') s.length 0 s with
      | none=>rw[hg] at h;cases h
      | some y =>
       rw[hg] at h;simp only[zaL,zaE,zaK] at h;obtain⟨rfl,rfl⟩:=h;have h1:=getFields_short (p:=fun k' s'=>getB x n k' s') (fun k=>ih k) _ _ _ _ _ _ (show getFields x t (fun k' s'=>getB x n k' s') s.length 0 s=some (y.1,y.2.1,y.2.2) from hg);have h2:=row_short (.inr rfl) y.1;omega
theorem getB_le {x:Sc} {n:Nat} {k:K} {s r:Bs} {v:V} (h:getB x n k s=some (v,r)):r.length<=s.length:=by
 have:=getB_short n k s v r h;omega
theorem getFields_fuel {x:Sc} {t:Ty} {p:K->Reads}:∀ (m m' last:Nat) (s:Bs),s.length<=m->s.length<=m'->getFields x t p m last s=getFields x t p m' last s:=by
 have h0:∀ m last,getFields x t p m last []=none:=fun m last=>by
  cases m with
  | zero=>rfl
  | succ m=>rfl
 intro m;induction m with
 | zero =>
  intro m' last s h _;rw[List.eq_nil_of_length_eq_zero (by omega:s.length=0),h0,h0]
 | succ m ih =>
  intro m' last s h h';cases m' with
  | zero=>rw[List.eq_nil_of_length_eq_zero (by omega:s.length=0),h0,h0]
  | succ m' =>
   simp only[getFields];cases hn:getN s with
   | none=>rfl
   | some y =>
    obtain⟨tag,rest⟩:=y;dsimp only;have h1:=(getN_len hn).2.1;split
    ·rfl
    ·cases ht:takeN rest with
     | none=>rfl
     | some z =>
      obtain⟨part,more⟩:=z;dsimp only;have h2:=takeN_len ht;rw[ih m' tag more (by omega) (by omega)]
def recB (x:Sc) (t:Ty) (p:K->Reads) (last:Nat) (s:Bs):Option (List V × List Nat × Bs):=getFields x t p s.length last s
theorem recB_step {x:Sc} {t:Ty} {p:K->Reads} {last g:Nat} {s q:Bs} (h:getN s=some (g,q)):recB x t p last s=(if g=0 then some ([],[],q) else match takeN q with
  | none=>none
  | some (part,more)=>if g<=last then none else match t.field g with
   | none=>(recB x t p g more).map fun y=>(y.1,g::y.2.1,y.2.2)
   | some f=>match whole (p f.kind) part with
    | none=>none
    | some v=>(recB x t p g more).map fun y=>(if v.print=aK x f then y.1 else .mk 61 [] g [v]::y.1,y.2.1,y.2.2)):=by
 have h1:=(getN_len h).2.1;unfold recB;obtain⟨m,hm⟩:∃ m,s.length=m+1:=⟨s.length-1,by omega⟩;rw[hm];simp only[getFields];rw[h];dsimp only;split
 ·rfl
 ·cases ht:takeN q with
  | none=>rfl
  | some z =>
   obtain⟨part,more⟩:=z;dsimp only;have h2:=takeN_len ht;rw[getFields_fuel m more.length g more (by omega) (by omega)];rfl
theorem recB_none {x:Sc} {t:Ty} {p:K->Reads} {last:Nat} {s:Bs} (h:getN s=none):recB x t p last s=none:=by
 unfold recB;cases hl:s.length with
 | zero=>rfl
 | succ m =>
  simp only[getFields];rw[h]
theorem recB_end {x:Sc} {t:Ty} {p:K->Reads} {last:Nat} {s q:Bs} (h:getN s=some (0,q)):recB x t p last s=some ([],[],q):=by
 rw[recB_step h,if_pos rfl]
theorem recB_cut {x:Sc} {t:Ty} {p:K->Reads} {last g:Nat} {s q:Bs} (h:getN s=some (g,q)) (h0:g≠0) (ht:takeN q=none):recB x t p last s=none:=by
 rw[recB_step h,if_neg h0,ht]
theorem recB_low {x:Sc} {t:Ty} {p:K->Reads} {last g:Nat} {s q part more:Bs} (h:getN s=some (g,q)) (h0:g≠0) (ht:takeN q=some (part,more)) (hl:g<=last):recB x t p last s=none:=by
 rw[recB_step h,if_neg h0,ht];dsimp only;rw[if_pos hl]
theorem recB_skip {x:Sc} {t:Ty} {p:K->Reads} {last g:Nat} {s q part more:Bs} (h:getN s=some (g,q)) (h0:g≠0) (ht:takeN q=some (part,more)) (hl:¬ g<=last) (hf:t.field g=none):recB x t p last s=(recB x t p g more).map fun y=>(y.1,g::y.2.1,y.2.2):=by
 rw[recB_step h,if_neg h0,ht];dsimp only;rw[if_neg hl,hf]
theorem recB_bad {x:Sc} {t:Ty} {p:K->Reads} {last g:Nat} {s q part more:Bs} {f:Fd} (h:getN s=some (g,q)) (h0:g≠0) (ht:takeN q=some (part,more)) (hl:¬ g<=last) (hf:t.field g=some f) (hw:whole (p f.kind) part=none):recB x t p last s=none:=by
 rw[recB_step h,if_neg h0,ht];dsimp only;rw[if_neg hl,hf];dsimp only;rw[hw]
theorem recB_same {x:Sc} {t:Ty} {p:K->Reads} {last g:Nat} {s q part more:Bs} {f:Fd} {v:V} (h:getN s=some (g,q)) (h0:g≠0) (ht:takeN q=some (part,more)) (hl:¬ g<=last) (hf:t.field g=some f) (hw:whole (p f.kind) part=some v) (hs:v.print=aK x f):recB x t p last s=recB x t p g more:=by
 rw[recB_step h,if_neg h0,ht];dsimp only;rw[if_neg hl,hf];dsimp only;rw[hw];dsimp only;simp only[if_pos hs];cases recB x t p g more <;> rfl
theorem recB_told {x:Sc} {t:Ty} {p:K->Reads} {last g:Nat} {s q part more:Bs} {f:Fd} {v:V} (h:getN s=some (g,q)) (h0:g≠0) (ht:takeN q=some (part,more)) (hl:¬ g<=last) (hf:t.field g=some f) (hw:whole (p f.kind) part=some v) (hs:v.print≠aK x f):recB x t p last s=(recB x t p g more).map fun y=>(.mk 61 [] g [v]::y.1,y.2.1,y.2.2):=by
 rw[recB_step h,if_neg h0,ht];dsimp only;rw[if_neg hl,hf];dsimp only;rw[hw];dsimp only;simp only[if_neg hs]
theorem getB_rec {x:Sc} {n:Nat} {nm:Bs} {t:Ty} (hf:x.find nm=some t) (h:t.sort=82) (s:Bs):getB x (n+1) (.ref nm) s=(recB x t (fun k' s'=>getB x n k' s') 0 s).map fun y=>(.mk 82 [] 0 y.1,y.2.2):=by
 simp only[getB,hf,bF];rw[if_neg (by rw[h];decide),if_neg (by rw[h];decide)];rfl
end Wf

namespace Wf
theorem mV {l m:List Bs} (h:l≠[]) (hm:m≠[]):commas (l++m)=commas l++44::commas m:=by
 induction l with
 | nil=>exact absurd rfl h
 | cons a l ih =>
  cases l with
  | nil =>
   rw[List.singleton_append,dJ a hm];rfl
  | cons b l =>
   rw[zaN,dJ a (by simp),ih (by simp),dJ a (by simp)];simp
theorem tY {l:List Bs} (h:l≠[]) (a:Bs):commas (l++[a])=commas l++44::a:=by
 rw[mV h (by simp)];rfl
theorem pM {l:List Bs} (i:Nat):(commas (l.take i)).length<=(commas l).length:=by
 by_cases h1:l.take i=[]
 ·rw[h1];simp[commas]
 ·by_cases h2:l.drop i=[]
  ·have:l.take i=l:=by
    have:=List.take_append_drop i l;rw[h2,List.append_nil] at this;exact this
   rw[this];exact zaA
  ·have:=congrArg (fun m=>(commas m).length) (List.take_append_drop i l)
   simp only[mV h1 h2,zaD,zaF] at this;omega
theorem oM {l:List Bs} {i:Nat} (h:i<l.length):commas (l.take (i+1))=if i=0 then l[i] else commas (l.take i)++44::l[i]:=by
 have e:l.take (i+1)=l.take i++[l[i]]:=by rw[List.take_add_one,zaV h];rfl
 rw[e];by_cases h0:i=0
 ·subst h0
  simp[commas]
 ·rw[if_neg h0,tY]
  intro hn;rw[List.take_eq_nil_iff] at hn;rcases hn with hn|hn
  ·exact h0 hn
  ·rw[hn] at h;simp at h
theorem mU {x:Sc} {n:Nat} {k:K} {v:V} (h:Typed x n k v):v.what≠61:=by
 cases n with
 | zero=>exact h.elim
 | succ n =>
  cases k with
  | num=>obtain⟨m,_,rfl⟩:=h;simp[V.what]
  | txt=>obtain⟨b,_,_,rfl⟩:=h;simp[V.what]
  | flag=>rcases h with rfl|rfl <;> simp[V.what]
  | list k=>obtain⟨l,_,_,rfl⟩:=h;simp[V.what]
  | opt k=>rcases h with rfl|⟨u,_,rfl⟩ <;> simp[V.what]
  | ref nm =>
   obtain⟨t,_,h⟩:=h;rcases h with⟨_,f,_,_,rfl⟩|⟨_,_,f,u,_,_,_,rfl⟩|⟨_,_,l,_,_,rfl⟩ <;> simp[V.what]
end Wf
