/- Packed by pack.py: PlainV PlainX PlainY. -/
import Derived.Test.YtidjpalnmnehmaaGreatDoorE1
namespace Wf
set_option linter.unusedVariables false
set_option linter.unusedSimpArgs false
theorem parse_yes (x:Sc) (n:Nat) (q:Bs):parse x (n+1) .flag (121::101::115::q)=some (.mk 102 [121,101,115] 0 [],q):=by simp only[parse]
theorem parse_no (x:Sc) (n:Nat) (q:Bs):parse x (n+1) .flag (110::111::q)=some (.mk 102 [110,111] 0 [],q):=by simp only[parse]
theorem parse_flag_none (x:Sc) (n:Nat) {s:Bs} (h1:¬ [121,101,115] <+: s) (h2:¬ [110,111] <+: s):parse x (n+1) .flag s=none:=by
 simp only[parse]
 split
 ·rename_i q;exact absurd ⟨q,rfl⟩ h1
 ·rename_i q;exact absurd ⟨q,rfl⟩ h2
 ·rfl
theorem parse_nil (x:Sc) (n:Nat) (k:K):parse x n k []=none:=by
 cases hp:parse x n k [] with
 | none=>rfl
 | some y=>have:=parse_lt (v:=y.1) (r:=y.2) hp;simp at this
theorem parse_zero (x:Sc) (k:K) (s:Bs):parse x 0 k s=none:=rfl
def itemsL (p:Reads) (acc:List V) (s:Bs):Option (List V × Bs):=match items p s with
 | some (l,q)=>if acc.length+l.length≤20 then some (acc++l,q) else none
 | none=>none
theorem itemsL_step {p:Reads} (hp:∀ s v r,p s=some (v,r)→r.length<s.length) (acc:List V) (s:Bs):itemsL p acc s=match p s with
  | none=>none
  | some (v,rest) =>
   match rest with
   | 44::r=>itemsL p (acc++[v]) r
   | 93::r=>if acc.length+1≤20 then some (acc++[v],r) else none
   | _=>none:=by
 unfold itemsL
 rw[items_step hp]
 cases hq:p s with
 | none=>rfl
 | some y =>
  obtain⟨v,rest⟩:=y
  dsimp only
  split
  ·rename_i l q hl
   split at hl
   ·rename_i r
    rw[Option.map_eq_some_iff] at hl
    obtain⟨z,hz,hz2⟩:=hl
    simp only[Prod.mk.injEq] at hz2
    obtain⟨rfl,rfl⟩:=hz2
    simp only[hz]
    simp only[List.length_cons,List.length_append,List.length_nil,List.append_assoc,List.cons_append,List.nil_append]
    by_cases h20:acc.length+(z.1.length+1)≤20
    ·rw[if_pos h20,if_pos (by omega)]
    ·rw[if_neg h20,if_neg (by omega)]
   ·simp only[Option.some.injEq,Prod.mk.injEq] at hl
    obtain⟨rfl,rfl⟩:=hl
    rfl
   ·cases hl
  ·rename_i hl
   split at hl
   ·rename_i r
    rw[Option.map_eq_none_iff] at hl
    simp only[hl]
   ·cases hl
   ·rename_i h1 h2
    split
    ·exact(h1 _ rfl).elim
    ·exact(h2 _ rfl).elim
    ·rfl
theorem itemsL_full {p:Reads} (hp:∀ s v r,p s=some (v,r)→r.length<s.length) {acc:List V} (h:20≤acc.length) (s:Bs):itemsL p acc s=none:=by
 unfold itemsL
 cases hi:items p s with
 | none=>rfl
 | some y =>
  have:=List.length_pos_iff.2 (items_ne hp (l:=y.1) (q:=y.2) hi)
  dsimp only
  rw[if_neg (by omega)]
theorem itemsL_nil {p:Reads} (s:Bs):itemsL p [] s=match items p s with
  | none=>none
  | some (l,q)=>if l.length≤20 then some (l,q) else none:=by
 unfold itemsL
 cases items p s with
 | none=>rfl
 | some y=>simp
theorem parse_list_no (x:Sc) (n:Nat) (k:K) {s:Bs} (h:s.head? ≠ some 91):parse x (n+1) (.list k) s=none:=by
 rw[parse_list]
 split
 ·simp at h
 ·rfl
theorem parse_list_nil (x:Sc) (n:Nat) (k:K) (q:Bs):parse x (n+1) (.list k) (91::93::q)=some (.mk 91 [] 0 [],q):=by simp only[parse_list]
theorem parse_list_items (x:Sc) (n:Nat) (k:K) {r:Bs} (h:r.head? ≠ some 93):parse x (n+1) (.list k) (91::r)=(itemsL (parse x n k) [] r).map fun y=>(.mk 91 [] 0 y.1,y.2):=by
 simp only[parse_list]
 split
 ·simp at h
 ·rw[itemsL_nil]
  cases items (parse x n k) r with
  | none=>rfl
  | some y=>simp only[];split <;> rfl
theorem parse_opt_none (x:Sc) (n:Nat) (k:K) (q:Bs):parse x (n+1) (.opt k) (45::q)=some (.mk 63 [] 0 [],q):=by simp only[parse_opt]
theorem parse_opt_some (x:Sc) (n:Nat) (k:K) (r:Bs):parse x (n+1) (.opt k) (43::r)=(parse x n k r).map fun y=>(.mk 63 [] 0 [y.1],y.2):=by simp only[parse_opt]
theorem parse_opt_no (x:Sc) (n:Nat) (k:K) {s:Bs} (h1:s.head? ≠ some 45) (h2:s.head? ≠ some 43):parse x (n+1) (.opt k) s=none:=by
 rw[parse_opt]
 split
 ·simp at h1
 ·simp at h2
 ·rfl
def fldsL (x:Sc) (t:Ty) (p:K→Reads) (acc:List V) (last:Nat) (s:Bs):Option (List V × Bs):=(flds x t p last s).map fun y=>(acc++y.1,y.2)
theorem fldsL_step {x:Sc} {t:Ty} {p:K→Reads} (hp:∀ k s v r,p k s=some (v,r)→r.length<s.length) (acc:List V) (last:Nat) (s:Bs):fldsL x t p acc last s=match fieldTok t p s with
  | none=>none
  | some (f,v,rest) =>
   if f.tag≤last∨v.print=standF x f then none else
   match rest with
   | 44::r=>fldsL x t p (acc++[.mk 61 [] f.tag [v]]) f.tag r
   | 125::r=>some (acc++[.mk 61 [] f.tag [v]],r)
   | _=>none:=by
 unfold fldsL
 rw[flds_step hp]
 cases hq:fieldTok t p s with
 | none=>rfl
 | some y =>
  obtain⟨f,v,rest⟩:=y
  dsimp only
  split
  ·rfl
  ·split
   ·rw[Option.map_map]
    congr 1
    funext y
    simp
   ·rfl
   ·rename_i h1 h2
    split
    ·exact(h1 _ rfl).elim
    ·exact(h2 _ rfl).elim
    ·rfl
theorem parse_rec_no (x:Sc) (n:Nat) {nm:Bs} {t:Ty} (h:x.find nm=some t) (h82:t.sort=82) {s:Bs} (hs:s.head? ≠ some 123):parse x (n+1) (.ref nm) s=none:=by
 rw[parse_ref x n nm t h,parseTy_rec _ _ _ _ h82]
 split
 ·simp at hs
 ·rfl
theorem parse_rec_nil (x:Sc) (n:Nat) {nm:Bs} {t:Ty} (h:x.find nm=some t) (h82:t.sort=82) (q:Bs):parse x (n+1) (.ref nm) (123::125::q)=some (.mk 82 [] 0 [],q):=by
 simp only[parse_ref x n nm t h,parseTy_rec _ _ _ _ h82]
theorem parse_rec_flds (x:Sc) (n:Nat) {nm:Bs} {t:Ty} (h:x.find nm=some t) (h82:t.sort=82) {r:Bs} (hr:r.head? ≠ some 125):parse x (n+1) (.ref nm) (123::r)=(fldsL x t (fun k' s'=>parse x n k' s') [] 0 r).map fun y=>(.mk 82 [] 0 y.1,y.2):=by
 simp only[parse_ref x n nm t h,parseTy_rec _ _ _ _ h82]
 split
 ·simp at hr
 ·unfold fldsL
  rw[Option.map_map]
  congr 1
theorem parse_uni_no (x:Sc) (n:Nat) {nm:Bs} {t:Ty} (h:x.find nm=some t) (h85:t.sort=85) {s:Bs} (hs:s.head? ≠ some 60):parse x (n+1) (.ref nm) s=none:=by
 rw[parse_ref x n nm t h,parseTy_uni _ _ _ _ h85]
 split
 ·simp at hs
 ·rfl
theorem parse_uni_some (x:Sc) (n:Nat) {nm:Bs} {t:Ty} (h:x.find nm=some t) (h85:t.sort=85) {r q:Bs} {f:Fd} {v:V} (hf:fieldTok t (fun k' s'=>parse x n k' s') r=some (f,v,62::q)):parse x (n+1) (.ref nm) (60::r)=some (.mk 85 [] f.tag [v],q):=by
 simp only[parse_ref x n nm t h,parseTy_uni _ _ _ _ h85,hf]
 rfl
theorem parse_uni_open (x:Sc) (n:Nat) {nm:Bs} {t:Ty} (h:x.find nm=some t) (h85:t.sort=85) {r q:Bs} {f:Fd} {v:V} (hf:fieldTok t (fun k' s'=>parse x n k' s') r=some (f,v,q)) (hq:q.head? ≠ some 62):parse x (n+1) (.ref nm) (60::r)=none:=by
 simp only[parse_ref x n nm t h,parseTy_uni _ _ _ _ h85,hf]
 unfold closeU
 split
 ·simp at hq
 ·rfl
theorem parse_uni_bad (x:Sc) (n:Nat) {nm:Bs} {t:Ty} (h:x.find nm=some t) (h85:t.sort=85) {r:Bs} (hf:fieldTok t (fun k' s'=>parse x n k' s') r=none):parse x (n+1) (.ref nm) (60::r)=none:=by
 simp only[parse_ref x n nm t h,parseTy_uni _ _ _ _ h85,hf]
theorem parse_enm_no (x:Sc) (n:Nat) {nm:Bs} {t:Ty} (h:x.find nm=some t) (h69:t.sort=69) {s:Bs} (hs:s.head? ≠ some 35):parse x (n+1) (.ref nm) s=none:=by
 rw[parse_ref x n nm t h,parseTy_enm _ _ _ _ h69]
 split
 ·simp at hs
 ·rfl
theorem parse_enm_num (x:Sc) (n:Nat) {nm:Bs} {t:Ty} (h:x.find nm=some t) (h69:t.sort=69) {r:Bs} (hr:numTok 200 r=none):parse x (n+1) (.ref nm) (35::r)=none:=by
 simp only[parse_ref x n nm t h,parseTy_enm _ _ _ _ h69,hr]
theorem parse_enm_tag (x:Sc) (n:Nat) {nm:Bs} {t:Ty} (h:x.find nm=some t) (h69:t.sort=69) {r q:Bs} {g:Nat} (hr:numTok 200 r=some (g,q)):parse x (n+1) (.ref nm) (35::r)=if (t.field g).isSome then some (.mk 69 [] g [],q) else none:=by
 simp only[parse_ref x n nm t h,parseTy_enm _ _ _ _ h69,hr]
theorem fieldTok_no (t:Ty) (p:K→Reads) {s:Bs} (h:numTok 200 s=none):fieldTok t p s=none:=by
 unfold fieldTok
 rw[h]
theorem fieldTok_eq (t:Ty) (p:K→Reads) {s r:Bs} {g:Nat} (h:numTok 200 s=some (g,r)) (hr:r.head? ≠ some 61):fieldTok t p s=none:=by
 unfold fieldTok
 rw[h]
 dsimp only
 split
 ·simp at hr
 ·rfl
theorem fieldTok_tag (t:Ty) (p:K→Reads) {s r:Bs} {g:Nat} (h:numTok 200 s=some (g,r)) (hf:t.field g=none):fieldTok t p s=none:=by
 unfold fieldTok
 simp only[h,hf]
theorem fieldTok_some (t:Ty) (p:K→Reads) {s r:Bs} {g:Nat} {f:Fd} (h:numTok 200 s=some (g,61::r)) (hf:t.field g=some f):fieldTok t p s=(p f.kind r).map fun y=>(f,y.1,y.2):=by
 unfold fieldTok
 simp only[h,hf]
end Wf

namespace Wf
set_option linter.unusedVariables false
set_option linter.unusedSimpArgs false
theorem commas_app {l m:List Bs} (h:l≠[]) (hm:m≠[]):commas (l++m)=commas l++44::commas m:=by
 induction l with
 | nil=>exact absurd rfl h
 | cons a l ih =>
  cases l with
  | nil =>
   rw[List.singleton_append,commas_cons a hm]
   rfl
  | cons b l =>
   rw[List.cons_append,commas_cons a (by simp),ih (by simp),commas_cons a (by simp)]
   simp
theorem commas_snoc {l:List Bs} (h:l≠[]) (a:Bs):commas (l++[a])=commas l++44::a:=by
 rw[commas_app h (by simp)]
 rfl
theorem commas_take {l:List Bs} (i:Nat):(commas (l.take i)).length≤(commas l).length:=by
 by_cases h1:l.take i=[]
 ·rw[h1];simp[commas]
 ·by_cases h2:l.drop i=[]
  ·have:l.take i=l:=by
    have:=List.take_append_drop i l
    rw[h2,List.append_nil] at this
    exact this
   rw[this]
   exact Nat.le_refl _
  ·have:=congrArg (fun m=>(commas m).length) (List.take_append_drop i l)
   simp only[commas_app h1 h2,List.length_append,List.length_cons] at this
   omega
theorem commas_step {l:List Bs} {i:Nat} (h:i<l.length):commas (l.take (i+1))=if i=0 then l[i] else commas (l.take i)++44::l[i]:=by
 have e:l.take (i+1)=l.take i++[l[i]]:=by rw[List.take_add_one,List.getElem?_eq_getElem h];rfl
 rw[e]
 by_cases h0:i=0
 ·subst h0
  simp[commas]
 ·rw[if_neg h0,commas_snoc]
  intro hn
  rw[List.take_eq_nil_iff] at hn
  rcases hn with hn|hn
  ·exact h0 hn
  ·rw[hn] at h;simp at h
theorem typed_ne {x:Sc} {n:Nat} {k:K} {v:V} (h:Typed x n k v):v.what≠61:=by
 cases n with
 | zero=>exact h.elim
 | succ n =>
  cases k with
  | num=>obtain⟨m,_,rfl⟩:=h;simp[V.what]
  | txt=>obtain⟨b,_,_,rfl⟩:=h;simp[V.what]
  | flag=>rcases h with rfl|rfl <;> simp[V.what]
  | list k=>obtain⟨l,_,_,rfl⟩:=h;simp[V.what]
  | opt k=>rcases h with rfl|⟨u,_,rfl⟩ <;> simp[V.what]
  | ref nm =>
   obtain⟨t,_,h⟩:=h
   rcases h with⟨_,f,_,_,rfl⟩|⟨_,_,f,u,_,_,_,rfl⟩|⟨_,_,l,_,_,rfl⟩ <;> simp[V.what]
end Wf

namespace Wf
set_option linter.unusedVariables false
set_option linter.unusedSimpArgs false
def Ty.fieldZ (t:Ty) (g:Int):Option Fd:=t.fields.find? fun f=>(f.tag:Int)==g
def recTy (x:Sc):K→Option Ty
 | .ref nm=>(x.find nm).bind fun t=>if t.sort=82 then some t else none
 | _=>none
theorem recTy_some {x:Sc} {k:K} {t:Ty} (h:recTy x k=some t):∃ nm,k=.ref nm∧x.find nm=some t∧t.sort=82:=by
 cases k with
 | ref nm =>
  simp only[recTy] at h
  cases hf:x.find nm with
  | none=>rw[hf] at h;cases h
  | some u =>
   rw[hf] at h
   simp only[Option.bind_some] at h
   split at h
   ·rename_i h82;cases h;exact⟨nm,rfl,hf,h82⟩
   ·cases h
 | _=>cases h
def recFd (x:Sc) (k:K) (g:Int):Option Fd:=(recTy x k).bind fun t=>t.fieldZ g
end Wf
