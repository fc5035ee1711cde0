/- Packed by pack.py: PlainP PlainQ Va Nm. -/
import Derived.Test.YtmdacedmjbiekaaGreatDoorQ4
import Derived.Test.YtmdacedmjbiekaaGreatDoorQ3
import Derived.Test.YtmdacedmjbiekaaGreatDoorQ2
import Derived.Deep.RegionWith
import Derived.IntWalk
namespace Wf
set_option linter.unusedVariables false
set_option linter.unusedSimpArgs false
theorem parse_lt {x:Sc} {n:Nat} {k:K} {s r:Bs} {v:V} (h:parse x n k s=some (v,r)):r.length<s.length:=by
 obtain⟨ht,hs⟩:=parse_say n k s v r h
 obtain⟨c,t,hc,_⟩:=print_head ht
 rw[hs,hc]
 simp
 omega
theorem items_fuel {p:Reads} (hp:∀ s v r,p s=some (v,r)→r.length<s.length):∀ (m m':Nat) (s:Bs),s.length≤m→s.length≤m'→itemsW p m s=itemsW p m' s:=by
 intro m
 induction m with
 | zero =>
  intro m' s h1 h2
  cases m' with
  | zero=>rfl
  | succ m' =>
   have hs:s=[]:=List.eq_nil_of_length_eq_zero (by omega)
   subst hs
   simp only[itemsW]
   cases hq:p [] with
   | none=>rfl
   | some y=>have:=hp [] y.1 y.2 hq;simp at this
 | succ m ih =>
  intro m' s h1 h2
  cases m' with
  | zero =>
   have hs:s=[]:=List.eq_nil_of_length_eq_zero (by omega)
   subst hs
   simp only[itemsW]
   cases hq:p [] with
   | none=>rfl
   | some y=>have:=hp [] y.1 y.2 hq;simp at this
  | succ m' =>
   simp only[itemsW]
   cases hq:p s with
   | none=>rfl
   | some y =>
    obtain⟨v,rest⟩:=y
    have hlt:=hp s v rest hq
    dsimp only
    split
    ·rename_i r
     simp only[List.length_cons] at hlt
     rw[ih m' r (by omega) (by omega)]
    ·rfl
    ·rfl
def items (p:Reads) (s:Bs):Option (List V × Bs):=itemsW p s.length s
theorem items_step {p:Reads} (hp:∀ s v r,p s=some (v,r)→r.length<s.length) (s:Bs):items p s=match p s with
  | none=>none
  | some (v,rest) =>
   match rest with
   | 44::r=>(items p r).map fun x=>(v::x.1,x.2)
   | 93::r=>some ([v],r)
   | _=>none:=by
 unfold items
 rw[items_fuel hp s.length (s.length+1) s (Nat.le_refl _) (by omega)]
 simp only[itemsW]
 cases hq:p s with
 | none=>rfl
 | some y =>
  obtain⟨v,rest⟩:=y
  have hlt:=hp s v rest hq
  dsimp only
  split
  ·rename_i r
   simp only[List.length_cons] at hlt
   rw[items_fuel hp s.length r.length r (by omega) (Nat.le_refl _)]
   rfl
  ·rfl
  ·rename_i h1 h2
   split
   ·exact(h1 _ rfl).elim
   ·exact(h2 _ rfl).elim
   ·rfl
theorem items_ne {p:Reads} (hp:∀ s v r,p s=some (v,r)→r.length<s.length) {s:Bs} {l:List V} {q:Bs} (h:items p s=some (l,q)):l≠[]:=by
 rw[items_step hp] at h
 split at h
 ·cases h
 ·split at h
  ·rw[Option.map_eq_some_iff] at h
   obtain⟨y,_,hy⟩:=h
   simp only[Prod.mk.injEq] at hy
   rw[← hy.1];simp
  ·simp only[Option.some.injEq,Prod.mk.injEq] at h
   rw[← h.1];simp
  ·cases h
theorem numTok_lt {most n:Nat} {s r:Bs} (h:numTok most s=some (n,r)):r.length<s.length:=by
 obtain⟨m,h1,h2⟩:=Option.map_eq_some_iff.1 h
 simp only[Prod.mk.injEq] at h2
 have hne:s.takeWhile isDig≠[]:=by
  intro e
  rw[e] at h1
  simp[plainN] at h1
 have:=congrArg List.length (List.takeWhile_append_dropWhile (p:=isDig) (l:=s))
 rw[List.length_append] at this
 have h3:=List.length_pos_iff.2 hne
 rw[← h2.2]
 omega
theorem fieldTok_lt {t:Ty} {p:K→Reads} (hp:∀ k s v r,p k s=some (v,r)→r.length<s.length) {s r:Bs} {f:Fd} {v:V} (h:fieldTok t p s=some (f,v,r)):r.length+2<s.length:=by
 unfold fieldTok at h
 cases hn:numTok 200 s with
 | none=>rw[hn] at h;cases h
 | some y =>
  obtain⟨tag,rest⟩:=y
  have h1:=numTok_lt hn
  rw[hn] at h
  dsimp only at h
  split at h
  ·rename_i q f' hf
   simp only[List.length_cons] at h1
   obtain⟨y,hy,h2⟩:=Option.map_eq_some_iff.1 h
   simp only[Prod.mk.injEq] at h2
   have:=hp _ _ _ _ hy
   rw[← h2.2.2]
   omega
  ·cases h
theorem fields_fuel {x:Sc} {t:Ty} {p:K→Reads} (hp:∀ k s v r,p k s=some (v,r)→r.length<s.length):∀ (m m' last:Nat) (s:Bs),s.length≤m→s.length≤m'→fieldsW x t p m last s=fieldsW x t p m' last s:=by
 intro m
 induction m with
 | zero =>
  intro m' last s h1 h2
  cases m' with
  | zero=>rfl
  | succ m' =>
   have hs:s=[]:=List.eq_nil_of_length_eq_zero (by omega)
   subst hs
   simp only[fieldsW]
   cases hq:fieldTok t p [] with
   | none=>rfl
   | some y=>have:=fieldTok_lt hp hq;simp at this
 | succ m ih =>
  intro m' last s h1 h2
  cases m' with
  | zero =>
   have hs:s=[]:=List.eq_nil_of_length_eq_zero (by omega)
   subst hs
   simp only[fieldsW]
   cases hq:fieldTok t p [] with
   | none=>rfl
   | some y=>have:=fieldTok_lt hp hq;simp at this
  | succ m' =>
   simp only[fieldsW]
   cases hq:fieldTok t p s with
   | none=>rfl
   | some y =>
    obtain⟨f,v,rest⟩:=y
    have hlt:=fieldTok_lt hp hq
    dsimp only
    split
    ·rfl
    ·split
     ·rename_i r
      simp only[List.length_cons] at hlt
      rw[ih m' _ r (by omega) (by omega)]
     ·rfl
     ·rfl
def flds (x:Sc) (t:Ty) (p:K→Reads) (last:Nat) (s:Bs):Option (List V × Bs):=fieldsW x t p s.length last s
theorem flds_step {x:Sc} {t:Ty} {p:K→Reads} (hp:∀ k s v r,p k s=some (v,r)→r.length<s.length) (last:Nat) (s:Bs):flds x t p last s=match fieldTok t p s with
  | none=>none
  | some (f,v,rest) =>
   if f.tag≤last∨v.print=standF x f then none else
   match rest with
   | 44::r=>(flds x t p f.tag r).map fun y=>(.mk 61 [] f.tag [v]::y.1,y.2)
   | 125::r=>some ([.mk 61 [] f.tag [v]],r)
   | _=>none:=by
 unfold flds
 rw[fields_fuel hp s.length (s.length+1) last s (Nat.le_refl _) (by omega)]
 simp only[fieldsW]
 cases hq:fieldTok t p s with
 | none=>rfl
 | some y =>
  obtain⟨f,v,rest⟩:=y
  have hlt:=fieldTok_lt hp hq
  dsimp only
  split
  ·rfl
  ·split
   ·rename_i r
    simp only[List.length_cons] at hlt
    rw[fields_fuel hp s.length r.length _ r (by omega) (Nat.le_refl _)]
    rfl
   ·rfl
   ·rename_i h1 h2
    split
    ·exact(h1 _ rfl).elim
    ·exact(h2 _ rfl).elim
    ·rfl
def valIn (x:Sc) (k:K) (s:Bs):Option V:=if s.length≤400 then (match parse x 12 k s with|some (v,[])=>some v|_=>none) else none
theorem valIn_long {x:Sc} {k:K} {s:Bs} (h:¬ s.length≤400):valIn x k s=none:=by rw[valIn,if_neg h]
theorem valIn_deep {x:Sc} {k:K} {s:Bs} (h:s.length≤400):valIn x k s=match parse x 401 k s with
  | some (v,r)=>if r=[]∧v.deep≤12 then some v else none
  | none=>none:=by
 rw[valIn,if_pos h,parse_filter 12 401 (by omega) k s]
 cases parse x 401 k s with
 | none=>rfl
 | some y =>
  obtain⟨v,r⟩:=y
  by_cases hd:v.deep≤12
  ·simp only[Option.filter_some,hd,decide_true,if_true]
   cases r <;> simp
  ·simp only[Option.filter_some,hd,decide_false]
   simp
theorem valIn_some {x:Sc} {k:K} {s:Bs} {v:V} (h:valIn x k s=some v):Typed x 12 k v∧s=v.print∧s.length≤400:=by
 unfold valIn at h
 split at h
 ·rename_i hs
  split at h
  ·rename_i v' hp
   cases h
   obtain⟨h1,h2⟩:=parse_say _ _ _ _ _ hp
   exact⟨h1,by simpa using h2,hs⟩
  ·cases h
 ·cases h
theorem valIn_print {x:Sc} {n:Nat} {k:K} {v:V} (h:Typed x n k v) (hd:v.deep≤12) (hs:v.print.length≤400):valIn x k v.print=some v:=by
 have h12:=typed_of_deep n k v h 12 hd
 have:=typed_parse 12 k v [] h12 (by intro c hc;simp at hc)
 rw[List.append_nil] at this
 rw[valIn,if_pos hs,this]
end Wf

namespace Wf
set_option linter.unusedVariables false
set_option linter.unusedSimpArgs false
theorem parse_num (x:Sc) (n:Nat) (s:Bs):parse x (n+1) .num s=(numTok 999999 s).map fun y=>(.mk 110 (dec y.1) 0 [],y.2):=by simp only[parse]
theorem parse_txt_yes (x:Sc) (n:Nat) {s r q:Bs} (h1:s=39::r) (h2:r.dropWhile isTxt=39::q) (h3:(r.takeWhile isTxt).length≤12):parse x (n+1) .txt s=some (.mk 116 (r.takeWhile isTxt) 0 [],q):=by
 subst h1
 simp only[parse,h2,h3,if_true]
theorem parse_txt_no1 (x:Sc) (n:Nat) {s:Bs} (h:s.head? ≠ some 39):parse x (n+1) .txt s=none:=by
 simp only[parse]
 split
 ·simp at h
 ·rfl
theorem parse_txt_no2 (x:Sc) (n:Nat) {s r:Bs} (h1:s=39::r) (h2:(r.dropWhile isTxt).head? ≠ some 39):parse x (n+1) .txt s=none:=by
 subst h1
 simp only[parse]
 split
 ·rename_i q hq
  rw[hq] at h2
  simp at h2
 ·rfl
theorem parse_txt_no3 (x:Sc) (n:Nat) {s r:Bs} (h1:s=39::r) (h3:¬ (r.takeWhile isTxt).length≤12):parse x (n+1) .txt s=none:=by
 subst h1
 simp only[parse,h3,if_false]
 split <;> rfl
theorem parse_list (x:Sc) (n:Nat) (k:K) (s:Bs):parse x (n+1) (.list k) s=match s with
  | 91::r=>(match r with
   | 93::q=>some (.mk 91 [] 0 [],q)
   | _=>match items (parse x n k) r with
    | none=>none
    | some (l,q)=>if l.length≤20 then some (.mk 91 [] 0 l,q) else none)
  | _=>none:=by
 simp only[parse,items]
 rfl
theorem parse_opt (x:Sc) (n:Nat) (k:K) (s:Bs):parse x (n+1) (.opt k) s=match s with
  | 45::q=>some (.mk 63 [] 0 [],q)
  | 43::r=>(parse x n k r).map fun y=>(.mk 63 [] 0 [y.1],y.2)
  | _=>none:=by
 simp only[parse]
 rfl
theorem parse_ref (x:Sc) (n:Nat) (nm:Bs) (t:Ty) (h:x.find nm=some t) (s:Bs):parse x (n+1) (.ref nm) s=parseTy x (fun k' s'=>parse x n k' s') t s:=by
 simp only[parse]
 rw[h]
theorem parseTy_rec (x:Sc) (p:K→Reads) (t:Ty) (s:Bs) (h:t.sort=82):parseTy x p t s=match s with
  | 123::r=>(match r with
   | 125::q=>some (.mk 82 [] 0 [],q)
   | _=>(flds x t p 0 r).map fun y=>(.mk 82 [] 0 y.1,y.2))
  | _=>none:=by
 unfold parseTy flds
 rw[if_neg (by rw[h];decide),if_neg (by rw[h];decide)]
 rfl
theorem parseTy_uni (x:Sc) (p:K→Reads) (t:Ty) (s:Bs) (h:t.sort=85):parseTy x p t s=match s with
  | 60::r=>(match fieldTok t p r with
   | some (f,v,rest)=>closeU f.tag v rest
   | none=>none)
  | _=>none:=by
 unfold parseTy
 rw[if_neg (by rw[h];decide),if_pos h]
 rfl
theorem parseTy_enm (x:Sc) (p:K→Reads) (t:Ty) (s:Bs) (h:t.sort=69):parseTy x p t s=match s with
  | 35::r=>(match numTok 200 r with
   | none=>none
   | some (tag,rest)=>if (t.field tag).isSome then some (.mk 69 [] tag [],rest) else none)
  | _=>none:=by
 unfold parseTy
 rw[if_pos h]
 rfl
def Badv (s r:Bs) (v:V):Prop:=v.print.length+8 * r.length≤8 * s.length+8∧r.length≤s.length
theorem print_zero:(V.mk 0 [] 0 []).print=[]:=by simp[V.print,form]
theorem bad_num {s r:Bs} {m:Nat} (hm:m≤999999) (h:r.length≤s.length):Badv s r (.mk 110 (dec m) 0 []):=by
 refine⟨?_,h⟩
 rw[print_num]
 have:=dec_len6 hm
 omega
theorem bad_txt {s r t:Bs} (h:t.length+r.length≤s.length):Badv s r (.mk 116 t 0 []):=by
 refine⟨?_,by omega⟩
 rw[print_txt]
 simp
 omega
theorem bad_flag {s r t:Bs} (ht:t.length≤3) (h:r.length≤s.length):Badv s r (.mk 102 t 0 []):=by
 refine⟨?_,h⟩
 rw[print_flag]
 omega
theorem bad_enm {s r:Bs} {g:Nat} (hg:g≤999999) (h:r.length≤s.length):Badv s r (.mk 69 [] g []):=by
 refine⟨?_,h⟩
 rw[print_enm]
 have:=dec_len6 hg
 simp
 omega
theorem bad_opt {s r q:Bs} {c:UInt8} {v:V} (hs:s=c::q) (h:Badv q r v):Badv s r (.mk 63 [] 0 [v]):=by
 obtain⟨h1,h2⟩:=h
 subst hs
 refine⟨?_,by simp;omega⟩
 rw[print_some]
 simp
 omega
theorem bad_opt0 {s:Bs}:Badv s s (.mk 63 [] 0 [.mk 0 [] 0 []]):=by
 refine⟨?_,Nat.le_refl _⟩
 rw[print_some,print_zero]
 simp
 omega
theorem bad_uni0 {s r:Bs} (h:r.length≤s.length):Badv s r (.mk 85 [] 0 []):=by
 refine⟨?_,h⟩
 have:(V.mk 85 [] 0 []).print=[60,48,61,62]:=by
  simp[V.print,form,V.prints,commas]
  rw[dec_lt (by omega)]
  decide
 rw[this]
 simp
 omega
def pl (l:List V):Nat:=(l.map V.print).flatten.length+l.length
theorem pl_nil:pl []=0:=rfl
theorem pl_snoc (l:List V) (v:V):pl (l++[v])=pl l+v.print.length+1:=by
 unfold pl
 simp
 omega
theorem commas_pl {l:List V} (h:l≠[]):(commas (l.map V.print)).length+1=pl l:=by
 rw[commas_length _ (by simpa using h),pl,List.length_map]
theorem print_listlen {w:UInt8} (hw:w=91∨w=82) (l:List V):(V.mk w [] 0 l).print.length=(commas (l.map V.print)).length+2:=by
 rcases hw with rfl|rfl
 ·rw[print_list];simp
 ·rw[print_rec];simp
theorem bad_row {w:UInt8} (hw:w=91∨w=82) {s s0 s1 r:Bs} {l:List V} {u:V} (h0:s.length=s0.length+1) (h1:pl l+s1.length=s0.length) (h:Badv s1 r u):Badv s r (.mk w [] 0 (l++[u])):=by
 obtain⟨h2,h3⟩:=h
 refine⟨?_,by omega⟩
 rw[print_listlen hw]
 have:=commas_pl (l:=l++[u]) (by simp)
 rw[pl_snoc] at this
 omega
theorem bad_row_end {w:UInt8} (hw:w=91∨w=82) {s s0 r:Bs} {l:List V} (h0:s.length=s0.length+1) (hl:l≠[]) (h1:pl l+r.length≤s0.length+1):Badv s r (.mk w [] 0 l):=by
 have h2:=commas_pl hl
 have h3:1≤pl l:=by unfold pl;have:=List.length_pos_iff.2 hl;omega
 refine⟨?_,by omega⟩
 rw[print_listlen hw]
 omega
theorem bad_row0 {w:UInt8} (hw:w=91∨w=82) {s r:Bs} (h:r.length≤s.length):Badv s r (.mk w [] 0 []):=by
 refine⟨?_,h⟩
 rw[print_listlen hw]
 simp[commas]
 omega
theorem bad_field {s q r:Bs} {g:Nat} {u:V} (hg:g≤200) (hq:q.length+2≤s.length) (h:Badv q r u):Badv s r (.mk 61 [] g [u]):=by
 obtain⟨h1,h2⟩:=h
 refine⟨?_,by omega⟩
 rw[print_tag]
 have:=dec_len g 2 (by omega)
 simp
 omega
theorem bad_uni {s q r:Bs} {c:UInt8} {g:Nat} {u:V} (hs:s=c::q) (h:Badv q r (.mk 61 [] g [u])):Badv s r (.mk 85 [] g [u]):=by
 obtain⟨h1,h2⟩:=h
 subst hs
 refine⟨?_,by simp;omega⟩
 rw[print_tag] at h1
 rw[print_uni]
 simp at h1 ⊢
 omega
end Wf

namespace Go.Proofs.YtmdacedmjbiekaaGreatDoor
open Go.ChangeShapes Go.WideShapes Go.ChangeAt Go.RowKit Go.Lib
set_option linter.unusedVariables false
def hasParts (w:UInt8):Prop:=w=91∨w=63∨w=61∨w=82∨w=85
structure ShapeV (what:UInt8) (tag:Nat) (kids:List Wf.V):Prop where
 tag:tag≤999999
 parts:kids≠[]→hasParts what
 fld:what=61→kids.length=1
mutual
def VC (W:World) (P:Nat→Prop):Wf.V→List Value→Prop
 | .mk what text tag kids,cs=>∃ (a:Option Addr) (c:Nat),cs=[.int .u8 what.toNat,tx text, .int .i64 tag, .slice a kids.length c]∧kids.length≤c∧c≤maxLen∧ShapeV what tag kids∧(kids=[]∨∃ b o,a=some ⟨b,o,none⟩∧P b∧b<W.heap.size∧VCs W P b o kids)
def VCs (W:World) (P:Nat→Prop) (b:Nat):Nat→List Wf.V→Prop
 | _,[]=>True
 | o,v::l=>(∃ cs,VC W P v cs∧∀ j u,cs[j]? = some u→W.cell? ⟨b,o+j,none⟩=some u)∧VCs W P b (o+4) l
end
section
variable {W W':World} {P Q:Nat→Prop}
mutual
theorem VC.keep (hk:∀ b,P b→b<W.heap.size→Q b∧W'.heap[b]? = W.heap[b]?) (hs:W.heap.size≤W'.heap.size):∀ (v:Wf.V) (cs:List Value),VC W P v cs→VC W' Q v cs
 | .mk what text tag kids,cs,h=>by
  simp only[VC] at h ⊢
  obtain⟨a,c,h1,h2,h3,h9,h4⟩:=h
  refine⟨a,c,h1,h2,h3,h9, ?_⟩
  rcases h4 with h4|⟨b,o,h5,h6,h7,h8⟩
  ·exact .inl h4
  ·exact .inr ⟨b,o,h5,(hk b h6 h7).1,Nat.lt_of_lt_of_le h7 hs,VCs.keep hk hs b h6 h7 kids o h8⟩
theorem VCs.keep (hk:∀ b,P b→b<W.heap.size→Q b∧W'.heap[b]? = W.heap[b]?) (hs:W.heap.size≤W'.heap.size) (b:Nat) (hp:P b) (hb:b<W.heap.size):∀ (l:List Wf.V) (o:Nat),VCs W P b o l→VCs W' Q b o l
 | [],_,_=>trivial
 | v::l,o,h=>by
  simp only[VCs] at h ⊢
  obtain⟨⟨cs,h1,h2⟩,h3⟩:=h
  exact⟨⟨cs,VC.keep hk hs v cs h1,fun j u hu=>(World.cell?_of_block (w:=W) (a:=⟨b,o+j,none⟩) (hk b hp hb).2).trans (h2 j u hu)⟩,VCs.keep hk hs b hp hb l (o+4) h3⟩
end
theorem VC.mono {v:Wf.V} {cs:List Value} (h:VC W P v cs) (hk:∀ b,P b→b<W.heap.size→Q b):VC W Q v cs:=VC.keep (fun b h1 h2=>⟨hk b h1 h2,rfl⟩) (Nat.le_refl _) v cs h
theorem VC.below {v:Wf.V} {cs:List Value} (h:VC W P v cs) (hb:Below W.heap.size W W'):VC W' P v cs:=VC.keep (fun b h1 h2=>⟨h1,hb.block b h2⟩) hb.size v cs h
theorem VCs.get {b:Nat}:∀ {l:List Wf.V} {o:Nat},VCs W P b o l→∀ i (hi:i<l.length),∃ cs,VC W P l[i] cs∧∀ j u,cs[j]? = some u→W.cell? ⟨b,o+i * 4+j,none⟩=some u:=by
 intro l
 induction l with
 | nil=>intro o _ i hi;simp at hi
 | cons v l ih =>
  intro o h i hi
  simp only[VCs] at h
  cases i with
  | zero =>
   obtain⟨⟨cs,h1,h2⟩,_⟩:=h
   exact⟨cs,h1,fun j u hu=>by simpa using h2 j u hu⟩
  | succ i =>
   obtain⟨cs,h1,h2⟩:=ih h.2 i (by simpa using hi)
   refine⟨cs,h1,fun j u hu => ?_⟩
   have:=h2 j u hu
   rw[show o+4+i * 4+j=o+(i+1) * 4+j by omega] at this
   exact this
theorem VCs.of {b:Nat}:∀ {l:List Wf.V} {o:Nat},(∀ i (hi:i<l.length),∃ cs,VC W P l[i] cs∧∀ j u,cs[j]? = some u→W.cell? ⟨b,o+i * 4+j,none⟩=some u)→VCs W P b o l:=by
 intro l
 induction l with
 | nil=>intro o _;trivial
 | cons v l ih =>
  intro o h
  simp only[VCs]
  constructor
  ·obtain⟨cs,h1,h2⟩:=h 0 (by simp)
   exact⟨cs,h1,fun j u hu=>by simpa using h2 j u hu⟩
  ·refine ih fun i hi => ?_
   obtain⟨cs,h1,h2⟩:=h (i+1) (by simpa using hi)
   refine⟨cs,h1,fun j u hu => ?_⟩
   have:=h2 j u hu
   rw[show o+(i+1) * 4+j=o+4+i * 4+j by omega] at this
   exact this
theorem VC.form {v:Wf.V} {cs:List Value} (h:VC W P v cs):∃ a c,cs=[.int .u8 v.what.toNat,tx v.text, .int .i64 v.tag, .slice a v.kids.length c]∧v.kids.length≤c∧c≤maxLen∧ShapeV v.what v.tag v.kids∧(v.kids=[]∨∃ b o,a=some ⟨b,o,none⟩∧P b∧b<W.heap.size∧VCs W P b o v.kids):=by
 cases v with
 | mk what text tag kids =>
  simp only[VC] at h
  exact h
theorem VC.len {v:Wf.V} {cs:List Value} (h:VC W P v cs):cs.length=4:=by
 obtain⟨a,c,h,_⟩:=h.form
 rw[h];rfl
theorem VC.leaf (what:UInt8) (text:List UInt8) (tag:Nat) (ht:tag≤999999) (h61:what≠61):VC W P (.mk what text tag []) [.int .u8 what.toNat,tx text, .int .i64 tag, .slice none 0 0]:=by
 simp only[VC]
 exact⟨none,0,rfl,Nat.le_refl _,by unfold maxLen;omega,⟨ht,fun h=>absurd rfl h,fun h=>absurd h h61⟩, .inl trivial⟩
theorem VC.row {b:Nat} {a:Option Addr} {n c:Nat} {es:List (List Value)} {l:List Wf.V} (what:UInt8) (text:List UInt8) (tag:Nat) (hs:ShapeV what tag l) (hr:RowK W b (.slice a n c) 4 es) (hp:es=[]∨P b) (hl:es.length=l.length) (hv:∀ i (h1:i<es.length) (h2:i<l.length),VC W P l[i] es[i]):VC W P (.mk what text tag l) [.int .u8 what.toNat,tx text, .int .i64 tag, .slice a n c]:=by
 obtain⟨a',c',e1,h2,h3,h4⟩:=hr
 simp only[Value.slice.injEq] at e1
 obtain⟨rfl,rfl,rfl⟩:=e1
 simp only[VC]
 refine⟨a,c,by rw[hl],by omega,h3,hs, ?_⟩
 rcases h4 with h4|⟨o,h5,h6,h7⟩
 ·left
  rw[h4] at hl
  exact List.eq_nil_of_length_eq_zero (by simpa using hl.symm)
 ·rcases hp with hp|hp
  ·left
   rw[hp] at hl
   exact List.eq_nil_of_length_eq_zero (by simpa using hl.symm)
  right
  refine⟨b,o,h5,hp,h6,VCs.of fun i hi => ?_⟩
  have h1:i<es.length:=by omega
  have hvc:=hv i h1 hi
  exact⟨es[i],hvc,fun j u hu=>h7 i h1 j u (by have:=(List.getElem?_eq_some_iff.1 hu).1;rw[hvc.len] at this;exact this) hu⟩
end

theorem dec_step {n:Nat} (h:10≤n):Wf.dec n=Wf.dec (n / 10)++Wf.dec (n % 10):=by
 rw[Wf.dec_ge h,Wf.dec_lt (show n % 10<10 by omega)]
theorem tx_app (a b:List UInt8):(⟨a.toArray⟩:ByteArray)++⟨b.toArray⟩=⟨(a++b).toArray⟩:=by rw[eq_list];simp
theorem ret_str {a b:ByteArray} (h:a=b):Ending.returned (.string a)=.returned (.string b):=by rw[h]
set_option maxRecDepth 20000 in
theorem decimal (m:Nat):∀ (n:Nat) (w:World),n≤m→n≤999999→Calls Tryz.prog 94 #[.int .i64 n] w fun e w'=>e=.returned (tx (Wf.dec n))∧Below w.heap.size w w':=by
 have kc:=run_convert_lit (P:=Tryz.prog) 28 9 5 Tryz.underlying28 Tryz.underlying5 Tryz.underlying9
 induction m with
 | zero =>
  intro n w hm hn
  have:n=0:=by omega
  subst this
  go_enter Tryz.func94,Tryz.ntmps94
  go_wp2_with fail
  go_ret
  exact⟨by rw[Wf.dec_lt (by omega)];rfl,(Below.refl _ _).alloc (Nat.le_refl _) _⟩
 | succ m ih =>
  intro n w hm hn
  by_cases h:n<10
  ·have HD:=hid (Wf.dec_lt h)
   go_enter Tryz.func94,Tryz.ntmps94
   go_wp2_with fail
   go_ret
   exact⟨by rw[HD.out];simp[UInt8.ofNat_add],(Below.refl _ _).alloc (Nat.le_refl _) _⟩
  ·have HD:=hid (dec_step (n:=n) (by omega))
   have H1:=hid fun w=>ih (n / 10) w (by omega) (by omega)
   have H2:=hid fun w=>ih (n % 10) w (by omega) (by omega)
   obtain⟨a,ha⟩:∃ a,Wf.dec (n / 10)=a:=⟨_,rfl⟩
   obtain⟨b,hb⟩:∃ b,Wf.dec (n % 10)=b:=⟨_,rfl⟩
   have la:(⟨a.toArray⟩:ByteArray).size≤6:=by rw[← ha];exact Wf.dec_len6 (by omega)
   have lb:(⟨b.toArray⟩:ByteArray).size≤6:=by rw[← hb];exact Wf.dec_len6 (by omega)
   rw[ha] at H1
   rw[hb] at H2
   rw[ha,hb] at HD
   have HA:=hid (tx_app a b)
   obtain⟨A,hA⟩:∃ A:ByteArray,(⟨a.toArray⟩:ByteArray)=A:=⟨_,rfl⟩
   obtain⟨B,hB⟩:∃ B:ByteArray,(⟨b.toArray⟩:ByteArray)=B:=⟨_,rfl⟩
   rw[tx,hA] at H1
   rw[tx,hB] at H2
   rw[hA,hB] at HA
   rw[hA] at la
   rw[hB] at lb
   clear ih ha hb hA hB
   go_enter Tryz.func94,Tryz.ntmps94
   go_wp2_with (first|(go_at_call 94;have _u:=hb1;refine(H2.out _).mono ?_;rintro e w2 ⟨rfl,hb2⟩)|(go_at_call 94;refine(H1.out _).mono ?_;rintro e w1 ⟨rfl,hb1⟩))
   go_ret
   exact⟨by rw[HD.out,tx,← HA.out];rfl,hb1.trans (hb2.mono hb1.size)⟩
set_option maxRecDepth 20000 in
set_option maxHeartbeats 1000000 in
theorem l6Dec (m:Nat):∀ (n:Nat) (w:World),n≤m→n≤1000000000→Calls Tryz.prog 124 #[.int .i64 n] w fun e w'=>e=.returned (tx (Wf.dec n))∧Below w.heap.size w w':=by
 have kc:=run_convert_lit (P:=Tryz.prog) 28 9 5 Tryz.underlying28 Tryz.underlying5 Tryz.underlying9
 induction m with
 | zero =>
  intro n w hm hn
  have:n=0:=by omega
  subst this
  go_enter Tryz.func124,Tryz.ntmps124
  go_wp2_with fail
  go_ret
  exact⟨by rw[Wf.dec_lt (by omega)];rfl,(Below.refl _ _).alloc (Nat.le_refl _) _⟩
 | succ m ih =>
  intro n w hm hn
  by_cases h:n<10
  ·have HD:=hid (Wf.dec_lt h)
   go_enter Tryz.func124,Tryz.ntmps124
   go_wp2_with fail
   go_ret
   exact⟨by rw[HD.out];simp[UInt8.ofNat_add],(Below.refl _ _).alloc (Nat.le_refl _) _⟩
  ·obtain⟨q,hq⟩:∃ q,n / 10=q:=⟨_,rfl⟩
   obtain⟨r,hr⟩:∃ r,n % 10=r:=⟨_,rfl⟩
   have hr9:r<10:=by omega
   have HD:=Wf.dec_ge (n:=n) (by omega)
   have H1:=hid fun w=>ih q w (by omega) (by omega)
   rw[hq,hr] at HD
   obtain⟨a,ha⟩:∃ a,Wf.dec q=a:=⟨_,rfl⟩
   have la:(⟨a.toArray⟩:ByteArray).size≤10:=by rw[← ha];exact Wf.dec_len q 9 (by have:(10:Nat)^10=10000000000:=rfl;omega)
   rw[ha] at H1 HD
   obtain⟨A,hA⟩:∃ A:ByteArray,(⟨a.toArray⟩:ByteArray)=A:=⟨_,rfl⟩
   have HA:A++(⟨#[48+UInt8.ofNat r]⟩:ByteArray)=⟨(Wf.dec n).toArray⟩:=by
    rw[HD,← hA,← tx_app,UInt8.ofNat_add];rfl
   rw[tx,hA] at H1
   rw[hA] at la
   have kc1:=fun W a c h=>run_convert_one (P:=Tryz.prog) 28 9 5 Tryz.underlying28 Tryz.underlying5 Tryz.underlying9 W a c (48+(r:Int)) h
   have e1:IntKind.i64.wrap ((n:Int) / 10)=(q:Int):=by rw[IntWalk.i64_in _ (by omega)];omega
   have e2:(n:Int).tmod 10=(r:Int):=by rw[Int.tmod_eq_emod_of_nonneg (by omega)];omega
   have e3:IntKind.i64.wrap (48+(r:Int))=48+(r:Int):=IntWalk.i64_in _ (by omega)
   have e4:IntKind.u8.wrap (48+(r:Int))=48+(r:Int):=by simp[IntKind.wrap,IntKind.bits,IntKind.signed];omega
   have HAA:=hid HA
   clear ih ha hA hq hr HD HA
   go_enter Tryz.func124,Tryz.ntmps124
   go_wp2_with fail
   go_region_with (go_at_call 124;refine(H1.out _).mono ?_;rintro e w1 ⟨rfl,hb1⟩;obtain⟨hc1,hc2⟩:=bcell hb1;have hz:w.heap.size<w1.heap.size+1:=(by have:=hb1.size;simp at this;omega);have B1:Below w.heap.size w w1:=(by first|exact below_join ((Below.refl _ _).drew) hb1|exact below_join (((Below.refl _ _).alloc (Nat.le_refl _) _).drew) hb1))
   all_goals go_wp2
   all_goals go_ret
   all_goals exact⟨ret_str HAA.out,by first|exact B1|exact B1.alloc B1.size _⟩
end Go.Proofs.YtmdacedmjbiekaaGreatDoor
