/- Packed. -/
import Derived.Test.YtidjpalnmnehmaaGreatDoorK4
import Derived.Test.YtidjpalnmnehmaaGreatDoorK2
import Derived.IntWalk
set_option maxRecDepth 99999
set_option maxHeartbeats 40000000
set_option linter.all false
namespace Go.Proofs.YtidjpalnmnehmaaGreatDoor
open Go.ChangeShapes Go.WideShapes Go.ChangeAt Go.RowKit Go.Lib
def aH (w:World) (b:Nat) (v:Value) (xs:List Value):Prop :=
 ∃ a cap,v=.slice a xs.length cap/\xs.length<=cap/\cap<=maxLen/\(xs=[]\/∃ o,a=some ⟨b,o,none⟩/\b<w.heap.size/\∀ i (h:i<xs.length),w.cell? ⟨b,o+i,none⟩=some xs[i]/\w.frozen? ⟨b,o+i,none⟩=false)
theorem aH.keep {w w':World} {b:Nat} {v:Value} {xs:List Value} (h:aH w b v xs) (hs:w.heap.size<=w'.heap.size) (hk:b<w.heap.size->w'.heap[b]? = w.heap[b]?):aH w' b v xs:=by
 obtain⟨a,cap,h1,h2,h3,h4⟩:=h;refine⟨a,cap,h1,h2,h3,?_⟩;rcases h4 with h4|⟨o,h5,h6,h7⟩
 ·exact .inl h4
 ·refine .inr ⟨o,h5,zaC h6 hs,fun i hi=>?_⟩
  have h8:=hk h6;exact⟨(zbJ (w:=w) (a:=⟨b,o+i,none⟩) h8).trans (h7 i hi).1,(World.frozen?_of_block (w:=w) (a:=⟨b,o+i,none⟩) h8).trans (h7 i hi).2⟩
theorem aH.below {w w':World} {b B:Nat} {v:Value} {xs:List Value} (h:aH w b v xs) (hb:Below B w w') (hB:b<w.heap.size->b<B):aH w' b v xs:=h.keep hb.size fun hx=>hb.block b (hB hx)
theorem aH.beside {w w':World} {b rb:Nat} {v:Value} {xs:List Value} (h:aH w b v xs) (hb:aA rb w w') (hB:b≠rb):aH w' b v xs:=h.keep hb.size fun hx=>hb.block b hx hB
theorem aH.drewN {w:World} {b:Nat} {v:Value} {xs:List Value} (h:aH w b v xs) (n:Nat):aH (w.drewN n) b v xs:=h.keep (zaA) fun _=>rfl
theorem aH.cO {w:World} {base:Nat} {e:TypeId} {v:Value} {xs:List Value} (h:w.ownsRow base e 1 v xs.length xs):∃ b,base<=b/\aH w b v xs:=by
 obtain⟨h1,h2|⟨g,cap,cur,h3,h4,h5,h6,h7,h8,h9⟩⟩:=h
 ·refine⟨base,zaA,none,0,?_,by omega,by unfold maxLen;omega,.inl (List.eq_nil_of_length_eq_zero h2.2)⟩
  rw[h2.1,h2.2]
 ·refine⟨g,h4,_,cap,h3,h6,h7,.inr ⟨0,rfl,(Array.getElem?_eq_some_iff.1 h5).1,fun i hi=>?_⟩⟩
  have hx:(cur.toList.take (xs.length*1))[i]? = xs[i]?:=by rw[h9]
  rw[List.getElem?_take,if_pos (by omega),zaV hi] at hx;have hx2:cur[i]? = some xs[i]:=by simpa using hx
  simp[World.cell?,World.frozen?,h5,hx2]
theorem jY {P:Program} (w:World) {ops:Array Oper} {rest:List Oper} {o:Oper} {a:Act} {Q:Exit->Act->World->Prop} (hgd:o.guard=none) (s x:Operand) (t:TypeId)
  (ho:o.op=.call { callee:=.builtin .append,args:=#[s,x],argTypes:=#[t,t] })
  (base:Nat) (e:TypeId) (z:Value) (bytes:Nat) (ht:P.underlying t=some (.slice e)) (hi:(P.info? e).map (fun i=>(i.zero,i.size,i.bytes))=some (some z,1,bytes)) (hz1:z.cells.size=1)
  (v:Value) (xs:List Value) (hs:a.eval s=v) (hown:w.ownsRow base e 1 v xs.length xs)
  (ad:Addr) (u:Value) (hx:a.eval x=.slice (some ad) 1 1) (hc:w.cell? ad=some u) (hu:u.oneCell'=true)
  (hn:(xs.length+1)*bytes<=140737488355328) (hn1:xs.length+1<=140737488355328) (hbase:base<=w.heap.size)
  (h:∀ v' w',w'.ownsRow base e 1 v' (xs++[u]).length (xs++[u])->Below base w w'->wpList P ops Q rest (a.put o.dst v') w'):wpList P ops Q (o::rest) a w:=by
 obtain⟨i0,hi0,hz0,hz2,hz3⟩:=info_parts hi;refine wpList_append_one w hgd s x t ho base e i0 z 1 bytes ht hi0 hz0 hz2 hz3 hz1 (by decide) v xs.length _ hs hown ad [u] hx rfl ?_ ?_ hn hn1 hbase ?_
 ·intro j u' hj
  match j,hj with
  | 0,hj=>simp at hj;subst hj;simpa[Addr.add] using hc
 ·intro u' hu';simp at hu';subst hu';exact hu
 ·intro v' w' g1 g2
  refine h v' w' ?_ g2;have e1:(xs++[u]).length=xs.length+1:=by simp
  rw[e1];exact g1
def digs (n:Nat):List UInt8:=if n=0 then [] else digs (n / 10)++[UInt8.ofNat (48+n % 10)]
termination_by n
decreasing_by omega
def mk (n:Nat):List UInt8:=109::digs n
def mE (w:World) (b o k n i:Nat):Prop:=b<w.heap.size/\∀ j,j<n->∃ s:ByteArray,w.cell? ⟨b,o+j,none⟩=some (.string s)/\w.frozen? ⟨b,o+j,none⟩=false/\(j<i->s=⟨(mk (k+j)).toArray⟩)
theorem mE.step {w w2:World} {b o k n i:Nat} (h:mE w b o k n i) (hb:Below w.heap.size w w2) (hi:i<n):mE (w2.setCell ⟨b,o+i,none⟩ (tx (mk (k+i)))) b o k n (i+1):=by
 obtain⟨h1,h2⟩:=h;refine⟨zaC (zaC h1 hb.size) (by simp),fun j hj=>?_⟩;obtain⟨s,h3,h4,h5⟩:=h2 j hj;have h3':w2.cell? ⟨b,o+j,none⟩=some (.string s):=by rw[hb.cell (p:=⟨b,o+j,none⟩) h1];exact h3
 have h4':w2.frozen? ⟨b,o+j,none⟩=false:=by rw[hb.frozen (p:=⟨b,o+j,none⟩) h1];exact h4
 by_cases hji:j=i
 ·subst hji
  exact⟨_,zbC w2 _ _ h3',by simpa using h4',fun _=>rfl⟩
 ·exact⟨s,(zbA w2 _ _ _ (by first|(simp;done)|(simp;omega))).trans h3',by simpa using h4',fun hlt=>h5 (by omega)⟩

def RowK (w:World) (b:Nat) (v:Value) (k:Nat) (es:List (List Value)):Prop :=
 ∃ a cap,v=.slice a es.length cap/\es.length<=cap/\cap<=maxLen/\(es=[]\/∃ o,a=some ⟨b,o,none⟩/\b<w.heap.size/\∀ i (h:i<es.length) j u,j<k->es[i][j]? = some u->w.cell? ⟨b,o+i*k+j,none⟩=some u)
theorem RowK.keep {w w':World} {b k:Nat} {v:Value} {es:List (List Value)} (h:RowK w b v k es) (hs:w.heap.size<=w'.heap.size) (hk:b<w.heap.size->w'.heap[b]? = w.heap[b]?):RowK w' b v k es:=by
 obtain⟨a,cap,h1,h2,h3,h4⟩:=h;refine⟨a,cap,h1,h2,h3,?_⟩;rcases h4 with h4|⟨o,h5,h6,h7⟩
 ·exact .inl h4
 ·exact .inr ⟨o,h5,zaC h6 hs,fun i hi j u hj hu=>(zbJ (w:=w) (a:=⟨b,o+i*k+j,none⟩) (hk h6)).trans (h7 i hi j u hj hu)⟩
theorem RowK.below {w w':World} {b k:Nat} {v:Value} {es:List (List Value)} (h:RowK w b v k es) (hb:Below w.heap.size w w'):RowK w' b v k es:=h.keep hb.size fun hx=>hb.block b hx
theorem RowK.drewN {w:World} {b k:Nat} {v:Value} {es:List (List Value)} (h:RowK w b v k es) (n:Nat):RowK (w.drewN n) b v k es:=h.keep (zaA) fun _=>rfl
theorem oE (k:Nat):∀ (es:List (List Value)),(∀ e∈es,e.length=k)->∀ i (hi:i<es.length) j,j<k->es.flatten[i*k+j]? = es[i][j]?:=by
 intro es;induction es with
 | nil=>intro _ i hi;simp at hi
 | cons e es ih =>
  intro hk i hi j hj;have he:e.length=k:=hk e (List.mem_cons_self ..);rw[List.flatten_cons];cases i with
  | zero =>
   rw[Nat.zero_mul,Nat.zero_add,List.getElem?_append_left (by omega)];rfl
  | succ i =>
   have e1:(i+1)*k+j=e.length+(i*k+j):=(by rw[Nat.succ_mul,he];omega);rw[e1,List.getElem?_append_right (by omega),Nat.add_sub_cancel_left];rw[ih (fun e' h'=>hk e' (List.mem_cons_of_mem _ h')) i (by simpa using hi) j hj];rfl
theorem RowK.cO {w:World} {base k:Nat} {e:TypeId} {v:Value} {es:List (List Value)} (h:w.ownsRow base e k v es.length es.flatten) (hk:∀ e∈es,e.length=k):∃ b,base<=b/\RowK w b v k es:=by
 obtain⟨h1,h2|⟨g,cap,cur,h3,h4,h5,h6,h7,h8,h9⟩⟩:=h
 ·refine⟨base,zaA,none,0,?_,by omega,by unfold maxLen;omega,.inl (List.eq_nil_of_length_eq_zero h2.2)⟩
  rw[h2.1,h2.2]
 ·refine⟨g,h4,_,cap,h3,h6,h7,.inr ⟨0,rfl,(Array.getElem?_eq_some_iff.1 h5).1,fun i hi j u hj hu=>?_⟩⟩
  have hlt:i*k+j<es.length*k:=by
   have:(i+1)*k<=es.length*k:=Nat.mul_le_mul_right k hi;rw[Nat.succ_mul] at this;omega
  have hx:(cur.toList.take (es.length*k))[i*k+j]? = es.flatten[i*k+j]?:=by rw[h9]
  rw[List.getElem?_take,if_pos hlt,oE k es hk i hi j hj,hu] at hx;have hx2:cur[i*k+j]? = some u:=by simpa using hx
  simp[World.cell?,h5,hx2]
def fdC (sort:UInt8) (f:Wf.Fd):List Value :=
 if sort=69 then [.int .i64 f.tag,tx f.name,tx [],tx [],tx [],tx []] else [.int .i64 f.tag,tx f.name,tx f.kind.signs,tx f.kind.base,tx f.kind.name,tx f.given]
theorem oK (sort:UInt8) (f:Wf.Fd):(fdC sort f).length=6:=by unfold fdC;split <;> rfl
def TyAt (w:World) (b:Nat) (t:Wf.Ty):Prop:=∃ fb v line,b<w.heap.size/\w.cell? ⟨b,0,none⟩=some (.int .u8 t.sort.toNat)/\w.cell? ⟨b,1,none⟩=some (tx t.name)/\w.cell? ⟨b,2,none⟩=some v/\w.cell? ⟨b,3,none⟩=some (.string line)/\RowK w fb v 6 (t.fields.map (fdC t.sort))
theorem TyAt.below {w w':World} {b:Nat} {t:Wf.Ty} (h:TyAt w b t) (hb:Below w.heap.size w w'):TyAt w' b t:=by
 obtain⟨fb,v,line,h0,h1,h2,h3,h4,h5⟩:=h;refine⟨fb,v,line,zaC h0 hb.size,?_,?_,?_,?_,h5.below hb⟩
 ·exact(hb.cell (p:=⟨b,0,none⟩) h0).trans h1
 ·exact(hb.cell (p:=⟨b,1,none⟩) h0).trans h2
 ·exact(hb.cell (p:=⟨b,2,none⟩) h0).trans h3
 ·exact(hb.cell (p:=⟨b,3,none⟩) h0).trans h4
abbrev ptr (b:Nat):Value:=.pointer (some ⟨b,0,none⟩)
def ptrR:Value->Option (DataW Unit × List MemPlace)
 | .pointer (some ⟨b,0,none⟩)=>some (.lit (.int .i64 b),[])
 | .pointer none=>some (.nil,[])
 | _=>none
theorem wP {v:Value} {d:DataW Unit} {ps:List MemPlace} (h:ptrR v=some (d,ps)):(∃ b:Nat,v=ptr b/\d=.lit (.int .i64 b))\/(v=.pointer none/\d=.nil):=by
 unfold ptrR at h;split at h
 ·rename_i b;cases h;exact .inl ⟨b,rfl,rfl⟩
 ·cases h;exact .inr ⟨rfl,rfl⟩
 ·cases h
def bB (w:World) (mb:Nat) (n:Nat) (f:List UInt8->Option Nat):Prop:=∃ D,w.ownsMap Tryz.prog 9 ptrR mb n D /\
 ∀ nm,D.atKey (.string nm) .nil=match f nm with|some b=>.lit (.int .i64 b)|none=>.nil

def mR (w:UInt8):Prop:=w=91\/w=63\/w=61\/w=82\/w=85
structure gL (what:UInt8) (tag:Nat) (kids:List Wf.V):Prop where
 tag:tag<=999999
 parts:kids≠[]->mR what
 fld:what=61->kids.length=1
mutual
def VC (W:World) (P:Nat->Prop):Wf.V->List Value->Prop
 | .mk what text tag kids,cs=>∃ (a:Option Addr) (c:Nat),cs=[.int .u8 what.toNat,tx text,.int .i64 tag,.slice a kids.length c]/\kids.length<=c/\c<=maxLen/\gL what tag kids/\(kids=[]\/∃ b o,a=some ⟨b,o,none⟩/\P b/\b<W.heap.size/\VCs W P b o kids)
def VCs (W:World) (P:Nat->Prop) (b:Nat):Nat->List Wf.V->Prop
 | _,[]=>True
 | o,v::l=>(∃ cs,VC W P v cs/\∀ j u,cs[j]? = some u->W.cell? ⟨b,o+j,none⟩=some u)/\VCs W P b (o+4) l
end
section
variable {W W':World} {P Q:Nat->Prop}
mutual
theorem VC.keep (hk:∀ b,P b->b<W.heap.size->Q b/\W'.heap[b]? = W.heap[b]?) (hs:W.heap.size<=W'.heap.size):∀ (v:Wf.V) (cs:List Value),VC W P v cs->VC W' Q v cs
 | .mk what text tag kids,cs,h=>by
  simp only[VC] at h ⊢;obtain⟨a,c,h1,h2,h3,h9,h4⟩:=h;refine⟨a,c,h1,h2,h3,h9,?_⟩;rcases h4 with h4|⟨b,o,h5,h6,h7,h8⟩
  ·exact .inl h4
  ·exact .inr ⟨b,o,h5,(hk b h6 h7).1,zaC h7 hs,VCs.keep hk hs b h6 h7 kids o h8⟩
theorem VCs.keep (hk:∀ b,P b->b<W.heap.size->Q b/\W'.heap[b]? = W.heap[b]?) (hs:W.heap.size<=W'.heap.size) (b:Nat) (hp:P b) (hb:b<W.heap.size):∀ (l:List Wf.V) (o:Nat),VCs W P b o l->VCs W' Q b o l
 | [],_,_=>trivial
 | v::l,o,h=>by
  simp only[VCs] at h ⊢;obtain⟨⟨cs,h1,h2⟩,h3⟩:=h;exact⟨⟨cs,VC.keep hk hs v cs h1,fun j u hu=>(zbJ (w:=W) (a:=⟨b,o+j,none⟩) (hk b hp hb).2).trans (h2 j u hu)⟩,VCs.keep hk hs b hp hb l (o+4) h3⟩
end
theorem VC.mono {v:Wf.V} {cs:List Value} (h:VC W P v cs) (hk:∀ b,P b->b<W.heap.size->Q b):VC W Q v cs:=VC.keep (fun b h1 h2=>⟨hk b h1 h2,rfl⟩) (zaA) v cs h
theorem VC.below {v:Wf.V} {cs:List Value} (h:VC W P v cs) (hb:Below W.heap.size W W'):VC W' P v cs:=VC.keep (fun b h1 h2=>⟨h1,hb.block b h2⟩) hb.size v cs h
theorem VCs.get {b:Nat}:∀ {l:List Wf.V} {o:Nat},VCs W P b o l->∀ i (hi:i<l.length),∃ cs,VC W P l[i] cs/\∀ j u,cs[j]? = some u->W.cell? ⟨b,o+i*4+j,none⟩=some u:=by
 intro l;induction l with
 | nil=>intro o _ i hi;simp at hi
 | cons v l ih =>
  intro o h i hi;simp only[VCs] at h;cases i with
  | zero =>
   obtain⟨⟨cs,h1,h2⟩,_⟩:=h;exact⟨cs,h1,fun j u hu=>by simpa using h2 j u hu⟩
  | succ i =>
   obtain⟨cs,h1,h2⟩:=ih h.2 i (by simpa using hi);refine⟨cs,h1,fun j u hu=>?_⟩;have:=h2 j u hu;rw[show o+4+i*4+j=o+(i+1)*4+j by omega] at this;exact this
theorem VCs.of {b:Nat}:∀ {l:List Wf.V} {o:Nat},(∀ i (hi:i<l.length),∃ cs,VC W P l[i] cs/\∀ j u,cs[j]? = some u->W.cell? ⟨b,o+i*4+j,none⟩=some u)->VCs W P b o l:=by
 intro l;induction l with
 | nil=>intro o _;trivial
 | cons v l ih =>
  intro o h;simp only[VCs];constructor
  ·obtain⟨cs,h1,h2⟩:=h 0 (by simp)
   exact⟨cs,h1,fun j u hu=>by simpa using h2 j u hu⟩
  ·refine ih fun i hi=>?_
   obtain⟨cs,h1,h2⟩:=h (i+1) (by simpa using hi);refine⟨cs,h1,fun j u hu=>?_⟩;have:=h2 j u hu;rw[show o+(i+1)*4+j=o+4+i*4+j by omega] at this;exact this
theorem VC.form {v:Wf.V} {cs:List Value} (h:VC W P v cs):∃ a c,cs=[.int .u8 v.what.toNat,tx v.text,.int .i64 v.tag,.slice a v.kids.length c]/\v.kids.length<=c/\c<=maxLen/\gL v.what v.tag v.kids/\(v.kids=[]\/∃ b o,a=some ⟨b,o,none⟩/\P b/\b<W.heap.size/\VCs W P b o v.kids):=by
 cases v with
 | mk what text tag kids =>
  simp only[VC] at h;exact h
theorem VC.len {v:Wf.V} {cs:List Value} (h:VC W P v cs):cs.length=4:=by
 obtain⟨a,c,h,_⟩:=h.form;rw[h];rfl
theorem VC.leaf (what:UInt8) (text:List UInt8) (tag:Nat) (ht:tag<=999999) (h61:what≠61):VC W P (.mk what text tag []) [.int .u8 what.toNat,tx text,.int .i64 tag,.slice none 0 0]:=by
 simp only[VC];exact⟨none,0,rfl,zaA,by unfold maxLen;omega,⟨ht,fun h=>absurd rfl h,fun h=>absurd h h61⟩,.inl trivial⟩
theorem VC.row {b:Nat} {a:Option Addr} {n c:Nat} {es:List (List Value)} {l:List Wf.V} (what:UInt8) (text:List UInt8) (tag:Nat) (hs:gL what tag l) (hr:RowK W b (.slice a n c) 4 es) (hp:es=[]\/P b) (hl:es.length=l.length) (hv:∀ i (h1:i<es.length) (h2:i<l.length),VC W P l[i] es[i]):VC W P (.mk what text tag l) [.int .u8 what.toNat,tx text,.int .i64 tag,.slice a n c]:=by
 obtain⟨a',c',e1,h2,h3,h4⟩:=hr;simp only[Value.slice.injEq] at e1;obtain⟨rfl,rfl,rfl⟩:=e1;simp only[VC];refine⟨a,c,by rw[hl],by omega,h3,hs,?_⟩;rcases h4 with h4|⟨o,h5,h6,h7⟩
 ·left
  rw[h4] at hl;exact List.eq_nil_of_length_eq_zero (by simpa using hl.symm)
 ·rcases hp with hp|hp
  ·left
   rw[hp] at hl;exact List.eq_nil_of_length_eq_zero (by simpa using hl.symm)
  right
  refine⟨b,o,h5,hp,h6,VCs.of fun i hi=>?_⟩;have h1:i<es.length:=by omega
  have hvc:=hv i h1 hi;exact⟨es[i],hvc,fun j u hu=>h7 i h1 j u (by have:=(List.getElem?_eq_some_iff.1 hu).1;rw[hvc.len] at this;exact this) hu⟩
end

theorem yA {n:Nat} (h:10<=n):Wf.dec n=Wf.dec (n / 10)++Wf.dec (n % 10):=by
 rw[Wf.dZ h,Wf.dec_lt (show n % 10<10 by omega)]
theorem rH (a b:List UInt8):(⟨a.toArray⟩:ByteArray)++⟨b.toArray⟩=⟨(a++b).toArray⟩:=by rw[aQ];simp
theorem aX {a b:ByteArray} (h:a=b):Ending.returned (.string a)=.returned (.string b):=by rw[h]
theorem gV (m:Nat):∀ (n:Nat) (w:World),n<=m->n<=999999->Calls Tryz.prog 60 #[.int .i64 n] w fun e w'=>e=.returned (tx (Wf.dec n))/\Below w.heap.size w w':=by
 have kc:=run_convert_lit (P:=Tryz.prog) 22 9 5 Tryz.underlying22 Tryz.underlying5 Tryz.underlying9;induction m with
 | zero =>
  intro n w hm hn;have:n=0:=by omega
  subst this;go_enter Tryz.func60,Tryz.ntmps60;go_wp2_with fail
  go_ret
  exact⟨by rw[Wf.dec_lt (by omega)];rfl,(zaB).alloc (zaA) _⟩
 | succ m ih =>
  intro n w hm hn;by_cases h:n<10
  ·have HD:=hid (Wf.dec_lt h)
   go_enter Tryz.func60,Tryz.ntmps60;go_wp2_with fail
   go_ret
   exact⟨by rw[HD.out];simp[UInt8.ofNat_add],(zaB).alloc (zaA) _⟩
  ·have HD:=hid (yA (n:=n) (by omega))
   have H1:=hid fun w=>ih (n / 10) w (by omega) (by omega);have H2:=hid fun w=>ih (n % 10) w (by omega) (by omega);obtain⟨a,ha⟩:∃ a,Wf.dec (n / 10)=a:=⟨_,rfl⟩;obtain⟨b,hb⟩:∃ b,Wf.dec (n % 10)=b:=⟨_,rfl⟩;have la:(⟨a.toArray⟩:ByteArray).size<=6:=(by rw[<-ha];exact Wf.cA (by omega));have lb:(⟨b.toArray⟩:ByteArray).size<=6:=(by rw[<-hb];exact Wf.cA (by omega));rw[ha] at H1;rw[hb] at H2;rw[ha,hb] at HD;have HA:=hid (rH a b);obtain⟨A,hA⟩:∃ A:ByteArray,(⟨a.toArray⟩:ByteArray)=A:=⟨_,rfl⟩;obtain⟨B,hB⟩:∃ B:ByteArray,(⟨b.toArray⟩:ByteArray)=B:=⟨_,rfl⟩;rw[tx,hA] at H1;rw[tx,hB] at H2;rw[hA,hB] at HA;rw[hA] at la;rw[hB] at lb;clear ih ha hb hA hB;go_enter Tryz.func60,Tryz.ntmps60;go_wp2_with (first|(go_at_call 60;have _u:=hb1;refine(H2.out _).mono ?_;rintro e w2 ⟨rfl,hb2⟩)|(go_at_call 60;refine(H1.out _).mono ?_;rintro e w1 ⟨rfl,hb1⟩))
   go_ret
   exact⟨by rw[HD.out,tx,<-HA.out];rfl,hb1.trans (hb2.mono hb1.size)⟩
theorem eF (m:Nat):∀ (n:Nat) (w:World),n<=m->n<=1000000000->Calls Tryz.prog 89 #[.int .i64 n] w fun e w'=>e=.returned (tx (Wf.dec n))/\Below w.heap.size w w':=by
 have kc:=run_convert_lit (P:=Tryz.prog) 22 9 5 Tryz.underlying22 Tryz.underlying5 Tryz.underlying9;induction m with
 | zero =>
  intro n w hm hn;have:n=0:=by omega
  subst this;go_enter Tryz.func89,Tryz.ntmps89;go_wp2_with fail
  go_ret
  exact⟨by rw[Wf.dec_lt (by omega)];rfl,(zaB).alloc (zaA) _⟩
 | succ m ih =>
  intro n w hm hn;by_cases h:n<10
  ·have HD:=hid (Wf.dec_lt h)
   go_enter Tryz.func89,Tryz.ntmps89;go_wp2_with fail
   go_ret
   exact⟨by rw[HD.out];simp[UInt8.ofNat_add],(zaB).alloc (zaA) _⟩
  ·obtain⟨q,hq⟩:∃ q,n / 10=q:=⟨_,rfl⟩
   obtain⟨r,hr⟩:∃ r,n % 10=r:=⟨_,rfl⟩;have hr9:r<10:=(by omega);have HD:=Wf.dZ (n:=n) (by omega);have H1:=hid fun w=>ih q w (by omega) (by omega);rw[hq,hr] at HD;obtain⟨a,ha⟩:∃ a,Wf.dec q=a:=⟨_,rfl⟩;have la:(⟨a.toArray⟩:ByteArray).size<=10:=(by rw[<-ha];exact Wf.gO q 9 (by have:(10:Nat)^10=10000000000:=rfl;omega));rw[ha] at H1 HD;obtain⟨A,hA⟩:∃ A:ByteArray,(⟨a.toArray⟩:ByteArray)=A:=⟨_,rfl⟩;have HA:A++(⟨#[48+UInt8.ofNat r]⟩:ByteArray)=⟨(Wf.dec n).toArray⟩:=by
    rw[HD,<-hA,<-rH,UInt8.ofNat_add];rfl
   rw[tx,hA] at H1;rw[hA] at la;have kc1:=fun W a c h=>run_convert_one (P:=Tryz.prog) 22 9 5 Tryz.underlying22 Tryz.underlying5 Tryz.underlying9 W a c (48+(r:Int)) h;have e1:IntKind.i64.wrap ((n:Int) / 10)=(q:Int):=(by rw[zbI _ (by omega)];omega);have e2:(n:Int).tmod 10=(r:Int):=(by rw[Int.tmod_eq_emod_of_nonneg (by omega)];omega);have e3:IntKind.i64.wrap (48+(r:Int))=48+(r:Int):=zbI _ (by omega);have e4:IntKind.u8.wrap (48+(r:Int))=48+(r:Int):=(by simp[IntKind.wrap,IntKind.bits,IntKind.signed];omega);have HAA:=hid HA;clear ih ha hA hq hr HD HA;go_enter Tryz.func89,Tryz.ntmps89;go_wp2_with fail
   go_region_with (go_at_call 89;refine(H1.out _).mono ?_;rintro e w1 ⟨rfl,hb1⟩;obtain⟨hc1,hc2⟩:=bcell hb1;have hz:w.heap.size<w1.heap.size+1:=(by have:=hb1.size;simp at this;omega);have B1:Below w.heap.size w w1:=(by first|exact aC ((zaB).drew) hb1|exact aC (((zaB).alloc (zaA) _).drew) hb1))
   all_goals go_wp2
   all_goals go_ret
   all_goals exact⟨aX HAA.out,by first|exact B1|exact B1.alloc B1.size _⟩
