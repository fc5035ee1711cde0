/- Packed. -/
import Derived.Test.YtmdacedmjbiekaaGreatDoorA3
import Derived.IntWalk
set_option maxRecDepth 99999
set_option maxHeartbeats 40000000
set_option linter.all false
namespace Go.Proofs.YtmdacedmjbiekaaGreatDoor
open Go.ChangeShapes Go.WideShapes Go.ChangeAt Go.RowKit Go.Lib
def rF (w:UInt8):Prop:=w=91\/w=63\/w=61\/w=82\/w=85
structure iU (what:UInt8) (tag:Nat) (kids:List Wf.V):Prop where
 tag:tag<=999999
 parts:kids≠[]->rF what
 fld:what=61->kids.length=1
mutual
def VC (W:World) (P:Nat->Prop):Wf.V->List Value->Prop
 | .mk what text tag kids,cs=>∃ (a:Option Addr) (c:Nat),cs=[.int .u8 what.toNat,tx text,.int .i64 tag,.slice a kids.length c]/\kids.length<=c/\c<=maxLen/\iU what tag kids/\(kids=[]\/∃ b o,a=some ⟨b,o,none⟩/\P b/\b<W.heap.size/\VCs W P b o kids)
def VCs (W:World) (P:Nat->Prop) (b:Nat):Nat->List Wf.V->Prop
 | _,[]=>True
 | o,v::l=>(∃ cs,VC W P v cs/\∀ j u,cs[j]? = some u->W.cell? ⟨b,o+j,none⟩=some u)/\VCs W P b (o+4) l
end
section
variable {W W':World} {P Q:Nat->Prop}
mutual
theorem VC.keep (hk:∀ b,P b->b<W.heap.size->Q b/\W'.heap[b]? = W.heap[b]?) (hs:W.heap.size<=W'.heap.size):∀ (v:Wf.V) (cs:List Value),VC W P v cs->VC W' Q v cs
 | .mk what text tag kids,cs,h=>by
  simp only[VC] at h ⊢;obtain⟨a,c,h1,h2,h3,h9,h4⟩:=h;refine⟨a,c,h1,h2,h3,h9,?_⟩;rcases h4 with h4|⟨b,o,h5,h6,h7,h8⟩
  ·exact .inl h4
  ·exact .inr ⟨b,o,h5,(hk b h6 h7).1,Nat.lt_of_lt_of_le h7 hs,VCs.keep hk hs b h6 h7 kids o h8⟩
theorem VCs.keep (hk:∀ b,P b->b<W.heap.size->Q b/\W'.heap[b]? = W.heap[b]?) (hs:W.heap.size<=W'.heap.size) (b:Nat) (hp:P b) (hb:b<W.heap.size):∀ (l:List Wf.V) (o:Nat),VCs W P b o l->VCs W' Q b o l
 | [],_,_=>trivial
 | v::l,o,h=>by
  simp only[VCs] at h ⊢;obtain⟨⟨cs,h1,h2⟩,h3⟩:=h;exact⟨⟨cs,VC.keep hk hs v cs h1,fun j u hu=>(World.cell?_of_block (w:=W) (a:=⟨b,o+j,none⟩) (hk b hp hb).2).trans (h2 j u hu)⟩,VCs.keep hk hs b hp hb l (o+4) h3⟩
end
theorem VC.mono {v:Wf.V} {cs:List Value} (h:VC W P v cs) (hk:∀ b,P b->b<W.heap.size->Q b):VC W Q v cs:=VC.keep (fun b h1 h2=>⟨hk b h1 h2,rfl⟩) (Nat.le_refl _) v cs h
theorem VC.below {v:Wf.V} {cs:List Value} (h:VC W P v cs) (hb:Below W.heap.size W W'):VC W' P v cs:=VC.keep (fun b h1 h2=>⟨h1,hb.block b h2⟩) hb.size v cs h
theorem VCs.get {b:Nat}:∀ {l:List Wf.V} {o:Nat},VCs W P b o l->∀ i (hi:i<l.length),∃ cs,VC W P l[i] cs/\∀ j u,cs[j]? = some u->W.cell? ⟨b,o+i*4+j,none⟩=some u:=by
 intro l;induction l with
 | nil=>intro o _ i hi;simp at hi
 | cons v l ih =>
  intro o h i hi;simp only[VCs] at h;cases i with
  | zero =>
   obtain⟨⟨cs,h1,h2⟩,_⟩:=h;exact⟨cs,h1,fun j u hu=>by simpa using h2 j u hu⟩
  | succ i =>
   obtain⟨cs,h1,h2⟩:=ih h.2 i (by simpa using hi);refine⟨cs,h1,fun j u hu=>?_⟩;have:=h2 j u hu;rw[show o+4+i*4+j=o+(i+1)*4+j by omega] at this;exact this
theorem VCs.of {b:Nat}:∀ {l:List Wf.V} {o:Nat},(∀ i (hi:i<l.length),∃ cs,VC W P l[i] cs/\∀ j u,cs[j]? = some u->W.cell? ⟨b,o+i*4+j,none⟩=some u)->VCs W P b o l:=by
 intro l;induction l with
 | nil=>intro o _;trivial
 | cons v l ih =>
  intro o h;simp only[VCs];constructor
  ·obtain⟨cs,h1,h2⟩:=h 0 (by simp)
   exact⟨cs,h1,fun j u hu=>by simpa using h2 j u hu⟩
  ·refine ih fun i hi=>?_
   obtain⟨cs,h1,h2⟩:=h (i+1) (by simpa using hi);refine⟨cs,h1,fun j u hu=>?_⟩;have:=h2 j u hu;rw[show o+(i+1)*4+j=o+4+i*4+j by omega] at this;exact this
theorem VC.form {v:Wf.V} {cs:List Value} (h:VC W P v cs):∃ a c,cs=[.int .u8 v.what.toNat,tx v.text,.int .i64 v.tag,.slice a v.kids.length c]/\v.kids.length<=c/\c<=maxLen/\iU v.what v.tag v.kids/\(v.kids=[]\/∃ b o,a=some ⟨b,o,none⟩/\P b/\b<W.heap.size/\VCs W P b o v.kids):=by
 cases v with
 | mk what text tag kids =>
  simp only[VC] at h;exact h
theorem VC.len {v:Wf.V} {cs:List Value} (h:VC W P v cs):cs.length=4:=by
 obtain⟨a,c,h,_⟩:=h.form;rw[h];rfl
theorem VC.leaf (what:UInt8) (text:List UInt8) (tag:Nat) (ht:tag<=999999) (h61:what≠61):VC W P (.mk what text tag []) [.int .u8 what.toNat,tx text,.int .i64 tag,.slice none 0 0]:=by
 simp only[VC];exact⟨none,0,rfl,Nat.le_refl _,by unfold maxLen;omega,⟨ht,fun h=>absurd rfl h,fun h=>absurd h h61⟩,.inl trivial⟩
theorem VC.row {b:Nat} {a:Option Addr} {n c:Nat} {es:List (List Value)} {l:List Wf.V} (what:UInt8) (text:List UInt8) (tag:Nat) (hs:iU what tag l) (hr:RowK W b (.slice a n c) 4 es) (hp:es=[]\/P b) (hl:es.length=l.length) (hv:∀ i (h1:i<es.length) (h2:i<l.length),VC W P l[i] es[i]):VC W P (.mk what text tag l) [.int .u8 what.toNat,tx text,.int .i64 tag,.slice a n c]:=by
 obtain⟨a',c',e1,h2,h3,h4⟩:=hr;simp only[Value.slice.injEq] at e1;obtain⟨rfl,rfl,rfl⟩:=e1;simp only[VC];refine⟨a,c,by rw[hl],by omega,h3,hs,?_⟩;rcases h4 with h4|⟨o,h5,h6,h7⟩
 ·left
  rw[h4] at hl;exact List.eq_nil_of_length_eq_zero (by simpa using hl.symm)
 ·rcases hp with hp|hp
  ·left
   rw[hp] at hl;exact List.eq_nil_of_length_eq_zero (by simpa using hl.symm)
  right
  refine⟨b,o,h5,hp,h6,VCs.of fun i hi=>?_⟩;have h1:i<es.length:=by omega
  have hvc:=hv i h1 hi;exact⟨es[i],hvc,fun j u hu=>h7 i h1 j u (by have:=(List.getElem?_eq_some_iff.1 hu).1;rw[hvc.len] at this;exact this) hu⟩
end

theorem a2D {n:Nat} (h:10<=n):Wf.dec n=Wf.dec (n / 10)++Wf.dec (n % 10):=by
 rw[Wf.eK h,Wf.dec_lt (show n % 10<10 by omega)]
theorem vL (a b:List UInt8):(⟨a.toArray⟩:ByteArray)++⟨b.toArray⟩=⟨(a++b).toArray⟩:=by rw[aW];simp
theorem bR {a b:ByteArray} (h:a=b):Ending.returned (.string a)=.returned (.string b):=by rw[h]
theorem iY (m:Nat):∀ (n:Nat) (w:World),n<=m->n<=999999->Calls Tryz.prog 94 #[.int .i64 n] w fun e w'=>e=.returned (tx (Wf.dec n))/\Below w.heap.size w w':=by
 have kc:=run_convert_lit (P:=Tryz.prog) 28 9 5 Tryz.underlying28 Tryz.underlying5 Tryz.underlying9;induction m with
 | zero =>
  intro n w hm hn;have:n=0:=by omega
  subst this;go_enter Tryz.func94,Tryz.ntmps94;go_wp2_with fail
  go_ret
  exact⟨by rw[Wf.dec_lt (by omega)];rfl,(Below.refl _ _).alloc (Nat.le_refl _) _⟩
 | succ m ih =>
  intro n w hm hn;by_cases h:n<10
  ·have HD:=hid (Wf.dec_lt h)
   go_enter Tryz.func94,Tryz.ntmps94;go_wp2_with fail
   go_ret
   exact⟨by rw[HD.out];simp[UInt8.ofNat_add],(Below.refl _ _).alloc (Nat.le_refl _) _⟩
  ·have HD:=hid (a2D (n:=n) (by omega))
   have H1:=hid fun w=>ih (n / 10) w (by omega) (by omega);have H2:=hid fun w=>ih (n % 10) w (by omega) (by omega);obtain⟨a,ha⟩:∃ a,Wf.dec (n / 10)=a:=⟨_,rfl⟩;obtain⟨b,hb⟩:∃ b,Wf.dec (n % 10)=b:=⟨_,rfl⟩;have la:(⟨a.toArray⟩:ByteArray).size<=6:=(by rw[<-ha];exact Wf.cA (by omega));have lb:(⟨b.toArray⟩:ByteArray).size<=6:=(by rw[<-hb];exact Wf.cA (by omega));rw[ha] at H1;rw[hb] at H2;rw[ha,hb] at HD;have HA:=hid (vL a b);obtain⟨A,hA⟩:∃ A:ByteArray,(⟨a.toArray⟩:ByteArray)=A:=⟨_,rfl⟩;obtain⟨B,hB⟩:∃ B:ByteArray,(⟨b.toArray⟩:ByteArray)=B:=⟨_,rfl⟩;rw[tx,hA] at H1;rw[tx,hB] at H2;rw[hA,hB] at HA;rw[hA] at la;rw[hB] at lb;clear ih ha hb hA hB;go_enter Tryz.func94,Tryz.ntmps94;go_wp2_with (first|(go_at_call 94;have _u:=hb1;refine(H2.out _).mono ?_;rintro e w2 ⟨rfl,hb2⟩)|(go_at_call 94;refine(H1.out _).mono ?_;rintro e w1 ⟨rfl,hb1⟩))
   go_ret
   exact⟨by rw[HD.out,tx,<-HA.out];rfl,hb1.trans (hb2.mono hb1.size)⟩
theorem eX (m:Nat):∀ (n:Nat) (w:World),n<=m->n<=1000000000->Calls Tryz.prog 124 #[.int .i64 n] w fun e w'=>e=.returned (tx (Wf.dec n))/\Below w.heap.size w w':=by
 have kc:=run_convert_lit (P:=Tryz.prog) 28 9 5 Tryz.underlying28 Tryz.underlying5 Tryz.underlying9;induction m with
 | zero =>
  intro n w hm hn;have:n=0:=by omega
  subst this;go_enter Tryz.func124,Tryz.ntmps124;go_wp2_with fail
  go_ret
  exact⟨by rw[Wf.dec_lt (by omega)];rfl,(Below.refl _ _).alloc (Nat.le_refl _) _⟩
 | succ m ih =>
  intro n w hm hn;by_cases h:n<10
  ·have HD:=hid (Wf.dec_lt h)
   go_enter Tryz.func124,Tryz.ntmps124;go_wp2_with fail
   go_ret
   exact⟨by rw[HD.out];simp[UInt8.ofNat_add],(Below.refl _ _).alloc (Nat.le_refl _) _⟩
  ·obtain⟨q,hq⟩:∃ q,n / 10=q:=⟨_,rfl⟩
   obtain⟨r,hr⟩:∃ r,n % 10=r:=⟨_,rfl⟩;have hr9:r<10:=(by omega);have HD:=Wf.eK (n:=n) (by omega);have H1:=hid fun w=>ih q w (by omega) (by omega);rw[hq,hr] at HD;obtain⟨a,ha⟩:∃ a,Wf.dec q=a:=⟨_,rfl⟩;have la:(⟨a.toArray⟩:ByteArray).size<=10:=(by rw[<-ha];exact Wf.eE q 9 (by have:(10:Nat)^10=10000000000:=rfl;omega));rw[ha] at H1 HD;obtain⟨A,hA⟩:∃ A:ByteArray,(⟨a.toArray⟩:ByteArray)=A:=⟨_,rfl⟩;have HA:A++(⟨#[48+UInt8.ofNat r]⟩:ByteArray)=⟨(Wf.dec n).toArray⟩:=by
    rw[HD,<-hA,<-vL,UInt8.ofNat_add];rfl
   rw[tx,hA] at H1;rw[hA] at la;have kc1:=fun W a c h=>run_convert_one (P:=Tryz.prog) 28 9 5 Tryz.underlying28 Tryz.underlying5 Tryz.underlying9 W a c (48+(r:Int)) h;have e1:IntKind.i64.wrap ((n:Int) / 10)=(q:Int):=(by rw[IntWalk.i64_in _ (by omega)];omega);have e2:(n:Int).tmod 10=(r:Int):=(by rw[Int.tmod_eq_emod_of_nonneg (by omega)];omega);have e3:IntKind.i64.wrap (48+(r:Int))=48+(r:Int):=IntWalk.i64_in _ (by omega);have e4:IntKind.u8.wrap (48+(r:Int))=48+(r:Int):=(by simp[IntKind.wrap,IntKind.bits,IntKind.signed];omega);have HAA:=hid HA;clear ih ha hA hq hr HD HA;go_enter Tryz.func124,Tryz.ntmps124;go_wp2_with fail
   go_region_with (go_at_call 124;refine(H1.out _).mono ?_;rintro e w1 ⟨rfl,hb1⟩;obtain⟨hc1,hc2⟩:=bcell hb1;have hz:w.heap.size<w1.heap.size+1:=(by have:=hb1.size;simp at this;omega);have B1:Below w.heap.size w w1:=(by first|exact aC ((Below.refl _ _).drew) hb1|exact aC (((Below.refl _ _).alloc (Nat.le_refl _) _).drew) hb1))
   all_goals go_wp2
   all_goals go_ret
   all_goals exact⟨bR HAA.out,by first|exact B1|exact B1.alloc B1.size _⟩
