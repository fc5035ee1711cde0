/- Packed. -/
import Derived.Test.YtidjpalnmnehmaaGreatDoorK17
import Derived.Deep.AppendLies
import Derived.Deep.RegionLaw
set_option maxRecDepth 99999
set_option maxHeartbeats 40000000
set_option linter.all false
namespace Go.Proofs.YtidjpalnmnehmaaGreatDoor
open Go.ChangeShapes Go.WideShapes Go.ChangeAt Go.RowKit Go.Lib
theorem uM:(Tryz.prog.info? 143).map (fun i=>(i.zero,i.size,i.bytes))=some (some (.agg #[.int .u8 0,tx [],.slice none 0 0]),3,48):=by kernel_rfl
theorem new3 (W:World) (x0 x1 x2:Value) (et:TypeId):∀ (j:Nat) (u:Value),[x0,x1,x2][j]? = some u->(W.alloc (.cells #[x0,x1,x2] et)).cell? (Addr.add ⟨W.heap.size,0,none⟩ j)=some u:=by
 intro j u hj;match j,hj with
 | 0,hj=>simp at hj;subst hj;simp[Addr.add]
 | 1,hj=>simp at hj;subst hj;simp[Addr.add]
 | 2,hj=>simp at hj;subst hj;simp[Addr.add]
theorem wE (W:World) (o:Obj) (x0 x1 x2:Value) (et:TypeId):∀ (j:Nat) (u:Value),[x0,x1,x2][j]? = some u->((W.alloc o).alloc (.cells #[x0,x1,x2] et)).cell? (Addr.add ⟨W.heap.size+1,0,none⟩ j)=some u:=by
 intro j u hj;have h:=new3 (W.alloc o) x0 x1 x2 et j u hj;simpa using h
theorem one3 (q:Int) (a:ByteArray) (b:Option Addr) (n c:Nat):∀ u∈[Value.int .u8 q,Value.string a,Value.slice b n c],u.oneCell'=true:=by
 intro u hu;simp only[List.mem_cons,List.not_mem_nil,or_false] at hu;rcases hu with rfl|rfl|rfl <;> rfl
theorem a2N:∀ (l:List Wf.Bs) (s:Wf.Bs) (acc:List Wf.Ty) (t:Wf.Ty),Wf.mapTys l=some acc->Wf.lineTy s=some t->Wf.mapTys (l++[s])=some (acc++[t]):=by
 intro l;induction l with
 | nil=>intro s acc t h1 h2;simp only[Wf.mapTys,zaE] at h1;subst h1;simp[Wf.mapTys,h2]
 | cons a l ih =>
  intro s acc t h1 h2;simp only[Wf.mapTys] at h1;cases ha:Wf.lineTy a with
  | none=>rw[ha] at h1;cases h1
  | some u =>
   rw[ha] at h1;cases hl:Wf.mapTys l with
   | none=>rw[hl] at h1;cases h1
   | some r =>
    rw[hl] at h1;simp only[zaL,zaE] at h1;subst h1;simp[Wf.mapTys,ha,ih s r t hl h2]
theorem zW:∀ (l:List Wf.Bs) (s:Wf.Bs) (m:List Wf.Bs),Wf.lineTy s=none->Wf.mapTys (l++s::m)=none:=by
 intro l;induction l with
 | nil=>intro s m h;simp[Wf.mapTys,h]
 | cons a l ih =>
  intro s m h;simp only[zaN,Wf.mapTys,ih s m h];cases Wf.lineTy a <;> rfl
theorem a1W:∀ (l:List Wf.Bs) (acc:List Wf.Ty),Wf.mapTys l=some acc->∀ t∈acc,Wf.TyOk t:=by
 intro l;induction l with
 | nil=>intro acc h t ht;simp only[Wf.mapTys,zaE] at h;subst h;cases ht
 | cons a l ih =>
  intro acc h t ht;simp only[Wf.mapTys] at h;cases ha:Wf.lineTy a with
  | none=>rw[ha] at h;cases h
  | some u =>
   rw[ha] at h;cases hl:Wf.mapTys l with
   | none=>rw[hl] at h;cases h
   | some r =>
    rw[hl] at h;simp only[zaL,zaE] at h;subst h;rcases List.mem_cons.1 ht with rfl|ht
    ·exact Wf.lZ ha
    ·exact ih r hl t ht
theorem gR {s:List UInt8} {k:Wf.K} (h:Wf.aM s=some k):k.text.length<=12:=by
 unfold Wf.aM at h;split at h
 ·rw[Wf.iQ h];assumption
 ·cases h
theorem eV {q:UInt8} {f:Wf.Fd} (h:Wf.FdOk q f):f.kind.text.length<=12:=by
 by_cases hq:q=69
 ·rw[(h.enum hq).1];decide
 ·obtain⟨s,hs⟩:=h.kind hq
  exact gR hs
theorem tW {t:Wf.Ty} (h:Wf.TyOk t):Good t:=⟨fun hs=>h.some (by rw[hs];decide),fun f hf=>by have:=eV (h.fds f hf);omega⟩
theorem ScSp.mono {w:World} {lo lo' b:Nat} {v:Value} {x:Wf.Sc} (h:ScSp w lo b v x) (hl:lo'<=lo):ScSp w lo' b v x:=by
 obtain⟨cs,h0,h1,h2,h3⟩:=h;refine⟨cs,zaI hl h0,h1,h2,fun i hi hi'=>?_⟩;obtain⟨fb,a,c,g1,g2,g3⟩:=h3 i hi hi';exact⟨fb,a,c,g1,zaI hl g2,g3⟩
structure bL (lo:Nat) (w w':World):Prop where
 size:w.heap.size<=w'.heap.size
 block:∀ k,lo<=k->k<w.heap.size->w'.heap[k]? = w.heap[k]?
theorem bL.refl (lo:Nat) (w:World):bL lo w w:=⟨zaA,fun _ _ _=>rfl⟩
theorem bL.trans {lo:Nat} {a b c:World} (h:bL lo a b) (k:bL lo b c):bL lo a c:=⟨zaI h.size k.size,fun i hi hs=>(k.block i hi (zaC hs h.size)).trans (h.block i hi hs)⟩
theorem bL.aF {lo:Nat} {a b:World} (h:Below a.heap.size a b):bL lo a b:=⟨h.size,fun k _ hk=>h.block k hk⟩
theorem bL.set {lo:Nat} {a b:World} (h:bL lo a b) {r:Nat} (hr:r<lo) (o:Nat) (u:Value):bL lo a (b.setCell ⟨r,o,none⟩ u) :=
 h.trans ⟨by simp,fun k hk _=>Below.heap_setCell b ⟨r,o,none⟩ u k (by simp;omega)⟩
theorem bL.drew {lo:Nat} {a b:World} (h:bL lo a b):bL lo a b.drew:=h.trans ⟨zaA,fun _ _ _=>rfl⟩
theorem bL.drewN {lo:Nat} {a b:World} (h:bL lo a b) (n:Nat):bL lo a (b.drewN n):=h.trans ⟨zaA,fun _ _ _=>rfl⟩
theorem bL.alloc {lo:Nat} {a b:World} (h:bL lo a b) (o:Obj):bL lo a (b.alloc o):=h.trans (bL.aF ((zaB).alloc (zaA) _))
def dO (l:List UInt8) (lo:Nat) (e:Ending) (w':World):Prop:=match Wf.schemaOf l with
 | some x=>∃ b v,e=.returned (.tuple #[v,.bool true])/\ScSp w' lo b v x
 | none=>∃ a n c,e=.returned (.tuple #[.slice a n c,.bool false])
theorem iG {l:List UInt8} {lo:Nat} {e:Ending} {w':World} (h:Wf.schemaOf l=none) (he:∃ a n c,e=.returned (.tuple #[.slice a n c,.bool false])):dO l lo e w':=by
 unfold dO;rw[h];exact he
theorem vP {l:List UInt8} {lo:Nat} {e:Ending} {w':World} {x:Wf.Sc} {b n:Nat} {a:Option Addr} {c:Nat} (h:Wf.schemaOf l=if bR x=true then some x else none) (hs:ScSp w' lo b (.slice a n c) x) (he:e=.returned (.tuple #[.slice a n c,.bool (bR x)])):dO l lo e w':=by
 cases hv:bR x with
 | true=>rw[hv,if_pos rfl] at h;rw[hv] at he;unfold dO;rw[h];exact⟨b,_,he,hs⟩
 | false=>rw[hv,if_neg (by decide)] at h;rw[hv] at he;exact iG h ⟨_,_,_,he⟩
def TyX (w:World) (lo:Nat) (g:Option Nat) (cs:List Value) (t:Wf.Ty):Prop:=∃ fb a c,cs=[.int .u8 t.sort.toNat,tx t.name,.slice a t.fields.length c]/\lo<=fb/\(t.fields=[]\/some fb≠g/\fb<w.heap.size)/\RowK w fb (.slice a t.fields.length c) 4 (t.fields.map (fdS t.sort))
theorem TyX.sp {w:World} {lo:Nat} {g:Option Nat} {cs:List Value} {t:Wf.Ty} (h:TyX w lo g cs t):TySp w lo cs t:=by
 obtain⟨fb,a,c,h1,h0,h2,h3⟩:=h;exact⟨fb,a,c,h1,h0,h3⟩
theorem TyX.below {w w':World} {lo:Nat} {g:Option Nat} {cs:List Value} {t:Wf.Ty} (h:TyX w lo g cs t) (hb:Below w.heap.size w w'):TyX w' lo g cs t:=by
 obtain⟨fb,a,c,h1,h0,h2,h3⟩:=h;exact⟨fb,a,c,h1,h0,h2.imp_right fun h=>⟨h.1,zaC h.2 hb.size⟩,h3.below hb⟩
theorem RowK.grown {w w':World} {b k:Nat} {v:Value} {es:List (List Value)} {g:Option Nat} (h:RowK w b v k es) (hg:w.grownBy w' g) (hb:es=[]\/some b≠g):RowK w' b v k es:=by
 obtain⟨a,cap,h1,h2,h3,h4⟩:=h;refine⟨a,cap,h1,h2,h3,?_⟩;rcases h4 with h4|⟨o,h5,h6,h7⟩
 ·exact .inl h4
 ·rcases hb with hb|hb
  ·exact .inl hb
  ·exact .inr ⟨o,h5,zaC h6 hg.size,fun i hi j u hj hu=>(zbJ (w:=w) (a:=⟨b,o+i*k+j,none⟩) (hg.block b h6 hb)).trans (h7 i hi j u hj hu)⟩
theorem TyX.grown {w w':World} {lo:Nat} {g g':Option Nat} {cs:List Value} {t:Wf.Ty} (h:TyX w lo g cs t) (hg:w.grownBy w' g) (hg':g'=g\/g'=some w.heap.size):TyX w' lo g' cs t:=by
 obtain⟨fb,a,c,h1,h0,h2,h3⟩:=h;refine⟨fb,a,c,h1,h0,h2.imp_right fun h=>⟨?_,zaC h.2 hg.size⟩,h3.grown hg (by
  rcases h2 with h|h
  ·left;rw[h];rfl
  ·exact .inr h.1)⟩
 rcases hg' with rfl|rfl
 ·exact h.1
 ·intro e;have:=Option.some.inj e;omega
structure OfSt (w1 wr:World) (ps:List (List UInt8)) (k:Nat) (acc:List Wf.Ty) (a:Option Addr) (c:Nat) (es:List (List Value)):Prop where
 map:Wf.mapTys (ps.take k)=some acc
 len:acc.length=k
 elen:es.length=k
 own:wr.ownsRow w1.heap.size 143 3 (.slice a k c) k es.flatten
 e3:∀ e∈es,e.length=3
 tys:∀ i (h:i<es.length) (h':i<acc.length),TyX wr w1.heap.size (Value.slice a k c).ownBlock es[i] acc[i]
 below:Below w1.heap.size w1 wr
theorem OfSt.step {w1 wr w2:World} {ps:List (List UInt8)} {k:Nat} {acc:List Wf.Ty} {a:Option Addr} {c:Nat} {es:List (List Value)} (h:OfSt w1 wr ps k acc a c es) (hb:Below wr.heap.size wr w2):OfSt w1 w2 ps k acc a c es :=
 ⟨h.map,h.len,h.elen,bY h.own hb,h.e3,fun i hi hi'=>(h.tys i hi hi').below hb,h.below.trans (hb.mono h.below.size)⟩
theorem OfSt.start (w1:World) (ps:List (List UInt8)):OfSt w1 (w1.alloc (.cells #[] 143)) ps 0 [] (some ⟨w1.heap.size,0,none⟩) 0 [] :=
 ⟨rfl,rfl,rfl,World.ownsRow_made w1 #[] 0 (zaA) (by decide) rfl,(fun _ h=>by cases h),(fun i h=>by simp at h),(zaB).alloc (zaA) _⟩
theorem aU {w:World} {base:Nat} {e:TypeId} {size n:Nat} {v:Value} {xs:List Value} (h:w.ownsRow base e size v n xs):∀ g,v.ownBlock=some g->base<=g/\g<w.heap.size:=by
 obtain⟨_,⟨rfl,_⟩|⟨g,cap,cur,rfl,h4,h5,_⟩⟩:=h
 ·intro g hg;cases hg
 ·intro g' hg'
  simp only[Value.ownBlock,zaE] at hg';subst hg';exact⟨h4,(Array.getElem?_eq_some_iff.1 h5).1⟩
theorem aW {base:Nat} {w w':World} {g:Option Nat} (hg:w.grownBy w' g) (h:∀ k,g=some k->base<=k) (hb:base<=w.heap.size):Below base w w':=(Below.refl base w).grown hg hb h
theorem OfSt.put {w1 wr wx w':World} {ps:List (List UInt8)} {k:Nat} {acc:List Wf.Ty} {a a':Option Addr} {c c':Nat} {es:List (List Value)} {t:Wf.Ty} {fb:Nat} {fa:Option Addr} {fc:Nat} (h:OfSt w1 wr ps k acc a c es) (hx:Below wr.heap.size wr wx) (hg:wx.grownBy w' (Value.slice a k c).ownBlock) (hk:k<ps.length) (ht:Wf.lineTy ps[k]=some t)
  (hloc:(Value.slice a' (k+1) c').ownBlock=(Value.slice a k c).ownBlock\/(Value.slice a' (k+1) c').ownBlock=some wx.heap.size)
  (hfb:wr.heap.size<=fb) (hrow:RowK wx fb (.slice fa t.fields.length fc) 4 (t.fields.map (fdS t.sort))) (ho:w'.ownsRow w1.heap.size 143 3 (.slice a' (k+1) c') (k+1) (es.flatten++[.int .u8 t.sort.toNat,tx t.name,.slice fa t.fields.length fc])):OfSt w1 w' ps (k+1) (acc++[t]) a' c' (es++[[.int .u8 t.sort.toNat,tx t.name,.slice fa t.fields.length fc]]):=by
 have hl:(es++[[Value.int .u8 t.sort.toNat,tx t.name,.slice fa t.fields.length fc]]).length=k+1:=by rw[zaD,h.elen];rfl
 have hs:=h.step hx;have hlt:=aU h.own;have new:TyX wx w1.heap.size (Value.slice a k c).ownBlock [.int .u8 t.sort.toNat,tx t.name,.slice fa t.fields.length fc] t:=by
  refine⟨fb,fa,fc,rfl,zaI h.below.size hfb,?_,hrow⟩;by_cases h0:t.fields=[]
  ·exact .inl h0
  ·right
   obtain⟨_,_,_,_,_,h4⟩:=hrow;rcases h4 with h4|⟨_,_,h6,_⟩
   ·exact absurd (List.map_eq_nil_iff.1 h4) h0
   ·refine⟨fun e=>?_,h6⟩
    have:=(hlt fb e.symm).2;omega
 refine⟨?_,by rw[zaD,h.len];rfl,hl,?_,?_,?_,?_⟩
 ·rw[List.take_add_one,zaV hk];exact a2N _ _ _ _ h.map ht
 ·rw[List.flatten_append,List.flatten_cons,List.flatten_nil,List.append_nil];exact ho
 ·intro x hx
  rcases List.mem_append.1 hx with hx|hx
  ·exact h.e3 x hx
  ·rw[List.mem_singleton.1 hx];rfl
 ·intro i hi hi'
  have e1:=h.elen;have e2:=h.len;by_cases hik:i<k
  ·rw[List.getElem_append_left (by omega),List.getElem_append_left (by omega)];exact(hs.tys i (by omega) (by omega)).grown hg hloc
  ·have:i=k:=by omega
   subst this;rw[List.getElem_append_right (by omega),List.getElem_append_right (by omega)];simpa[e1,e2] using new.grown hg hloc
 ·exact hs.below.trans (aW hg (fun g hgk=>(hlt g hgk).1) hs.below.size)
theorem OfSt.sc {w1 wr:World} {ps:List (List UInt8)} {k:Nat} {acc:List Wf.Ty} {a:Option Addr} {c:Nat} {es:List (List Value)} (h:OfSt w1 wr ps k acc a c es):∃ b,ScSp wr w1.heap.size b (.slice a k c) acc:=by
 have ho:=h.own;have he:=h.elen;rw[<-he] at ho;obtain⟨b,hb,hr⟩:=RowK.cO ho h.e3;rw[he] at hr;exact⟨b,es,hb,hr,by rw[h.elen,h.len],fun i hi hi'=>(h.tys i hi hi').sp⟩
theorem uW (s:ByteArray) (w:World) (hs:s.size<=1048576) (ps:List (List UInt8)) (hcut:∀ w,Calls Tryz.prog 118 #[.string s,.int .u8 10] w fun e w'=>bA w ps e w') (h:400<s.size\/9<ps.length) :
  Calls Tryz.prog 81 #[.string s] w fun e w'=>e=.returned (.tuple #[.slice none 0 0,.bool false])/\Below w.heap.size w w':=by
 have HC:=hid hcut;clear hcut;obtain⟨n,hn⟩:∃ n,ps.length=n:=⟨_,rfl⟩;rw[hn] at h;have HN:=hid hn;clear hn;by_cases h4:400<s.size
 ·clear h
  go_enter Tryz.func81,Tryz.ntmps81;go_wp2_with (go_at_call 118;refine(HC.out _).mono ?_;rintro e w1 ⟨b1,v1,rfl,hb1,hr1,hB1⟩;obtain⟨a1,c1,rfl⟩:=hr1.len (n:=n) (by rw[zaG];exact HN.out);clear hr1)
  go_ret2
  exact⟨rfl,hB1⟩
 ·have h9:9<n:=by omega
  clear h;go_enter Tryz.func81,Tryz.ntmps81;go_wp2_with (go_at_call 118;refine(HC.out _).mono ?_;rintro e w1 ⟨b1,v1,rfl,hb1,hr1,hB1⟩;obtain⟨a1,c1,rfl⟩:=hr1.len (n:=n) (by rw[zaG];exact HN.out);clear hr1)
  go_ret2
  exact⟨rfl,hB1⟩
theorem yQ (s:ByteArray) (w:World) (hs:s.size<=400) (ps:List (List UInt8)) (hcut:∀ w,Calls Tryz.prog 118 #[.string s,.int .u8 10] w fun e w'=>bA w ps e w') (m:Nat) (hm:ps.length=m+1) (h9:m<=8) (hl:ps.getLast? ≠ some []) :
  Calls Tryz.prog 81 #[.string s] w fun e w'=>e=.returned (.tuple #[.slice none 0 0,.bool false])/\Below w.heap.size w w':=by
 have HC:=hid hcut;have HN:=hid hm;have hx:Hid (∀ h:m<ps.length,ps[m]'h≠[]):=hid (fun h=>by
  rw[List.getLast?_eq_getElem?,hm,Nat.add_sub_cancel,zaV (by omega)] at hl;exact fun e=>hl (by rw[e]))
 clear hcut hm hl;go_enter Tryz.func81,Tryz.ntmps81;go_wp2_with (go_at_call 118;refine(HC.out _).mono ?_;rintro e w1 ⟨b1,v1,rfl,hb1,hr1,hB1⟩;obtain⟨a1,c1,rfl⟩:=hr1.len (n:=m+1) (by rw[zaG];exact HN.out);obtain⟨o1,rfl,h1,h2,h3,h4⟩:=hr1.some (i:=m) (by rw[zaG,HN.out];omega);obtain⟨L,hL⟩:∃ L:ByteArray,(⟨(ps[m]'(by rw[HN.out];omega)).toArray⟩:ByteArray)=L:=⟨_,rfl⟩;rw[zaR,tx,hL] at h1;have hne:L.toList.isEmpty=false:=(by rw[<-hL,zaZ];have:=hx.out (by rw[HN.out];omega);simpa using this);clear hr1 hL)
 go_ret2
 exact⟨rfl,hB1⟩
theorem of_loop (s:ByteArray) (w:World) (hs:s.size<=400) (ps:List (List UInt8)) (hcut:∀ w,Calls Tryz.prog 118 #[.string s,.int .u8 10] w fun e w'=>bA w ps e w') (m:Nat) (hm:ps.length=m+1) (h9:m<=8) (hl:ps.getLast? = some []) (hpl:∀ x∈ps,x.length<=1000000)
  (hsc:Wf.schemaOf s.data.toList=match Wf.mapTys ps.dropLast with|none=>none|some x=>if bR x=true then some x else none) :
  Calls Tryz.prog 81 #[.string s] w fun e w'=>dO s.data.toList w.heap.size e w'/\Below w.heap.size w w':=by
 have HC:=hid hcut;have HN:=hid hm;have HP:=hid hpl;have HSC:=hid hsc;have hdl:Hid (ps.dropLast=ps.take m):=hid (by rw[List.dropLast_eq_take,hm,Nat.add_sub_cancel]);have hx:Hid (∀ h:m<ps.length,ps[m]'h=[]):=hid (fun h=>by
  rw[List.getLast?_eq_getElem?,hm,Nat.add_sub_cancel,zaV (by omega)] at hl;exact Option.some.inj hl)
 clear hcut hm hl hpl hsc;go_enter Tryz.func81,Tryz.ntmps81;go_wp2_with (go_at_call 118;refine(HC.out _).mono ?_;rintro e w1 ⟨b1,v1,rfl,hb1,hr1,hB1⟩;obtain⟨a1,c1,rfl⟩:=hr1.len (n:=m+1) (by rw[zaG];exact HN.out);obtain⟨o1,rfl,h1,h2,h3,h4⟩:=hr1.some (i:=m) (by rw[zaG,HN.out];omega);obtain⟨L,hL⟩:∃ L:ByteArray,(⟨(ps[m]'(by rw[HN.out];omega)).toArray⟩:ByteArray)=L:=⟨_,rfl⟩;rw[zaR,tx,hL] at h1;have hne:L.toList.isEmpty=true:=(by rw[<-hL,zaZ,hx.out (by rw[HN.out];omega)];rfl);have HR1:=hid hr1;have HB1:=hid hB1;clear hr1 hL hB1)
 go_loopw [5,6] (fun v5 v6 wr=>∃ (k:Nat) (a:Option Addr) (c:Nat),v5=.slice a k c/\v6=.int .i64 k/\k<=m/\Hid (∃ acc es,OfSt w1 wr ps k acc a c es)) (fun _ v6 _=>m-(RowKit.intOf v6).toNat)
 case atStart=>exact⟨0,_,_,rfl,rfl,Nat.zero_le _,hid ⟨_,_,OfSt.start w1 ps⟩⟩
 case round =>
  obtain⟨k,a,c,rfl,rfl,hk,hst⟩:=hrel;by_cases hlt:k<m
  ·obtain⟨acc,es,st⟩:=hst.out
   have hkp:k<ps.length:=(by rw[HN.out];omega);have hlx:(ps[k]).length<=1000000:=HP.out _ (zaQ hkp);obtain⟨X,hX⟩:∃ X,ps[k]=X:=⟨_,rfl⟩;obtain⟨o',ho',l1,_⟩:=HR1.out.some (i:=k) (by rw[zaG];exact hkp);have ho2:o1=o':=(by simpa using ho');subst ho2;rw[zaR,hX] at l1;have l1r:wr.cell? ⟨b1,o1+k,none⟩=some (tx X):=(st.below.cell (p:=⟨b1,o1+k,none⟩) h2).trans l1;rw[hX] at hlx;have HRT:=hid fun wz=>l3ReadType ⟨X.toArray⟩ wz (by rw[aR];exact hlx);obtain⟨L,hL⟩:∃ L:ByteArray,(⟨X.toArray⟩:ByteArray)=L:=⟨_,rfl⟩;have hLX:L.data.toList=X:=(by rw[<-hL]);rw[hL] at HRT;rw[tx,hL] at l1r;have HX:=hid hX;have HST:=hid st;clear hX hL l1 ho' st hst;cases hty:Wf.lineTy X with
   | none =>
    have HO:=hid fun e wz w' (h:dD L.data.toList wz e w')=>(by unfold dD at h;rw[hLX,hty] at h;exact h:∃ (q:Nat) (b:ByteArray) (a:Option Addr) (n c:Nat),e=.returned (.tuple #[.agg #[.int .u8 q,.string b,.slice a n c],.bool false]));have HF:=hid (show Wf.schemaOf s.data.toList=none by
     have hd:ps.dropLast=ps.take k++ps[k]::(ps.drop (k+1)).take (m-k-1):=by
      rw[hdl.out];have h1:=List.take_append_drop k (ps.take m);rw[List.take_take,Nat.min_eq_left (by omega),List.drop_take,List.drop_eq_getElem_cons hkp,List.take_cons (by omega)] at h1;exact h1.symm
     rw[HSC.out,hd,zW _ _ _ (by rw[HX.out];exact hty)])
    clear hty hLX;go_wp2_with (go_at_call 119;refine(HRT.out _).mono ?_;rintro e w2 ⟨ho,hb2⟩;obtain⟨q,tn,ta,tl,tc,rfl⟩:=HO.out _ _ _ ho;have HB2:=hid hb2;clear ho hb2)
    go_ret2
    exact⟨iG HF.out ⟨_,_,_,rfl⟩,by have B:=HB1.out.trans ((HST.out.below.trans (HB2.out.mono HST.out.below.size)).mono HB1.out.size);repeat (first|with_reducible exact B|with_reducible refine zbE ?_|with_reducible refine zbG ?_ (by first|exact B.size|(simp;omega)) _)⟩
   | some t =>
    have HO:=hid fun e wz w' (h:dD L.data.toList wz e w')=>(by unfold dD at h;rw[hLX,hty] at h;exact h:∃ fb a c,e=.returned (.tuple #[.agg #[.int .u8 t.sort.toNat,tx t.name,.slice a t.fields.length c],.bool true])/\wz.heap.size<=fb/\RowK w' fb (.slice a t.fields.length c) 4 (t.fields.map (fdS t.sort)));have HT:=hid hty;obtain⟨i0,hi0,hz0,hz1,hz2⟩:=info_parts uM;have HI0:=hid hi0;have HZ0:=hid hz0;have HZ1:=hid hz1;have HZ2:=hid hz2;clear hty hLX hi0 hz0 hz1 hz2;go_wp2_with (first|(at_builtin;refine wpList_append_own_at _ rfl (.tmp 46) (.tmp 48) 56 rfl w1.heap.size 143 i0 (.agg #[.int .u8 0,tx [],.slice none 0 0]) 3 48 Tryz.underlying56 HI0.out HZ0.out HZ1.out HZ2.out rfl (by decide) (.slice a k c) k es.flatten rfl ((HOWN.out.alloc _).alloc _) ⟨w2.heap.size+1,0,none⟩ 1 1 [.int .u8 t.sort.toNat,tx t.name,.slice fa t.fields.length fc] rfl rfl ?hn ?h1 (by unfold maxLen;omega) (by omega) ?hb ?next)|(go_at_call 119;refine(HRT.out _).mono ?_;rintro e w2 ⟨ho,hb2⟩;obtain⟨fb,fa,fc,rfl,hfb,hrow⟩:=HO.out _ _ _ ho;have HB2:=hid hb2;have HFB:=hid hfb;have HROW:=hid hrow;have HOWN:=hid (HST.out.step hb2).own;have hbs:=zaI HST.out.below.size hb2.size;clear ho hb2 hfb hrow))
    case hn=>exact wE w2 _ _ _ _ _
    case h1=>exact one3 _ _ _ _ _
    case hb=>simp;omega
    case next =>
     intro v1 w3 ho3 hg3 _ hloc;obtain⟨a',c',rfl⟩:=kG ho3;have BX:Below wr.heap.size wr ((w2.alloc (.cells #[.int .u8 t.sort.toNat,tx t.name,.slice fa t.fields.length fc] 143)).alloc (.cells #[.int .u8 t.sort.toNat,tx t.name,.slice fa t.fields.length fc] 143)):=((HB2.out.alloc HB2.out.size _).alloc (by have:=HB2.out.size;simp;omega) _);have HPUT:=hid (HST.out.put BX hg3 hkp (by rw[HX.out];exact HT.out) (by simpa using hloc) HFB.out (HROW.out.below ((zaB).alloc (zaA) _) |>.below ((zaB).alloc (zaA) _)) ho3);clear ho3 hg3 hloc BX;go_wp2;go_roundw
     case rel=>exact⟨k+1,a',c',rfl,by go_num,by omega,hid ⟨_,_,HPUT.out⟩⟩
     case measure=>simp[RowKit.intOf];omega
  ·have hkm:k=m:=by omega
   subst hkm;obtain⟨acc,es,st⟩:=hst.out;obtain⟨b,hsc⟩:=st.sc;have HF:=hid (show Wf.schemaOf s.data.toList=if bR acc=true then some acc else none by rw[HSC.out,hdl.out,st.map]);have hacc:=st.len;have HV:=hid fun wz (hz:wz=wr)=>(by subst hz;exact a1U acc w1.heap.size b (.slice a k c) wz (by omega) hsc (fun u hu=>tW (a1W _ _ st.map u hu)):Calls Tryz.prog 120 #[.slice a k c] wz fun e w'=>e=.returned (.bool (bR acc))/\Below wz.heap.size wz w');have HS:=hid hsc;have HST:=hid st;clear hacc hsc st hst;go_wp2_with (go_at_call 120;refine(HV.out _ rfl).mono ?_;rintro e w2 ⟨rfl,hb2⟩;have HB2:=hid hb2;clear hb2)
   go_ret2
   exact⟨vP HF.out ((HS.out.below HB2.out).mono HB1.out.size) rfl,HB1.out.trans ((HST.out.below.trans (HB2.out.mono HST.out.below.size)).mono HB1.out.size)⟩
theorem l3Of (s:ByteArray) (w:World) (hs:s.size<=1048576):Calls Tryz.prog 81 #[.string s] w fun e w'=>dO s.data.toList w.heap.size e w'/\Below w.heap.size w w':=by
 have hl:=aE s;have hcut:∀ w,Calls Tryz.prog 118 #[.string s,.int .u8 10] w fun e w'=>bA w (Wf.cutAt 10 s.data.toList) e w':=fun w=>iZ s 10 (by omega) w;have hsc:=Wf.tL s.data.toList;unfold Wf.jN at hsc;obtain⟨m,hm⟩:∃ m,(Wf.cutAt 10 s.data.toList).length=m+1:=⟨(Wf.cutAt 10 s.data.toList).length-1,by have:=List.length_pos_iff.2 (Wf.cD 10 s.data.toList);omega⟩;by_cases h1:400<s.size\/9<(Wf.cutAt 10 s.data.toList).length
 ·refine(uW s w hs _ hcut h1).mono fun e w' ⟨he,hb⟩=>⟨iG ?_ ⟨_,_,_,he⟩,hb⟩
  rw[<-hsc,if_pos (by rw[hl];rcases h1 with h|h;exact .inl h;exact .inr (.inl h))]
 ·have hs4:s.size<=400:=by omega
  have h9:m<=8:=by omega
  by_cases h2:(Wf.cutAt 10 s.data.toList).getLast? = some []
  ·refine of_loop s w hs4 _ hcut m hm h9 h2 (fun x hx=>by have:=cY hx;omega) ?_
   rw[<-hsc,if_neg (by rw[hl];rintro(h|h|h);omega;omega;exact h h2)];cases Wf.mapTys (Wf.cutAt 10 s.data.toList).dropLast with
   | none=>rfl
   | some x =>
    dsimp only;have:(Wf.dF x=true/\Wf.cC x=true/\x.all (Wf.endsIn x (x.length+1))=true)↔bR x=true:=by
     unfold bR;rw[Bool.and_eq_true,Bool.and_eq_true,and_assoc]
    by_cases hv:bR x=true
    ·rw[if_pos hv,if_pos (this.2 hv)]
    ·rw[if_neg hv,if_neg (fun h=>hv (this.1 h))]
  ·refine(yQ s w hs4 _ hcut m hm h9 h2).mono fun e w' ⟨he,hb⟩=>⟨iG ?_ ⟨_,_,_,he⟩,hb⟩
   rw[<-hsc,if_pos (.inr (.inr h2))]

def TyL (w:World) (lo b:Nat) (t:Wf.Ty):Prop:=∃ fb a c line,lo<=b/\lo<=fb/\b<w.heap.size/\w.cell? ⟨b,0,none⟩=some (.int .u8 t.sort.toNat)/\w.cell? ⟨b,1,none⟩=some (tx t.name)/\w.cell? ⟨b,2,none⟩=some (.slice a t.fields.length c)/\w.heap[b]? = some (.cells line 70 (0,0))/\RowK w fb (.slice a t.fields.length c) 6 (t.fields.map (fdC t.sort))
theorem TyL.keep {w w':World} {lo b:Nat} {t:Wf.Ty} (h:TyL w lo b t) (hs:w.heap.size<=w'.heap.size) (hk:∀ x,lo<=x->x<w.heap.size->w'.heap[x]? = w.heap[x]?):TyL w' lo b t:=by
 obtain⟨fb,a,c,line,h1,h2,h3,c0,c1,c2,c3,hr⟩:=h;have hb:=hk b h1 h3;have cc:=fun o=>zbJ (w:=w) (w':=w') (a:=⟨b,o,none⟩) hb;exact⟨fb,a,c,line,h1,h2,zaC h3 hs,(cc 0).trans c0,(cc 1).trans c1,(cc 2).trans c2,hb.trans c3,hr.keep hs fun hx=>hk fb h2 hx⟩
theorem TyL.below {w w':World} {lo b:Nat} {t:Wf.Ty} (h:TyL w lo b t) (hb:Below w.heap.size w w'):TyL w' lo b t:=h.keep hb.size fun x _ hx=>hb.block x hx
theorem TyL.lt {w:World} {lo b:Nat} {t:Wf.Ty} (h:TyL w lo b t):b<w.heap.size:=by obtain⟨_,_,_,_,_,_,h3,_⟩:=h;exact h3
theorem TyL.le {w:World} {lo b:Nat} {t:Wf.Ty} (h:TyL w lo b t):lo<=b:=by obtain⟨_,_,_,_,h1,_⟩:=h;exact h1
theorem TyL.mono {w:World} {lo lo' b:Nat} {t:Wf.Ty} (h:TyL w lo b t) (hl:lo'<=lo):TyL w lo' b t:=by
 obtain⟨fb,a,c,line,h1,h2,h3⟩:=h;exact⟨fb,a,c,line,zaI hl h1,zaI hl h2,h3⟩
def cF (l:List UInt8) (lo:Nat) (e:Ending) (w':World):Prop:=match Wf.lineTy l with
 | some t=>∃ b,e=.returned (.tuple #[ptr b,.bool true])/\TyL w' lo b t
 | none=>∃ p,e=.returned (.tuple #[.pointer p,.bool false])
theorem gZ {l:List UInt8} {lo:Nat} {w':World} {e:Ending} (h:Wf.lineTy l=none) (he:∃ p,e=.returned (.tuple #[.pointer p,.bool false])):cF l lo e w':=by
 unfold cF;rw[h];exact he
theorem nX {l:List UInt8} {lo:Nat} {w':World} {e:Ending} {t:Wf.Ty} (h:Wf.lineTy l=some t) (he:∃ b,e=.returned (.tuple #[ptr b,.bool true])/\TyL w' lo b t):cF l lo e w':=by
 unfold cF;rw[h];exact he
structure TSi (w wr:World) (q:Nat) (name line:ByteArray) (lv:Value) (a:Option Addr) (c:Nat) (ps:List (List UInt8)) (es:List (List Value)):Prop where
 below:Below w.heap.size w wr
 size:w.heap.size+2<=wr.heap.size
 c0:wr.cell? ⟨w.heap.size,0,none⟩=some (.int .u8 q)
 c1:wr.cell? ⟨w.heap.size,1,none⟩=some (.string name)
 c2:wr.cell? ⟨w.heap.size,2,none⟩=some (.slice a es.length c)
 c3:∃ cs,wr.heap[w.heap.size]? = some (.cells cs 70 (0,0))
 f2:wr.frozen? ⟨w.heap.size,2,none⟩=false
 row:aH wr (w.heap.size+1) lv (ps.map tx)
 own:wr.ownsRow (w.heap.size+2) 78 6 (.slice a es.length c) es.length es.flatten
 he:∀ e∈es,e.length=6
section
variable {w wr:World} {q:Nat} {name line:ByteArray} {lv:Value} {a:Option Addr} {c:Nat} {ps:List (List UInt8)} {es:List (List Value)}
theorem TSi.step (h:TSi w wr q name line lv a c ps es) {w2:World} (hb:Below wr.heap.size wr w2):TSi w w2 q name line lv a c ps es:=by
 have hs:=h.size;have ht:w.heap.size<wr.heap.size:=by omega
 refine⟨h.below.trans (hb.mono (by omega)),zaI hs hb.size,?_,?_,?_,?_,?_,h.row.below hb id,bY h.own hb,h.he⟩
 ·exact(hb.cell (p:=⟨w.heap.size,0,none⟩) ht).trans h.c0
 ·exact(hb.cell (p:=⟨w.heap.size,1,none⟩) ht).trans h.c1
 ·exact(hb.cell (p:=⟨w.heap.size,2,none⟩) ht).trans h.c2
 ·exact h.c3.imp fun cs hc=>(hb.block _ ht).trans hc
 ·exact(hb.frozen (p:=⟨w.heap.size,2,none⟩) ht).trans h.f2
theorem TSi.put (h:TSi w wr q name line lv a c ps es) {wx w':World} (hx:Below wr.heap.size wr wx) (hg:wx.grownBy w' (Value.slice a es.length c).ownBlock) {a':Option Addr} {c':Nat} {e:List Value} (hl:e.length=6) (ho:w'.ownsRow (w.heap.size+2) 78 6 (.slice a' (es.length+1) c') (es.length+1) (es.flatten++e)) :
  TSi w (w'.setCell ⟨w.heap.size,2,none⟩ (.slice a' (es.length+1) c')) q name line lv a' c' ps (es++[e]):=by
 have hs:=h.step hx;have hsz:=h.size;have hsx:=hs.size;have hb:Below (w.heap.size+2) wx w':=aW hg (fun g hgk=>(aU h.own g hgk).1) hsx;have hs2:(w'.setCell ⟨w.heap.size,2,none⟩ (.slice a' (es.length+1) c')).heap.size=w'.heap.size:=by simp
 have hlen:(es++[e]).length=es.length+1:=by simp
 have htB:w.heap.size<w.heap.size+2:=by omega
 have c2':w'.cell? ⟨w.heap.size,2,none⟩=some (.slice a es.length c):=(hb.cell (p:=⟨w.heap.size,2,none⟩) htB).trans hs.c2;refine⟨?_,?_,?_,?_,?_,?_,?_,?_,?_,?_⟩
 ·exact(hs.below.trans (hb.mono (by omega))).setCell (zaA) _
 ·rw[hs2];exact zaI hs.size hb.size
 ·exact(zbA w' _ _ _ (by simp)).trans ((hb.cell (p:=⟨w.heap.size,0,none⟩) htB).trans hs.c0)
 ·exact(zbA w' _ _ _ (by simp)).trans ((hb.cell (p:=⟨w.heap.size,1,none⟩) htB).trans hs.c1)
 ·rw[hlen];exact zbC w' _ _ c2'
 ·obtain⟨cs,hc⟩:=hs.c3
  exact⟨_,by unfold World.setCell;simp only[Array.getElem?_modify,if_true,(hb.block _ htB).trans hc];rfl⟩
 ·have:=(hb.frozen (p:=⟨w.heap.size,2,none⟩) htB).trans hs.f2
  simpa using this
 ·refine aH.keep hs.row ?_ fun hlt=>?_
  ·rw[hs2];exact hb.size
  ·rw[Below.heap_setCell w' ⟨w.heap.size,2,none⟩ _ _ (Nat.ne_of_gt (zaH _))];exact hb.block _ (zaH _)
 ·rw[hlen,List.flatten_append,List.flatten_cons,List.flatten_nil,List.append_nil]
  exact ownsRow_setCell_below ho htB _
 ·intro x hx
  rcases List.mem_append.1 hx with hx|hx
  ·exact h.he x hx
  ·rw[List.mem_singleton.1 hx];exact hl
theorem uL:(Tryz.prog.info? 78).map (fun i=>(i.zero,i.size,i.bytes))=some (some (.agg #[.int .i64 0,tx [],tx [],tx [],tx [],tx []]),6,88):=by kernel_rfl
theorem one6 (n:Int) (a b c d e:ByteArray):∀ u∈[Value.int .i64 n,Value.string a,Value.string b,Value.string c,Value.string d,Value.string e],u.oneCell'=true:=by
 intro u hu;simp only[List.mem_cons,List.not_mem_nil,or_false] at hu;rcases hu with rfl|rfl|rfl|rfl|rfl|rfl <;> rfl
end

theorem pC (l:List (List UInt8)):Lib.join l [44]=Wf.commas l:=by
 unfold Lib.join;induction l with
 | nil=>rfl
 | cons a l ih =>
  cases l with
  | nil=>simp[List.intercalate,Wf.commas]
  | cons b l =>
   rw[Wf.commas,<-ih];simp[List.intercalate,List.intersperse]
theorem a2H (ps:List (List UInt8)) (b:Nat) (v:Value) (w:World) (H:aH w b v (ps.map tx)) (hn:ps.length<=2000000) (hl:(Wf.commas ps).length<=2000000):Calls Tryz.prog 59 #[v,tx [44]] w fun e w'=>e=.returned (tx (Wf.commas ps))/\Below w.heap.size w w':=by
 obtain⟨a,c,rfl,h1,h2,h3|⟨o,rfl,h4,h5⟩⟩:=H
 ·have h0:ps=[]:=List.map_eq_nil_iff.1 h3
  subst h0;exact(Tryz.strings_Join_none a c ⟨#[44]⟩ w).mono fun e w' ⟨he,hw⟩=>⟨he,hw ▸ zaB⟩
 ·rw[zaG] at h1 ⊢
  have hx:(List.map (fun x:ByteArray=>x.data.toList) (ps.map fun p=>(⟨p.toArray⟩:ByteArray)))=ps:=by
   rw[List.map_map];conv=>rhs;rw[<-List.map_id ps]
   congr 1
  have:=Tryz.strings_Join b o c (ps.map fun p=>(⟨p.toArray⟩:ByteArray)) ⟨#[44]⟩ w (fun j x hj=>by
   obtain⟨hjl,hje⟩:=List.getElem?_eq_some_iff.1 hj;rw[zaG] at hjl;have:=(h5 j (by rw[zaG];exact hjl)).1;rw[zaR] at this hje;rw[this,<-hje]) h4 (by rw[zaG];omega) (by rw[zaG];exact h1) (by rw[hx,pC];omega)
  rw[zaG,hx,pC] at this;exact this
theorem a2T {what:UInt8} {text:List UInt8} {tag:Nat} {kids:List Wf.V} (h:mR what):(Wf.commas (kids.map Wf.V.print)).length<=(Wf.V.mk what text tag kids).print.length:=by
 simp only[Wf.V.print,Wf.V.fF];unfold Wf.form;rcases h with rfl|rfl|rfl|rfl|rfl
 ·simp;omega
 ·simp only[show ¬ ((63:UInt8)=116) by decide,show ¬ ((63:UInt8)=91) by decide,if_false,if_true]
  split
  ·rename_i h0;rw[h0];simp[Wf.commas]
  ·simp
 ·simp;omega
 ·simp;omega
 ·simp;omega
theorem a2D (l:List Wf.V):l.length<=(Wf.commas (l.map Wf.V.print)).length+1:=by
 by_cases h:l=[]
 ·rw[h];simp
 ·have:=Wf.fY (l.map Wf.V.print) (by simpa using h)
  rw[zaG] at this;omega
theorem wF {l:List Wf.V} {k:Wf.V} (h:k∈l):k.print.length<=(Wf.commas (l.map Wf.V.print)).length:=Wf.dC (List.mem_map.2 ⟨k,h,rfl⟩)
theorem a3K (what:UInt8) (q:Nat) (hq:what.toNat=q) (text:List UInt8) (tag:Nat) (kids:List Wf.V) :
  (q=116/\(Wf.V.mk what text tag kids).print=39::(text++[39]))\/(q=91/\(Wf.V.mk what text tag kids).print=91::(Wf.commas (kids.map Wf.V.print)++[93])) \/
  (q=63/\kids=[]/\(Wf.V.mk what text tag kids).print=[45])\/(q=63/\kids≠[]/\(Wf.V.mk what text tag kids).print=43::Wf.commas (kids.map Wf.V.print)) \/
  (q=61/\(Wf.V.mk what text tag kids).print=Wf.dec tag++61::Wf.commas (kids.map Wf.V.print))\/(q=82/\(Wf.V.mk what text tag kids).print=123::(Wf.commas (kids.map Wf.V.print)++[125])) \/
  (q=85/\(Wf.V.mk what text tag kids).print=60::(Wf.dec tag++61::(Wf.commas (kids.map Wf.V.print)++[62])))\/(q=69/\(Wf.V.mk what text tag kids).print=35::Wf.dec tag) \/
  ((q≠116/\q≠91/\q≠63/\q≠61/\q≠82/\q≠85/\q≠69)/\(Wf.V.mk what text tag kids).print=text):=by
 subst hq;simp only[Wf.V.print,Wf.V.fF];have e:∀ n:UInt8,what.toNat=n.toNat->what=n:=fun n h=>UInt8.toNat_inj.1 h;have d:∀ n:UInt8,what≠n->what.toNat≠n.toNat:=fun n h h2=>h (e n h2);by_cases h1:what=116
 ·subst h1;exact .inl ⟨rfl,rfl⟩
 by_cases h2:what=91
 ·subst h2;exact .inr (.inl ⟨rfl,rfl⟩)
 by_cases h3:what=63
 ·subst h3
  by_cases h0:kids=[]
  ·subst h0;exact .inr (.inr (.inl ⟨rfl,rfl,rfl⟩))
  ·refine .inr (.inr (.inr (.inl ⟨rfl,h0,?_⟩)))
   unfold Wf.form;rw[if_neg (by decide),if_neg (by decide),if_pos rfl,if_neg (by simpa using h0)]
 by_cases h4:what=61
 ·subst h4;exact .inr (.inr (.inr (.inr (.inl ⟨rfl,rfl⟩))))
 by_cases h5:what=82
 ·subst h5;exact .inr (.inr (.inr (.inr (.inr (.inl ⟨rfl,rfl⟩)))))
 by_cases h6:what=85
 ·subst h6;exact .inr (.inr (.inr (.inr (.inr (.inr (.inl ⟨rfl,rfl⟩))))))
 by_cases h7:what=69
 ·subst h7;exact .inr (.inr (.inr (.inr (.inr (.inr (.inr (.inl ⟨rfl,rfl⟩)))))))
 refine .inr (.inr (.inr (.inr (.inr (.inr (.inr (.inr ⟨⟨d 116 h1,d 91 h2,d 63 h3,d 61 h4,d 82 h5,d 85 h6,d 69 h7⟩,?_⟩)))))));unfold Wf.form;rw[if_neg h1,if_neg h2,if_neg h3,if_neg h4,if_neg h5,if_neg h6,if_neg h7]
theorem print (v:Wf.V):∀ (P:Nat->Prop) (cs:List Value) (W w:World),VC W P v cs->Below W.heap.size W w->v.print.length<=1000000->Calls Tryz.prog 33 #[.agg cs.toArray] w fun e w'=>e=.returned (tx v.print)/\Below w.heap.size w w':=by
 refine Wf.V.induct (P:=fun v=>∀ (P:Nat->Prop) (cs:List Value) (W w:World),VC W P v cs->Below W.heap.size W w->v.print.length<=1000000->Calls Tryz.prog 33 #[.agg cs.toArray] w fun e w'=>e=.returned (tx v.print)/\Below w.heap.size w w') ?_ v;intro what text tag kids ih P cs W w HV hW hlen;obtain⟨a,c,rfl,hnc,hcm,hsh,hk⟩:=HV.form;simp only[Wf.V.what,Wf.V.text,Wf.V.tag,Wf.V.kids] at *;have hcl:(Wf.commas (kids.map Wf.V.print)).length<=1000000:=by
  by_cases h0:kids=[]
  ·rw[h0];simp[Wf.commas]
  ·have:=a2T (text:=text) (tag:=tag) (kids:=kids) (hsh.parts h0);omega
 have hkc:=a2D kids;obtain⟨n,hn⟩:∃ n,kids.length=n:=⟨_,rfl⟩;obtain⟨q,hq⟩:∃ q,what.toNat=q:=⟨_,rfl⟩;have HN:=hid hn;have HFC:=hid (a3K what q hq text tag kids);rw[hn] at hnc hkc;have hn6:n<=1000001:=by omega
 have HIH:=hid ih;have HK:=hid hk;have HW:=hid hW;have HCL:=hid hcl;obtain⟨T,hT⟩:∃ T:ByteArray,(⟨text.toArray⟩:ByteArray)=T:=⟨_,rfl⟩;have HT:=hid hT;have htag:=hsh.tag;have HD:=hid fun wz=>gV tag tag wz (zaA) htag;obtain⟨D,hD⟩:∃ D:ByteArray,(⟨(Wf.dec tag).toArray⟩:ByteArray)=D:=⟨_,rfl⟩;have HDD:=hid hD;have hds:D.size<=6:=by rw[<-hD,<-aE];exact Wf.cA htag
 simp only[tx,hD] at HD;have HLEN:=hid hlen;simp only[tx,hT,hq,hn];clear ih hk hW hcl hsh HV hT hD hlen hq hn;go_enter Tryz.func33,Tryz.ntmps33;go_wp2_with fail
 go_loopw [3,10] (fun s3 s10 wr=>∃ (i:Nat),s10=.int .i64 i/\i<=n/\Hid (wr.ownsRow (w.heap.size+1) 9 1 s3 (((kids.take i).map Wf.V.print).map tx).length (((kids.take i).map Wf.V.print).map tx)/\Below (w.heap.size+1) (w.alloc (.cells #[.int .u8 q,.string T,.int .i64 tag,.slice a n c] 51)) wr)) (fun _ s10 _=>n-(RowKit.intOf s10).toNat)
 case atStart=>exact⟨0,rfl,Nat.zero_le _,hid ⟨World.ownsRow_nil _ _ _ _,zaB⟩⟩
 case round =>
  obtain⟨i,rfl,hi,hh⟩:=hrel;have BWr:Below w.heap.size w wr:=((zaB).alloc (zaA) _).trans (hh.out.2.mono (by omega));have BW:=hid (HW.out.trans (BWr.mono HW.out.size));have HBW:=hid BWr;clear BWr;by_cases hlt:i<n
  ·have hik:i<kids.length:=by rw[HN.out];exact hlt
   rcases HK.out with h0|⟨b,o,rfl,hPb,hbW,hvs⟩
   ·rw[h0] at hik;simp at hik
   obtain⟨cs',hvc,hcell⟩:=hvs.get i hik;obtain⟨a',c',rfl,hnc',hcm',hsh',hk'⟩:=hvc.form;have HI:=hid fun wz (hz:Below W.heap.size W wz)=>HIH.out kids[i] (zaQ hik) P _ W wz hvc hz (zaI (wF (zaQ hik)) HCL.out);have k0:=(BW.out.cell (p:=⟨b,o+i*4+0,none⟩) hbW).trans (hcell 0 _ rfl);have k1:=(BW.out.cell (p:=⟨b,o+i*4+1,none⟩) hbW).trans (hcell 1 _ rfl);have k2:=(BW.out.cell (p:=⟨b,o+i*4+2,none⟩) hbW).trans (hcell 2 _ rfl);have k3:=(BW.out.cell (p:=⟨b,o+i*4+3,none⟩) hbW).trans (hcell 3 _ rfl);rw[Nat.add_zero] at k0;obtain⟨q',hq'⟩:∃ q',(kids[i]).what.toNat=q':=⟨_,rfl⟩;obtain⟨T',hT'⟩:∃ T':ByteArray,(⟨(kids[i]).text.toArray⟩:ByteArray)=T':=⟨_,rfl⟩;obtain⟨g',hg'⟩:∃ g',(kids[i]).tag=g':=⟨_,rfl⟩;obtain⟨n',hn'⟩:∃ n',(kids[i]).kids.length=n':=⟨_,rfl⟩;obtain⟨PR,hPR⟩:∃ PR:ByteArray,(⟨(kids[i]).print.toArray⟩:ByteArray)=PR:=⟨_,rfl⟩;simp only[tx,hq',hT',hg',hn',hPR] at HI k0 k1 k2 k3;have HPR:=hid hPR;have hbr:b<wr.heap.size:=zaC hbW BW.out.size;clear hvc hcell hvs hk' hsh' hcm' hnc' hq' hT' hg' hn' hPR;have hm:((kids.take (i+1)).map Wf.V.print).map tx=((kids.take i).map Wf.V.print).map tx++[.string PR]:=by
    have e:kids.take (i+1)=kids.take i++[kids[i]]:=(by rw[List.take_add_one,zaV hik];rfl);rw[e,List.map_append,List.map_append,<-HPR.out];rfl
   have HM:=hid hm;have hlen:(((kids.take i).map Wf.V.print).map tx).length=i:=by
    rw[zaG,zaG,List.length_take];omega
   have HLN:=hid hlen;clear hm hlen;go_wp2_with (first|(at_builtin;refine jY _ rfl (.tmp 14) (.tmp 17) 111 rfl (w.heap.size+1) 9 (.string ⟨#[]⟩) 16 Tryz.underlying111 mK rfl _ (((kids.take i).map Wf.V.print).map tx) rfl ((bY hh.out.1 B2.out).alloc _) ⟨w2.heap.size,0,none⟩ (.string PR) rfl (by simp) rfl (by rw[HLN.out];omega) (by rw[HLN.out];omega) (by have:=B2.out.size;have h1:=hh.out.2.size;simp at h1 ⊢;omega) ?_;intro v1 w3 ho1 hb3;have HO:=hid ho1;have HB3:=hid hb3;clear ho1 hb3)|(go_at_call 33;refine(HI.out _ (BW.out.trans (((zaB).alloc (zaA) _).mono BW.out.size))).mono ?_;rintro e w2 ⟨rfl,hb2⟩;have B2:=hid (aC ((Below.refl wr.heap.size wr).alloc (zaA) _) hb2);clear hb2))
   go_roundw
   case rel=>exact⟨i+1,by go_num,by omega,hid ⟨by rw[HM.out];exact HO.out,(hh.out.2.trans (B2.out.mono (by have h1:=hh.out.2.size;simpa using h1))).trans ((zbG (zaB) (by have h1:=hh.out.2.size;have:=B2.out.size;simp at h1;omega) _).trans HB3.out)⟩⟩
   case measure=>simp[RowKit.intOf];omega
  ·have hin:i=n:=by omega
   subst hin;obtain⟨pb,hpb,hrow⟩:=aH.cO hh.out.1;have htk:kids.take i=kids:=zaS (by rw[HN.out];exact zaA);rw[htk] at hrow;have HJ:=hid fun wz (hz:aH wz pb u3 ((kids.map Wf.V.print).map tx))=>a2H (kids.map Wf.V.print) pb u3 wz hz (by rw[zaG,HN.out];omega) (zaI HCL.out (by omega));have HROW:=hid hrow;obtain⟨C,hC⟩:∃ C:ByteArray,(⟨(Wf.commas (kids.map Wf.V.print)).toArray⟩:ByteArray)=C:=⟨_,rfl⟩;have hCs:C.size<=1000000:=(by rw[<-hC,<-aE];exact HCL.out);have HCC:=hid hC;simp only[tx,hC] at HJ;have e0:=hh.out.2;have z0:wr.cell? ⟨w.heap.size,0,none⟩=some (.int .u8 q):=(e0.cell (p:=⟨w.heap.size,0,none⟩) (zaH _)).trans (by simp);have z1:wr.cell? ⟨w.heap.size,1,none⟩=some (.string T):=(e0.cell (p:=⟨w.heap.size,1,none⟩) (zaH _)).trans (by simp);have z2:wr.cell? ⟨w.heap.size,2,none⟩=some (.int .i64 tag):=(e0.cell (p:=⟨w.heap.size,2,none⟩) (zaH _)).trans (by simp);have z3:wr.cell? ⟨w.heap.size,3,none⟩=some (.slice a i c):=(e0.cell (p:=⟨w.heap.size,3,none⟩) (zaH _)).trans (by simp);have hlt2:w.heap.size<wr.heap.size:=(by have h1:=e0.size;simp at h1;omega);clear e0 hrow htk hC hpb;have c39:(⟨#[39]⟩:ByteArray).size=1:=rfl;have c91:(⟨#[91]⟩:ByteArray).size=1:=rfl;have c93:(⟨#[93]⟩:ByteArray).size=1:=rfl;have c43:(⟨#[43]⟩:ByteArray).size=1:=rfl;have c61:(⟨#[61]⟩:ByteArray).size=1:=rfl;have c123:(⟨#[123]⟩:ByteArray).size=1:=rfl;have c125:(⟨#[125]⟩:ByteArray).size=1:=rfl;have c60:(⟨#[60]⟩:ByteArray).size=1:=rfl;have c62:(⟨#[62]⟩:ByteArray).size=1:=rfl;have c35:(⟨#[35]⟩:ByteArray).size=1:=rfl;have hTs:q=116->T.size<=1000000:=fun h=>by
    have h1:=HLEN.out;rcases HFC.out with⟨_,hp⟩|⟨h2,_⟩|⟨h2,_⟩|⟨h2,_⟩|⟨h2,_⟩|⟨h2,_⟩|⟨h2,_⟩|⟨h2,_⟩|⟨h2,_⟩
    ·rw[hp] at h1
     simp only[zaF,zaD,zaM] at h1;rw[<-HT.out,<-aE];show text.length<=_;omega
    all_goals omega
   rcases HFC.out with⟨rfl,hp⟩|⟨rfl,hp⟩|⟨rfl,h0,hp⟩|⟨rfl,h0,hp⟩|⟨rfl,hp⟩|⟨rfl,hp⟩|⟨rfl,hp⟩|⟨rfl,hp⟩|⟨⟨n1,n2,n3,n4,n5,n6,n7⟩,hp⟩;all_goals have HP:=hid hp
   all_goals clear hp HFC
   ·have hT6:=hTs rfl
    clear hTs;go_wp2_with (first|(go_at_call 60;refine(HD.out _).mono ?_;rintro e w3 ⟨rfl,hb3⟩;have B3:=hid (B2.out.trans (hb3.mono B2.out.size));clear hb3)|(go_at_call 59;refine(HJ.out _ HROW.out).mono ?_;rintro e w2 ⟨rfl,hb2⟩;have HB2:=hid hb2;have B2:=hid (HBW.out.trans (hb2.mono HBW.out.size));have y0:=(hb2.cell (p:=⟨w.heap.size,0,none⟩) hlt2).trans z0;have y1:=(hb2.cell (p:=⟨w.heap.size,1,none⟩) hlt2).trans z1;have y2:=(hb2.cell (p:=⟨w.heap.size,2,none⟩) hlt2).trans z2;have y3:=(hb2.cell (p:=⟨w.heap.size,3,none⟩) hlt2).trans z3;clear hb2))
    go_ret
    exact⟨aX (by rw[HP.out,<-HT.out,aQ];simp),B2.out⟩
   ·clear hTs
    go_wp2_with (first|(go_at_call 60;refine(HD.out _).mono ?_;rintro e w3 ⟨rfl,hb3⟩;have B3:=hid (B2.out.trans (hb3.mono B2.out.size));clear hb3)|(go_at_call 59;refine(HJ.out _ HROW.out).mono ?_;rintro e w2 ⟨rfl,hb2⟩;have HB2:=hid hb2;have B2:=hid (HBW.out.trans (hb2.mono HBW.out.size));have y0:=(hb2.cell (p:=⟨w.heap.size,0,none⟩) hlt2).trans z0;have y1:=(hb2.cell (p:=⟨w.heap.size,1,none⟩) hlt2).trans z1;have y2:=(hb2.cell (p:=⟨w.heap.size,2,none⟩) hlt2).trans z2;have y3:=(hb2.cell (p:=⟨w.heap.size,3,none⟩) hlt2).trans z3;clear hb2))
    go_ret
    exact⟨aX (by rw[HP.out,<-HCC.out,aQ];simp),B2.out⟩
   ·have hi0:i=0:=by rw[<-HN.out,h0];rfl
    subst hi0;clear hTs h0;go_wp2_with (first|(go_at_call 60;refine(HD.out _).mono ?_;rintro e w3 ⟨rfl,hb3⟩;have B3:=hid (B2.out.trans (hb3.mono B2.out.size));clear hb3)|(go_at_call 59;refine(HJ.out _ HROW.out).mono ?_;rintro e w2 ⟨rfl,hb2⟩;have HB2:=hid hb2;have B2:=hid (HBW.out.trans (hb2.mono HBW.out.size));have y0:=(hb2.cell (p:=⟨w.heap.size,0,none⟩) hlt2).trans z0;have y1:=(hb2.cell (p:=⟨w.heap.size,1,none⟩) hlt2).trans z1;have y2:=(hb2.cell (p:=⟨w.heap.size,2,none⟩) hlt2).trans z2;have y3:=(hb2.cell (p:=⟨w.heap.size,3,none⟩) hlt2).trans z3;clear hb2))
    go_ret
    exact⟨aX (by rw[HP.out]),B2.out⟩
   ·have hi0:0<i:=by rw[<-HN.out];exact List.length_pos_iff.2 h0
    have hi1:((i:Int)==0)=false:=(by rw[zaJ];omega);clear hTs h0;go_wp2_with (first|(go_at_call 60;refine(HD.out _).mono ?_;rintro e w3 ⟨rfl,hb3⟩;have B3:=hid (B2.out.trans (hb3.mono B2.out.size));clear hb3)|(go_at_call 59;refine(HJ.out _ HROW.out).mono ?_;rintro e w2 ⟨rfl,hb2⟩;have HB2:=hid hb2;have B2:=hid (HBW.out.trans (hb2.mono HBW.out.size));have y0:=(hb2.cell (p:=⟨w.heap.size,0,none⟩) hlt2).trans z0;have y1:=(hb2.cell (p:=⟨w.heap.size,1,none⟩) hlt2).trans z1;have y2:=(hb2.cell (p:=⟨w.heap.size,2,none⟩) hlt2).trans z2;have y3:=(hb2.cell (p:=⟨w.heap.size,3,none⟩) hlt2).trans z3;clear hb2))
    go_ret
    exact⟨aX (by rw[HP.out,<-HCC.out,aQ];simp),B2.out⟩
   ·clear hTs
    go_wp2_with (first|(go_at_call 60;refine(HD.out _).mono ?_;rintro e w3 ⟨rfl,hb3⟩;have B3:=hid (B2.out.trans (hb3.mono B2.out.size));clear hb3)|(go_at_call 59;refine(HJ.out _ HROW.out).mono ?_;rintro e w2 ⟨rfl,hb2⟩;have HB2:=hid hb2;have B2:=hid (HBW.out.trans (hb2.mono HBW.out.size));have y0:=(hb2.cell (p:=⟨w.heap.size,0,none⟩) hlt2).trans z0;have y1:=(hb2.cell (p:=⟨w.heap.size,1,none⟩) hlt2).trans z1;have y2:=(hb2.cell (p:=⟨w.heap.size,2,none⟩) hlt2).trans z2;have y3:=(hb2.cell (p:=⟨w.heap.size,3,none⟩) hlt2).trans z3;clear hb2))
    go_ret
    exact⟨aX (by rw[HP.out,<-HCC.out,<-HDD.out,aQ];simp),B3.out⟩
   ·clear hTs
    go_wp2_with (first|(go_at_call 60;refine(HD.out _).mono ?_;rintro e w3 ⟨rfl,hb3⟩;have B3:=hid (B2.out.trans (hb3.mono B2.out.size));clear hb3)|(go_at_call 59;refine(HJ.out _ HROW.out).mono ?_;rintro e w2 ⟨rfl,hb2⟩;have HB2:=hid hb2;have B2:=hid (HBW.out.trans (hb2.mono HBW.out.size));have y0:=(hb2.cell (p:=⟨w.heap.size,0,none⟩) hlt2).trans z0;have y1:=(hb2.cell (p:=⟨w.heap.size,1,none⟩) hlt2).trans z1;have y2:=(hb2.cell (p:=⟨w.heap.size,2,none⟩) hlt2).trans z2;have y3:=(hb2.cell (p:=⟨w.heap.size,3,none⟩) hlt2).trans z3;clear hb2))
    go_ret
    exact⟨aX (by rw[HP.out,<-HCC.out,aQ];simp),B2.out⟩
   ·clear hTs
    go_wp2_with (first|(go_at_call 60;refine(HD.out _).mono ?_;rintro e w3 ⟨rfl,hb3⟩;have B3:=hid (B2.out.trans (hb3.mono B2.out.size));clear hb3)|(go_at_call 59;refine(HJ.out _ HROW.out).mono ?_;rintro e w2 ⟨rfl,hb2⟩;have HB2:=hid hb2;have B2:=hid (HBW.out.trans (hb2.mono HBW.out.size));have y0:=(hb2.cell (p:=⟨w.heap.size,0,none⟩) hlt2).trans z0;have y1:=(hb2.cell (p:=⟨w.heap.size,1,none⟩) hlt2).trans z1;have y2:=(hb2.cell (p:=⟨w.heap.size,2,none⟩) hlt2).trans z2;have y3:=(hb2.cell (p:=⟨w.heap.size,3,none⟩) hlt2).trans z3;clear hb2))
    go_ret
    exact⟨aX (by rw[HP.out,<-HCC.out,<-HDD.out,aQ];simp),B3.out⟩
   ·clear hTs
    go_wp2_with (first|(go_at_call 60;refine(HD.out _).mono ?_;rintro e w3 ⟨rfl,hb3⟩;have B3:=hid (B2.out.trans (hb3.mono B2.out.size));clear hb3)|(go_at_call 59;refine(HJ.out _ HROW.out).mono ?_;rintro e w2 ⟨rfl,hb2⟩;have HB2:=hid hb2;have B2:=hid (HBW.out.trans (hb2.mono HBW.out.size));have y0:=(hb2.cell (p:=⟨w.heap.size,0,none⟩) hlt2).trans z0;have y1:=(hb2.cell (p:=⟨w.heap.size,1,none⟩) hlt2).trans z1;have y2:=(hb2.cell (p:=⟨w.heap.size,2,none⟩) hlt2).trans z2;have y3:=(hb2.cell (p:=⟨w.heap.size,3,none⟩) hlt2).trans z3;clear hb2))
    go_ret
    exact⟨aX (by rw[HP.out,<-HDD.out,aQ];simp),B3.out⟩
   ·have m1:((q:Int)==116)=false:=by rw[zaJ];omega
    have m2:((q:Int)==91)=false:=(by rw[zaJ];omega);have m3:((q:Int)==63)=false:=(by rw[zaJ];omega);have m4:((q:Int)==61)=false:=(by rw[zaJ];omega);have m5:((q:Int)==82)=false:=(by rw[zaJ];omega);have m6:((q:Int)==85)=false:=(by rw[zaJ];omega);have m7:((q:Int)==69)=false:=(by rw[zaJ];omega);clear hTs n1 n2 n3 n4 n5 n6 n7;go_wp2_with (first|(go_at_call 60;refine(HD.out _).mono ?_;rintro e w3 ⟨rfl,hb3⟩;have B3:=hid (B2.out.trans (hb3.mono B2.out.size));clear hb3)|(go_at_call 59;refine(HJ.out _ HROW.out).mono ?_;rintro e w2 ⟨rfl,hb2⟩;have HB2:=hid hb2;have B2:=hid (HBW.out.trans (hb2.mono HBW.out.size));have y0:=(hb2.cell (p:=⟨w.heap.size,0,none⟩) hlt2).trans z0;have y1:=(hb2.cell (p:=⟨w.heap.size,1,none⟩) hlt2).trans z1;have y2:=(hb2.cell (p:=⟨w.heap.size,2,none⟩) hlt2).trans z2;have y3:=(hb2.cell (p:=⟨w.heap.size,3,none⟩) hlt2).trans z3;clear hb2))
    go_ret
    exact⟨aX (by rw[HP.out,<-HT.out]),B2.out⟩
theorem tB (l:List Wf.V) (v:Wf.V):Wf.V.aJ (l++[v])=max (Wf.V.aJ l) v.deep:=by
 induction l with
 | nil=>simp[Wf.V.aJ]
 | cons a l ih=>simp only[zaN,Wf.V.aJ,ih];omega
theorem oR {l:List Wf.V} {v:Wf.V} (h:v∈l):v.deep<=Wf.V.aJ l:=Wf.V.eN.1 (zaA) v h
theorem deep (v:Wf.V):∀ (P:Nat->Prop) (cs:List Value) (W w:World),VC W P v cs->Below W.heap.size W w->v.deep<=1000000->Calls Tryz.prog 75 #[.agg cs.toArray] w fun e w'=>e=.returned (.int .i64 v.deep)/\Below w.heap.size w w':=by
 refine Wf.V.induct (P:=fun v=>∀ (P:Nat->Prop) (cs:List Value) (W w:World),VC W P v cs->Below W.heap.size W w->v.deep<=1000000->Calls Tryz.prog 75 #[.agg cs.toArray] w fun e w'=>e=.returned (.int .i64 v.deep)/\Below w.heap.size w w') ?_ v;intro what text tag kids ih P cs W w HV hW hdeep;obtain⟨a,c,rfl,hnc,hcm,hsh,hk⟩:=HV.form;simp only[Wf.V.what,Wf.V.text,Wf.V.tag,Wf.V.kids] at *;have hkd:Wf.V.aJ kids<=1000000:=by
  by_cases h61:what=61
  ·subst h61;simpa[Wf.V.deep] using hdeep
  ·rw[Wf.fO h61] at hdeep;omega
 obtain⟨n,hn⟩:∃ n,kids.length=n:=⟨_,rfl⟩;obtain⟨q,hq⟩:∃ q,what.toNat=q:=⟨_,rfl⟩;obtain⟨T,hT⟩:∃ T:ByteArray,(⟨text.toArray⟩:ByteArray)=T:=⟨_,rfl⟩;have HIH:=hid ih;have HK:=hid hk;have HW:=hid hW;have HKD:=hid hkd
 -- of the part at a place
 have KID:=hid fun(i:Nat) (hik:i<kids.length) (wr:World) (hwr:Below W.heap.size W wr)=>(show ∃ (b o q' n' c' g':Nat) (T':ByteArray) (a':Option Addr),a=some ⟨b,o,none⟩/\b<wr.heap.size/\wr.cell? ⟨b,o+i*4,none⟩=some (.int .u8 q')/\wr.cell? ⟨b,o+i*4+1,none⟩=some (.string T')/\wr.cell? ⟨b,o+i*4+2,none⟩=some (.int .i64 g')/\wr.cell? ⟨b,o+i*4+3,none⟩=some (.slice a' n' c')/\∀ wz,Below W.heap.size W wz->Calls Tryz.prog 75 #[.agg #[.int .u8 q',.string T',.int .i64 g',.slice a' n' c']] wz fun e w'=>e=.returned (.int .i64 (kids[i]).deep)/\Below wz.heap.size wz w' from by
  rcases HK.out with h0|⟨b,o,ha,hPb,hbW,hvs⟩
  ·rw[h0] at hik;simp at hik
  obtain⟨cs',hvc,hcell⟩:=hvs.get i hik;obtain⟨a',c',rfl,hnc',hcm',hsh',hk'⟩:=hvc.form;refine⟨b,o,_,_,_,_,_,a',ha,zaC hbW hwr.size,?_,?_,?_,?_,fun wz hz=>HIH.out kids[i] (zaQ hik) P _ W wz hvc hz (zaI (oR (zaQ hik)) HKD.out)⟩
  ·exact(hwr.cell (p:=⟨b,o+i*4,none⟩) hbW).trans (by have:=hcell 0 _ rfl;rwa[Nat.add_zero] at this)
  ·exact(hwr.cell (p:=⟨b,o+i*4+1,none⟩) hbW).trans (hcell 1 _ rfl)
  ·exact(hwr.cell (p:=⟨b,o+i*4+2,none⟩) hbW).trans (hcell 2 _ rfl)
  ·exact(hwr.cell (p:=⟨b,o+i*4+3,none⟩) hbW).trans (hcell 3 _ rfl))
 by_cases h61:what=61
 ·have hl:=hsh.fld h61
  have hn1:n=1:=by rw[<-hn];exact hl
  subst hn1;have hq61:q=61:=by rw[<-hq,h61];rfl
  subst hq61;obtain⟨u,hu⟩:∃ u,kids=[u]:=List.length_eq_one_iff.1 hl;have HD:=hid (show(kids[0]'(by rw[hl];omega)).deep=(Wf.V.mk what text tag kids).deep by subst hu h61;simp[Wf.V.deep,Wf.V.aJ]);have hBW0:=((Below.refl w.heap.size w).alloc (zaA) (.cells #[.int .u8 61,.string T,.int .i64 tag,.slice a 1 c] 51));obtain⟨b,o,q',n',c',g',T',a',rfl,hb,k0,k1,k2,k3,hrec⟩:=KID.out 0 (by rw[hl];omega) _ (HW.out.trans (hBW0.mono HW.out.size));rw[HD.out] at hrec;have HR:=hid hrec;have HB0:=hid hBW0;rw[Nat.zero_mul,Nat.add_zero] at k0 k1 k2 k3;simp only[tx,hT,hq,hn];clear ih hk hW hkd hsh HV hT hq hn hnc hcm hu h61 hdeep hrec hBW0;go_enter Tryz.func75,Tryz.ntmps75;go_wp2_with (go_at_call 75;refine(HR.out _ (HW.out.trans (HB0.out.mono HW.out.size))).mono ?_;rintro e w2 ⟨rfl,hb2⟩)
  go_ret
  exact⟨rfl,aC HB0.out hb2⟩
 ·have hq61:((q:Int)==61)=false:=by
   rw[zaJ];intro h;exact h61 (UInt8.toNat_inj.1 (by rw[hq];show q=61;omega))
  have HD:=hid (show Wf.V.aJ kids+1=(Wf.V.mk what text tag kids).deep from(Wf.fO h61 _ _ _).symm);have HN:=hid hn;rw[hn] at hnc;unfold maxLen at hcm;simp only[tx,hT,hq,hn];clear ih hk hW hkd hsh HV hT hq hn h61 hdeep;go_enter Tryz.func75,Tryz.ntmps75;go_wp2_with fail
  go_loopw [3,17] (fun s3 s17 wr=>∃ (i d:Nat),s3=.int .i64 d/\s17=.int .i64 i/\i<=n/\d<=1000000/\Hid (d=Wf.V.aJ (kids.take i)/\Below w.heap.size w wr)) (fun _ s17 _=>n-(RowKit.intOf s17).toNat)
  case atStart=>exact⟨0,0,rfl,rfl,Nat.zero_le _,Nat.zero_le _,hid ⟨rfl,(zaB).alloc (zaA) _⟩⟩
  case round =>
   obtain⟨i,d,rfl,rfl,hi,hd6,hh⟩:=hrel;by_cases hlt:i<n
   ·have hik:i<kids.length:=by rw[HN.out];exact hlt
    obtain⟨b,o,q',n',c',g',T',a',rfl,hb,k0,k1,k2,k3,hrec⟩:=KID.out i hik wr (HW.out.trans (hh.out.2.mono HW.out.size));obtain⟨D,hD⟩:∃ D,(kids[i]).deep=D:=⟨_,rfl⟩;have hD6:D<=1000000:=(by rw[<-hD];exact zaI (oR (zaQ hik)) HKD.out);have HS:=hid (show Wf.V.aJ (kids.take (i+1))=max d D by
     have e:kids.take (i+1)=kids.take i++[kids[i]]:=(by rw[List.take_add_one,zaV hik];rfl);rw[e,tB,hD,<-hh.out.1])
    rw[hD] at hrec;have HR:=hid hrec;have BW:=hid (HW.out.trans (hh.out.2.mono HW.out.size));clear hrec hD;go_wp2_with (go_at_call 75;refine(HR.out _ (BW.out.trans (((zaB).alloc (zaA) _).mono BW.out.size))).mono ?_;rintro e w2 ⟨rfl,hb2⟩;have B2:=hid (aC ((Below.refl wr.heap.size wr).alloc (zaA) _) hb2);clear hb2)
    go_roundw
    case rel=>exact⟨i+1,max d D,by go_num,by go_num,by omega,by omega,hid ⟨HS.out.symm,hh.out.2.trans (B2.out.mono hh.out.2.size)⟩⟩
    case measure=>simp[RowKit.intOf];omega
   ·have hin:i=n:=by omega
    subst hin;have HX:=hid (show d+1=(Wf.V.mk what text tag kids).deep by rw[<-HD.out,hh.out.1,zaS (by rw[HN.out];exact zaA)]);go_wp2_with fail
    go_ret
    exact⟨by rw[<-HX.out];rfl,hh.out.2⟩

theorem sT (s:ByteArray) (w:World) (h0:s.toList.isEmpty=true):Calls Tryz.prog 69 #[.string s] w fun e w'=>(∃ p,e=.returned (.tuple #[.pointer p,.bool false]))/\Below w.heap.size w w':=by
 go_enter Tryz.func69,Tryz.ntmps69;go_wp2_with fail
 go_ret2
 exact⟨⟨_,rfl⟩,zaB⟩
theorem uF (s:ByteArray) (w:World) (h0:s.toList.isEmpty=false) (h1:1<=s.size) (hk:∀ wz,Calls Tryz.prog 107 #[.string ⟨#[82,85,69]⟩,.string (s.extract 0 1)] wz fun e w'=>e=.returned (.bool false)/\wz=w') :
  Calls Tryz.prog 69 #[.string s] w fun e w'=>(∃ p,e=.returned (.tuple #[.pointer p,.bool false]))/\Below w.heap.size w w':=by
 have HK:=hid hk;clear hk;go_enter Tryz.func69,Tryz.ntmps69;go_wp2_with (go_at_call 107;refine(HK.out _).mono ?_;rintro e w1 ⟨rfl,rfl⟩)
 go_ret2
 exact⟨⟨_,rfl⟩,zaB⟩
section
variable (s:ByteArray) (w:World) (m:Int) (hm:ML m w) (h0:s.toList.isEmpty=false) (h1:1<=s.size) (hk:∀ wz,Calls Tryz.prog 107 #[.string ⟨#[82,85,69]⟩,.string (s.extract 0 1)] wz fun e w'=>e=.returned (.bool true)/\wz=w')
 (NM RS:ByteArray) (told:Bool) (hc:∀ wz,ML m wz->Calls Tryz.prog 68 #[.string (s.extract 1 s.size),.string ⟨#[61]⟩] wz fun e w'=>e=.returned (.tuple #[.string NM,.string RS,.bool told])/\∃ k,w'=wz.drewN k)
include hm h0 h1 hk hc
theorem yY (ht:told=false):Calls Tryz.prog 69 #[.string s] w fun e w'=>(∃ p,e=.returned (.tuple #[.pointer p,.bool false]))/\Below w.heap.size w w':=by
 have HK:=hid hk;have HC:=hid (hc _ hm);subst ht;clear hk hc hm;go_enter Tryz.func69,Tryz.ntmps69;go_wp2_with (first|(go_at_call 68;refine HC.out.mono ?_;rintro e w1 ⟨rfl,dk,rfl⟩)|(go_at_call 107;refine(HK.out _).mono ?_;rintro e w1 ⟨rfl,rfl⟩))
 go_ret2
 exact⟨⟨_,rfl⟩,bN (zaB) _⟩
theorem a3M (ht:told=true) (hn:∀ wz,Calls Tryz.prog 93 #[.string NM] wz fun e w'=>e=.returned (.bool false)/\Below wz.heap.size wz w'):Calls Tryz.prog 69 #[.string s] w fun e w'=>(∃ p,e=.returned (.tuple #[.pointer p,.bool false]))/\Below w.heap.size w w':=by
 have HK:=hid hk;have HC:=hid (hc _ hm);have HN:=hid hn;subst ht;clear hk hc hm hn;go_enter Tryz.func69,Tryz.ntmps69;go_wp2_with (first|(go_at_call 93;refine(HN.out _).mono ?_;rintro e w2 ⟨rfl,hb2⟩;have HB2:=hid hb2;clear hb2)|(go_at_call 68;refine HC.out.mono ?_;rintro e w1 ⟨rfl,dk,rfl⟩)|(go_at_call 107;refine(HK.out _).mono ?_;rintro e w1 ⟨rfl,rfl⟩))
 go_ret2
 exact⟨⟨_,rfl⟩,(bN (zaB) _).trans HB2.out⟩
theorem yD (ht:told=true) (hn:∀ wz,Calls Tryz.prog 93 #[.string NM] wz fun e w'=>e=.returned (.bool true)/\Below wz.heap.size wz w') (hr:RS.toList.isEmpty=true) (q:Nat) (e0:∀ h,(s[0]'h).toNat=q) :
  Calls Tryz.prog 69 #[.string s] w fun e w'=>(∃ b,e=.returned (.tuple #[ptr b,.bool ((q:Int)==82)])/\w.heap.size<=b/\b<w'.heap.size/\w'.cell? ⟨b,0,none⟩=some (.int .u8 q)/\w'.cell? ⟨b,1,none⟩=some (.string NM)/\w'.cell? ⟨b,2,none⟩=some (.slice none 0 0)/\∃ cs,w'.heap[b]? = some (.cells cs 70 (0,0)))/\Below w.heap.size w w':=by
 have HK:=hid hk;have HC:=hid (hc _ hm);have HN:=hid hn;subst ht;clear hk hc hm hn;go_enter Tryz.func69,Tryz.ntmps69;go_wp2_with (first|(go_at_call 93;refine(HN.out _).mono ?_;rintro e w2 ⟨rfl,hb2⟩;have HB2:=hid hb2;clear hb2)|(go_at_call 68;refine HC.out.mono ?_;rintro e w1 ⟨rfl,dk,rfl⟩)|(go_at_call 107;refine(HK.out _).mono ?_;rintro e w1 ⟨rfl,rfl⟩))
 go_region
 all_goals go_wp2_with fail
 all_goals go_ret2
 all_goals exact⟨⟨_,rfl,HB2.out.size,by simp,by simp,by simp,by simp,⟨_,(MapKept.heap_alloc w2 _).1⟩⟩,by have B:=(bN (Below.refl w.heap.size w) dk).trans HB2.out;repeat (first|with_reducible exact B|with_reducible refine zbE ?_|with_reducible refine zbG ?_ (by first|exact B.size|(simp;done)|(simp;omega)|omega) _)⟩
end
