/- Packed. -/
import Derived.Test.YtidjpalnmnehmaaGreatDoorK31
set_option maxRecDepth 99999
set_option maxHeartbeats 40000000
set_option linter.all false
namespace Go.Proofs.YtidjpalnmnehmaaGreatDoor
open Go.ChangeShapes Go.WideShapes Go.ChangeAt Go.RowKit Go.Lib
structure RB (w wr:World) (vb base:Nat) (ta:Option Addr) (mt tc:Nat) (a:Option Addr) (m c:Nat) (gs:List Nat) (l:List Wf.V) (bs:List Nat):Prop where
 lt:vb<base
 le:w.heap.size<=vb
 sz:base<=wr.heap.size
 v2:wr.cell? ⟨vb,2,none⟩=some (.slice ta mt tc)
 f2:wr.frozen? ⟨vb,2,none⟩=false
 v3:wr.cell? ⟨vb,3,none⟩=some (.slice a m c)
 f3:wr.frozen? ⟨vb,3,none⟩=false
 ownT:wr.ownsRow base 3 1 (.slice ta mt tc) mt (gs.map ix)
 ownK:wr.ownsRow base 57 1 (.slice a m c) m (bs.map ptr)
 apart:∀ y,(Value.slice ta mt tc).ownBlock=some y->(Value.slice a m c).ownBlock=some y->False
 hg:gs.length=mt
 hl:bs.length=m
 vals:LVs wr (fun y=>base<=y/\some y≠(Value.slice a m c).ownBlock/\some y≠(Value.slice ta mt tc).ownBlock) l bs
section
variable {w wr:World} {vb base mt tc m c:Nat} {ta a:Option Addr} {gs:List Nat} {l:List Wf.V} {bs:List Nat}
theorem RB.step (h:RB w wr vb base ta mt tc a m c gs l bs) {w2:World} (hb:Below wr.heap.size wr w2):RB w w2 vb base ta mt tc a m c gs l bs:=by
 have hv:vb<wr.heap.size:=zaC h.lt h.sz;exact⟨h.lt,h.le,zaI h.sz hb.size,(hb.cell (p:=⟨vb,2,none⟩) hv).trans h.v2,(hb.frozen (p:=⟨vb,2,none⟩) hv).trans h.f2,(hb.cell (p:=⟨vb,3,none⟩) hv).trans h.v3,(hb.frozen (p:=⟨vb,3,none⟩) hv).trans h.f3,bY h.ownT hb,bY h.ownK hb,h.apart,h.hg,h.hl,LVs.keep (fun y hy hlt=>⟨hy,hb.block y hlt⟩) hb.size _ _ h.vals⟩
theorem nR {wx w4:World} {e:TypeId} {size n:Nat} {v v':Value} {xs:List Value} (h:wx.ownsRow base e size v n xs) (hg:wx.grownBy w4 v'.ownBlock) (ha:∀ y,v.ownBlock=some y->some y≠v'.ownBlock):w4.ownsRow base e size v n xs:=by
 obtain⟨h1,h2|⟨g,cap,cur,rfl,h4,h5,h6⟩⟩:=h
 ·exact⟨h1,.inl h2⟩
 ·refine⟨h1,.inr ⟨g,cap,cur,rfl,h4,?_,h6⟩⟩
  rw[hg.block g (Array.getElem?_eq_some_iff.1 h5).1 (ha g rfl)];exact h5
theorem RB.putT (h:RB w wr vb base ta mt tc a m c gs l bs) {wx w4:World} (hx:Below wr.heap.size wr wx) (hg:wx.grownBy w4 (Value.slice ta mt tc).ownBlock) {g cap g0:Nat}
  (ho:w4.ownsRow base 3 1 (.slice (some ⟨g,0,none⟩) (mt+1) cap) (mt+1) (gs.map ix++[ix g0])) (hat:(Value.slice ta mt tc).ownBlock=some g\/g=wx.heap.size) :
  RB w (w4.setCell ⟨vb,2,none⟩ (.slice (some ⟨g,0,none⟩) (mt+1) cap)) vb base (some ⟨g,0,none⟩) (mt+1) cap a m c (gs++[g0]) l bs /\
  (∀ y,base<=y->y<wx.heap.size->some y≠(Value.slice a m c).ownBlock->some y≠(Value.slice ta mt tc).ownBlock->some y≠(Value.slice (some ⟨g,0,none⟩) (mt+1) cap).ownBlock/\(w4.setCell ⟨vb,2,none⟩ (.slice (some ⟨g,0,none⟩) (mt+1) cap)).heap[y]? = wx.heap[y]?):=by
 have hs:=h.step hx;have hlo:=aU hs.ownT;have hB:Below base wx w4:=aW hg (fun g hgk=>(hlo g hgk).1) hs.sz;have hss:(w4.setCell ⟨vb,2,none⟩ (.slice (some ⟨g,0,none⟩) (mt+1) cap)).heap.size=w4.heap.size:=by simp
 have hloc:(Value.slice (some ⟨g,0,none⟩) (mt+1) cap).ownBlock=(Value.slice ta mt tc).ownBlock\/(Value.slice (some ⟨g,0,none⟩) (mt+1) cap).ownBlock=some wx.heap.size:=by
  rcases hat with hat|hat
  ·exact .inl hat.symm
  ·exact .inr (by rw[<-hat];rfl)
 have hl:=h.lt;have hkeep:∀ y,base<=y->y<wx.heap.size->some y≠(Value.slice ta mt tc).ownBlock->some y≠(Value.slice (some ⟨g,0,none⟩) (mt+1) cap).ownBlock/\(w4.setCell ⟨vb,2,none⟩ (.slice (some ⟨g,0,none⟩) (mt+1) cap)).heap[y]? = wx.heap[y]?:=fun y hy1 hy2 hy3=>by
  obtain⟨e1,e2⟩:=fE hg hloc hy2 hy3;refine⟨e2,?_⟩;rw[Below.heap_setCell w4 ⟨vb,2,none⟩ _ _ (by show y≠vb;omega)];exact e1
 have hap:∀ y,(Value.slice a m c).ownBlock=some y->some y≠(Value.slice ta mt tc).ownBlock:=fun y h1 h2=>h.apart y h2.symm h1;refine⟨⟨h.lt,h.le,by rw[hss];exact zaI hs.sz hB.size,zbC w4 _ _ ((hB.cell (p:=⟨vb,2,none⟩) h.lt).trans hs.v2),?_,(zbA w4 _ _ _ (by simp)).trans ((hB.cell (p:=⟨vb,3,none⟩) h.lt).trans hs.v3),?_,?_,ownsRow_setCell_below (nR hs.ownK hg hap) h.lt _,?_,by rw[zaD,h.hg];rfl,h.hl,?_⟩,fun y h1 h2 _ h4=>hkeep y h1 h2 h4⟩
 ·have:=(hB.frozen (p:=⟨vb,2,none⟩) h.lt).trans hs.f2
  simpa using this
 ·have:=(hB.frozen (p:=⟨vb,3,none⟩) h.lt).trans hs.f3
  simpa using this
 ·rw[List.map_append]
  exact ownsRow_setCell_below ho h.lt _
 ·intro y h1 h2
  have hk:=aU hs.ownK y h2;rcases hloc with h3|h3
  ·rw[h3] at h1;exact h.apart y h1 h2
  ·rw[h3] at h1;have:=Option.some.inj h1;omega
 ·exact LVs.keep (fun y hp hlt=>by
   obtain⟨e1,e2⟩:=hkeep y hp.1 hlt hp.2.2;exact⟨⟨hp.1,hp.2.1,e1⟩,e2⟩) (by rw[hss];exact hB.size) _ _ hs.vals
theorem RB.putK (h:RB w wr vb base ta mt tc a m c gs l bs) {wx w4:World} (hx:Below wr.heap.size wr wx) (hg:wx.grownBy w4 (Value.slice a m c).ownBlock) {g cap b:Nat} {u:Wf.V}
  (ho:w4.ownsRow base 57 1 (.slice (some ⟨g,0,none⟩) (m+1) cap) (m+1) (bs.map ptr++[ptr b])) (hat:(Value.slice a m c).ownBlock=some g\/g=wx.heap.size)
  (hv:LV wx (fun y=>base<=y/\some y≠(Value.slice a m c).ownBlock/\some y≠(Value.slice ta mt tc).ownBlock) u b) :
  RB w (w4.setCell ⟨vb,3,none⟩ (.slice (some ⟨g,0,none⟩) (m+1) cap)) vb base ta mt tc (some ⟨g,0,none⟩) (m+1) cap gs (l++[u]) (bs++[b]):=by
 have hs:=h.step hx;have hlo:=aU hs.ownK;have hB:Below base wx w4:=aW hg (fun g hgk=>(hlo g hgk).1) hs.sz;have hss:(w4.setCell ⟨vb,3,none⟩ (.slice (some ⟨g,0,none⟩) (m+1) cap)).heap.size=w4.heap.size:=by simp
 have hloc:(Value.slice (some ⟨g,0,none⟩) (m+1) cap).ownBlock=(Value.slice a m c).ownBlock\/(Value.slice (some ⟨g,0,none⟩) (m+1) cap).ownBlock=some wx.heap.size:=by
  rcases hat with hat|hat
  ·exact .inl hat.symm
  ·exact .inr (by rw[<-hat];rfl)
 have hl:=h.lt;have hkeep:∀ y,base<=y->y<wx.heap.size->some y≠(Value.slice a m c).ownBlock->some y≠(Value.slice (some ⟨g,0,none⟩) (m+1) cap).ownBlock/\(w4.setCell ⟨vb,3,none⟩ (.slice (some ⟨g,0,none⟩) (m+1) cap)).heap[y]? = wx.heap[y]?:=fun y hy1 hy2 hy3=>by
  obtain⟨e1,e2⟩:=fE hg hloc hy2 hy3;refine⟨e2,?_⟩;rw[Below.heap_setCell w4 ⟨vb,3,none⟩ _ _ (by show y≠vb;omega)];exact e1
 have hap:∀ y,(Value.slice ta mt tc).ownBlock=some y->some y≠(Value.slice a m c).ownBlock:=fun y h1 h2=>h.apart y h1 h2.symm;have hall:∀ {v:Wf.V} {b:Nat},LV wx (fun y=>base<=y/\some y≠(Value.slice a m c).ownBlock/\some y≠(Value.slice ta mt tc).ownBlock) v b->LV (w4.setCell ⟨vb,3,none⟩ (.slice (some ⟨g,0,none⟩) (m+1) cap)) (fun y=>base<=y/\some y≠(Value.slice (some ⟨g,0,none⟩) (m+1) cap).ownBlock/\some y≠(Value.slice ta mt tc).ownBlock) v b:=fun hv=>LV.keep (fun y hp hlt=>by
   obtain⟨e1,e2⟩:=hkeep y hp.1 hlt hp.2.1;exact⟨⟨hp.1,e1,hp.2.2⟩,e2⟩) (by rw[hss];exact hB.size) _ _ hv
 refine⟨h.lt,h.le,by rw[hss];exact zaI hs.sz hB.size,(zbA w4 _ _ _ (by simp)).trans ((hB.cell (p:=⟨vb,2,none⟩) h.lt).trans hs.v2),?_,zbC w4 _ _ ((hB.cell (p:=⟨vb,3,none⟩) h.lt).trans hs.v3),?_,ownsRow_setCell_below (nR hs.ownT hg hap) h.lt _,?_,?_,h.hg,by rw[zaD,h.hl];rfl,LVs.snoc (hall hv) ?_⟩
 ·have:=(hB.frozen (p:=⟨vb,2,none⟩) h.lt).trans hs.f2
  simpa using this
 ·have:=(hB.frozen (p:=⟨vb,3,none⟩) h.lt).trans hs.f3
  simpa using this
 ·rw[List.map_append]
  exact ownsRow_setCell_below ho h.lt _
 ·intro y h1 h2
  have hk:=aU hs.ownT y h1;rcases hloc with h3|h3
  ·rw[h3] at h2;exact h.apart y h1 h2
  ·rw[h3] at h2;have:=Option.some.inj h2;omega
 ·exact LVs.keep (fun y hp hlt=>by
   obtain⟨e1,e2⟩:=hkeep y hp.1 hlt hp.2.1;exact⟨⟨hp.1,e1,hp.2.2⟩,e2⟩) (by rw[hss];exact hB.size) _ _ hs.vals
end
theorem lR (g:Nat):∀ u∈[ix g],u.oneCell'=true:=by
 intro u hu;rw[List.mem_singleton.1 hu];rfl
def fl (gs:List Nat) (us:List Wf.V):List Wf.V:=List.zipWith (fun g u=>Wf.V.mk 61 [] g [u]) gs us
theorem lA {gs:List Nat} {us:List Wf.V} (h:gs.length=us.length) (g:Nat) (u:Wf.V):fl (gs++[g]) (us++[u])=fl gs us++[.mk 61 [] g [u]]:=by
 unfold fl;rw[List.zipWith_append h];rfl
theorem uZ:∀ {gs:List Nat} {us:List Wf.V},gs.length=us.length->(fl gs us).map Wf.V.tag=gs:=by
 intro gs;induction gs with
 | nil=>intro us _;rfl
 | cons g gs ih =>
  intro us h;cases us with
  | nil=>simp at h
  | cons u us =>
   simp only[fl,List.zipWith_cons_cons,zaX];rw[show(List.zipWith (fun g u=>Wf.V.mk 61 [] g [u]) gs us).map Wf.V.tag=gs from ih (by simpa using h)];rfl
theorem a1P {W:World} {P:Nat->Prop}:∀ {gs:List Nat} {us:List Wf.V} {bs:List Nat},gs.length=us.length->LVs W P us bs->LVs W P (fl gs us) bs:=by
 intro gs;induction gs with
 | nil =>
  intro us bs h hv;cases us with
  | nil=>exact hv
  | cons u us=>simp at h
 | cons g gs ih =>
  intro us bs h hv;cases us with
  | nil=>simp at h
  | cons u us =>
   simp only[LVs] at hv;obtain⟨b,bs',rfl,h1,h2⟩:=hv;simp only[fl,List.zipWith_cons_cons,LVs];exact⟨b,bs',rfl,LV.field.2 h1,ih (by simpa using h) h2⟩
def bP (gs:List Nat):Nat:=gs.getLast?.getD 0
theorem xW (gs:List Nat) (g:Nat):bP (gs++[g])=g:=by simp[bP]
theorem oP {gs:List Nat} {i:Nat} (h:gs.length=i+1):bP gs=gs[i]'(by omega):=by
 unfold bP;have e:gs.length-1=i:=by omega
 rw[List.getLast?_eq_getElem?,e,zaV (by omega)];rfl
theorem oD {t:Wf.Ty} {p:Wf.K->Wf.Reads} {s:List UInt8} (h:tagF t s=none):Wf.fieldTok t p s=none:=by
 unfold tagF at h;cases hp:Wf.aI (s.takeWhile Wf.aD) 200 with
 | none=>exact Wf.jP t p (by rw[Wf.aO,hp];rfl)
 | some g =>
  rw[hp] at h;exact Wf.oC t p (g:=g) (r:=s.dropWhile Wf.aD) (by rw[Wf.aO,hp];rfl) h
theorem jH {t:Wf.Ty} {p:Wf.K->Wf.Reads} {s:List UInt8} (h:(s.dropWhile Wf.aD).head? ≠ some 61):Wf.fieldTok t p s=none:=by
 cases hp:Wf.aI (s.takeWhile Wf.aD) 200 with
 | none=>exact Wf.jP t p (by rw[Wf.aO,hp];rfl)
 | some g=>exact Wf.rO t p (g:=g) (r:=s.dropWhile Wf.aD) (by rw[Wf.aO,hp];rfl) h
theorem pI {t:Wf.Ty} {p:Wf.K->Wf.Reads} {s q:List UInt8} {f:Wf.Fd} (h:tagF t s=some f) (hq:s.dropWhile Wf.aD=61::q):Wf.fieldTok t p s=(p f.kind q).map fun y=>(f,y.1,y.2):=by
 unfold tagF at h;cases hp:Wf.aI (s.takeWhile Wf.aD) 200 with
 | none=>rw[hp] at h;cases h
 | some g =>
  rw[hp] at h;exact Wf.rX t p (g:=g) (r:=q) (by rw[Wf.aO,hp,hq];rfl) h
theorem rY {t:Wf.Ty} {s:List UInt8} {f:Wf.Fd} (h:tagF t s=some f):f∈t.fields:=by
 unfold tagF at h;cases hp:Wf.aI (s.takeWhile Wf.aD) 200 with
 | none=>rw[hp] at h;cases h
 | some g=>rw[hp] at h;exact(Wf.dT h).1
structure TYc (wr:World) (b q n c:Nat) (N:ByteArray) (fa:Option Addr):Prop where
 lt:b<wr.heap.size
 t0:wr.cell? ⟨b,0,none⟩=some (.int .u8 q)
 t1:wr.cell? ⟨b,1,none⟩=some (.string N)
 t2:wr.cell? ⟨b,2,none⟩=some (.slice fa n c)
theorem TYc.step {wr w2:World} {b q n c B:Nat} {N:ByteArray} {fa:Option Addr} (h:TYc wr b q n c N fa) (hb:Below B wr w2) (hB:b<B):TYc w2 b q n c N fa :=
 ⟨zaC h.lt hb.size,(hb.cell (p:=⟨b,0,none⟩) hB).trans h.t0,(hb.cell (p:=⟨b,1,none⟩) hB).trans h.t1,(hb.cell (p:=⟨b,2,none⟩) hB).trans h.t2⟩
theorem kU (w:World) (v:Value) (q n c:Nat) (N KT:ByteArray) (fa:Option Addr) (W1:World) (hW1:((w.alloc (.cells #[v] 99)).alloc (.cells #[.int .u8 q,.string N,.slice fa n c] 143)).alloc (.cells #[.string KT,.string ⟨#[82]⟩,.slice none 0 0,.slice none 0 0] 103)=W1) :
  VBk v w W1 w.heap.size (w.heap.size+1+1) KT ⟨#[82]⟩/\RB w W1 (w.heap.size+1+1) (w.heap.size+1+1+1) none 0 0 none 0 0 [] [] []/\TYc W1 (w.heap.size+1) q n c N fa:=by
 have hB:Below w.heap.size w W1:=by
  rw[<-hW1];exact((((zaB).alloc (zaA) _).alloc (by simp) _).alloc (by simp;omega) _)
 subst hW1;refine⟨⟨hB,?_,?_,?_,?_,?_⟩,⟨?_,?_,?_,?_,?_,?_,?_,World.ownsRow_nil _ _ _ _,World.ownsRow_nil _ _ _ _,?_,rfl,rfl,by simp only[LVs]⟩,⟨?_,?_,?_,?_⟩⟩;all_goals first|(simp[go_sem];done)|(simp[go_sem];omega)|omega|(intro y h;cases h)
theorem RB.record {v:Value} {w wr:World} {vb base m mt tc c:Nat} {ta a:Option Addr} {gs:List Nat} {us:List Wf.V} {bs:List Nat} {rb:Nat} {KT:ByteArray} (h:RB w wr vb base ta mt tc a m c gs us bs) (hgl:gs.length=us.length) (hv:VBk v w wr rb vb KT ⟨#[82]⟩) (hk:KT.data.toList.head? = some 64):LV wr (fun y=>w.heap.size<=y) (.mk 82 [] 0 (fl gs us)) vb:=by
 have hbl:(bs.map ptr).length=m:=by rw[zaG,h.hl]
 have hgm:(gs.map ix).length=mt:=by rw[zaG,h.hg]
 obtain⟨b,hb,hrow⟩:=aH.cO (xs:=bs.map ptr) (by rw[hbl];exact h.ownK);obtain⟨b2,hb2,hrow2⟩:=aH.cO (xs:=gs.map ix) (by rw[hgm];exact h.ownT);have h1:=h.lt;have h3:=h.le;have ht:bU 82 0 (fl gs us)=gs:=by unfold bU;rw[if_pos rfl,uZ hgl]
 exact LV.mk (kd:=KT.data.toList) (t:=[82]) (tb:=b2) (kb:=b) (bs:=bs) (by decide) h3 hv.lt hv.v0 hv.v1 h.v2 h.v3 (by rw[ht];exact hrow2) (.inr (by omega)) hrow (.inr (by omega)) ⟨hk,rfl⟩ (a1P hgl (LVs.keep (fun y hp hlt=>⟨by have:=hp.1;omega,rfl⟩) (zaA) _ _ h.vals))
