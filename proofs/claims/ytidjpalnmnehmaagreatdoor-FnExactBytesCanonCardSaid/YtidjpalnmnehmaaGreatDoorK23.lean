/- Packed. -/
import Derived.Test.YtidjpalnmnehmaaGreatDoorK22
import Derived.Maps.AppendAt
import Derived.Deep.CutRange
set_option maxRecDepth 99999
set_option maxHeartbeats 40000000
set_option linter.all false
namespace Go.Proofs.YtidjpalnmnehmaaGreatDoor
open Go.ChangeShapes Go.WideShapes Go.ChangeAt Go.RowKit Go.Lib
structure KOk (x:Wf.Sc) (k:Wf.K):Prop where
 len:k.text.length<=12
 ref:Wf.aL x k=true
def aP (o:Option (Wf.V × List UInt8)) (s:List UInt8) (rb sb:Nat) (w:World) (e:Ending) (w':World):Prop :=
 ∃ cs v r,e=.returned (.agg cs.toArray)/\VC w' (fun b=>w.heap.size<=b) v cs/\aA rb w w'/\((o=some (v,r)/\Sn w' rb sb r false)\/(o=none/\Wf.Badv s r v/\Sn w' rb sb r true))
structure Bld (w wr:World) (rb vb base:Nat) (q:Nat) (a:Option Addr) (c:Nat) (l:List Wf.V) (es:List (List Value)):Prop where
 fr:aA rb w wr
 vw:w.heap.size<=vb
 vlt:vb<base
 sz:base<=wr.heap.size
 v0:wr.cell? ⟨vb,0,none⟩=some (.int .u8 q)
 v1:wr.cell? ⟨vb,1,none⟩=some (tx [])
 v2:wr.cell? ⟨vb,2,none⟩=some (.int .i64 0)
 v3:wr.cell? ⟨vb,3,none⟩=some (.slice a es.length c)
 f3:wr.frozen? ⟨vb,3,none⟩=false
 own:wr.ownsRow base 51 4 (.slice a es.length c) es.length es.flatten
 he:∀ e∈es,e.length=4
 hl:es.length=l.length
 vals:∀ i (h1:i<es.length) (h2:i<l.length),VC wr (fun b=>base<=b/\some b≠(Value.slice a es.length c).ownBlock) l[i] es[i]
section
variable {w wr:World} {rb vb base q:Nat} {a:Option Addr} {c:Nat} {l:List Wf.V} {es:List (List Value)}
theorem dQ {w w':World} {b rb:Nat} {e:TypeId} {size:Nat} {v:Value} {n:Nat} {xs:List Value} (h:w.ownsRow b e size v n xs) (hb:aA rb w w') (hr:rb<b):w'.ownsRow b e size v n xs:=by
 obtain⟨h1,h2|⟨g,cap,cur,h3,h4,h5,h6⟩⟩:=h
 ·exact⟨h1,.inl h2⟩
 ·refine⟨h1,.inr ⟨g,cap,cur,h3,h4,?_,h6⟩⟩
  rw[hb.block g (Array.getElem?_eq_some_iff.1 h5).1 (by omega)];exact h5
theorem aA.frozen {rb:Nat} {w w':World} (h:aA rb w w') {p:Addr} (hp:p.block<w.heap.size) (hr:p.block≠rb):w'.frozen? p=w.frozen? p:=World.frozen?_of_block (w:=w) (h.block p.block hp hr)
theorem Bld.step (h:Bld w wr rb vb base q a c l es) (hr:rb<w.heap.size) {w2:World} (hb:aA rb wr w2):Bld w w2 rb vb base q a c l es:=by
 have h1:=h.vw;have h2:=h.vlt;have h3:=h.sz;have hv:vb<wr.heap.size:=by omega
 have hn:vb≠rb:=by omega
 exact⟨h.fr.trans hb,h1,h2,zaI h3 hb.size,(hb.cell (p:=⟨vb,0,none⟩) hv hn).trans h.v0,(hb.cell (p:=⟨vb,1,none⟩) hv hn).trans h.v1,(hb.cell (p:=⟨vb,2,none⟩) hv hn).trans h.v2,(hb.cell (p:=⟨vb,3,none⟩) hv hn).trans h.v3,(hb.frozen (p:=⟨vb,3,none⟩) hv hn).trans h.f3,dQ h.own hb (by omega),h.he,h.hl,
  fun i g1 g2=>VC.keep (fun b hp hlt=>⟨hp,hb.block b hlt (by omega)⟩) hb.size _ _ (h.vals i g1 g2)⟩
theorem Bld.put (h:Bld w wr rb vb base q a c l es) (hr:rb<w.heap.size) {wx w4:World} (hx:aA rb wr wx) (hg:wx.grownBy w4 (Value.slice a es.length c).ownBlock) {a':Option Addr} {c':Nat} {cs:List Value} {v:Wf.V}
  (hvc:VC wx (fun b=>wr.heap.size<=b) v cs) (ho:w4.ownsRow base 51 4 (.slice a' (es.length+1) c') (es.length+1) (es.flatten++cs))
  (hloc:(Value.slice a' (es.length+1) c').ownBlock=(Value.slice a es.length c).ownBlock\/(Value.slice a' (es.length+1) c').ownBlock=some wx.heap.size) :
  Bld w (w4.setCell ⟨vb,3,none⟩ (.slice a' (es.length+1) c')) rb vb base q a' c' (l++[v]) (es++[cs]):=by
 have hs:=h.step hr hx;have h1:=h.vw;have h2:=h.vlt;have h3:=hs.sz;have hlen:(es++[cs]).length=es.length+1:=by simp
 have hlo:=aU hs.own;have hown:∀ g,(Value.slice a es.length c).ownBlock=some g->base<=g/\g<wr.heap.size:=fun g hg=>aU h.own g hg;have hB:Below base wx w4:=aW hg (fun g hgk=>(hlo g hgk).1) h3;have hvB:vb<base:=h2;have hss:(w4.setCell ⟨vb,3,none⟩ (.slice a' (es.length+1) c')).heap.size=w4.heap.size:=by simp
 have c3:w4.cell? ⟨vb,3,none⟩=some (.slice a es.length c):=(hB.cell (p:=⟨vb,3,none⟩) hvB).trans hs.v3
 -- a block that is not the row's is as it was
 have hkeep:∀ b,base<=b->b<wx.heap.size->some b≠(Value.slice a es.length c).ownBlock->some b≠(Value.slice a' (es.length+1) c').ownBlock/\(w4.setCell ⟨vb,3,none⟩ (.slice a' (es.length+1) c')).heap[b]? = wx.heap[b]?:=fun b hb1 hb2 hb3=>by
  obtain⟨e1,e2⟩:=fE hg hloc hb2 hb3;refine⟨e2,?_⟩;rw[Below.heap_setCell w4 ⟨vb,3,none⟩ _ _ (by show b≠vb;omega)];exact e1
 refine⟨?_,h1,h2,by rw[hss];exact zaI h3 hB.size,?_,?_,?_,?_,?_,?_,?_,?_,?_⟩
 ·have hS:=zbF (B:=vb) (Below.refl vb w4) (p:=⟨vb,3,none⟩) (zaA) (.slice a' (es.length+1) c')
  exact⟨hS.os.trans (hB.os.trans hs.fr.os),hS.tape.trans (hB.tape.trans hs.fr.tape),hS.output.trans (hB.output.trans hs.fr.output),by rw[hss];exact zaI hs.fr.size hB.size,fun k hk hkr=>(Below.heap_setCell w4 ⟨vb,3,none⟩ _ k (by show k≠vb;omega)).trans ((hB.block k (by omega)).trans (hs.fr.block k hk hkr))⟩
 ·exact(zbA w4 _ _ _ (by simp)).trans ((hB.cell (p:=⟨vb,0,none⟩) hvB).trans hs.v0)
 ·exact(zbA w4 _ _ _ (by simp)).trans ((hB.cell (p:=⟨vb,1,none⟩) hvB).trans hs.v1)
 ·exact(zbA w4 _ _ _ (by simp)).trans ((hB.cell (p:=⟨vb,2,none⟩) hvB).trans hs.v2)
 ·rw[hlen];exact zbC w4 _ _ c3
 ·have:=(hB.frozen (p:=⟨vb,3,none⟩) hvB).trans hs.f3
  simpa using this
 ·rw[hlen,List.flatten_append,List.flatten_cons,List.flatten_nil,List.append_nil]
  exact ownsRow_setCell_below ho hvB _
 ·intro e he
  rcases List.mem_append.1 he with he|he
  ·exact h.he e he
  ·rw[List.mem_singleton.1 he];exact hvc.len
 ·rw[hlen,zaD,h.hl];rfl
 ·intro i g1 g2
  rw[hlen];by_cases hi:i<es.length
  ·have hil:i<l.length:=by have:=h.hl;omega
   rw[List.getElem_append_left hi,List.getElem_append_left hil];exact VC.keep (fun b hp hlt=>by
    obtain⟨e1,e2⟩:=hkeep b hp.1 hlt hp.2;exact⟨⟨hp.1,e1⟩,e2⟩) (by rw[hss];exact hB.size) _ _ (hs.vals i hi hil)
  ·have hie:i=es.length:=by simp at g1;omega
   subst hie;rw[List.getElem_append_right (zaA)];have e2:(l++[v])[es.length]'g2=v:=by
    rw[List.getElem_append_right (by rw[h.hl];exact zaA)];simp[h.hl]
   rw[e2];simp only[Nat.sub_self,List.getElem_cons_zero];exact VC.keep (fun b hp hlt=>by
    have hb3:some b≠(Value.slice a es.length c).ownBlock:=fun he=>by
     have:=(hown b he.symm).2;omega
    have hb1:base<=b:=zaI h.sz hp;obtain⟨e1,e2⟩:=hkeep b hb1 hlt hb3;exact⟨⟨hb1,e1⟩,e2⟩) (by rw[hss];exact hB.size) _ _ hvc
end

structure Fix (w wr:World) (SG BS NM:ByteArray):Prop where
 sz:w.heap.size+2<=wr.heap.size
 k0:wr.cell? ⟨w.heap.size,0,none⟩=some (.string SG)
 k1:wr.cell? ⟨w.heap.size,1,none⟩=some (.string BS)
 k2:wr.cell? ⟨w.heap.size,2,none⟩=some (.string NM)
 r0:wr.cell? ⟨w.heap.size+1,0,none⟩=some (.int .u8 0)
 r1:wr.cell? ⟨w.heap.size+1,1,none⟩=some (.string ⟨#[]⟩)
 r2:wr.cell? ⟨w.heap.size+1,2,none⟩=some (.int .i64 0)
 r3:wr.cell? ⟨w.heap.size+1,3,none⟩=some (.slice none 0 0)
 f0:wr.frozen? ⟨w.heap.size+1,0,none⟩=false
 f1:wr.frozen? ⟨w.heap.size+1,1,none⟩=false
 f2:wr.frozen? ⟨w.heap.size+1,2,none⟩=false
 f3:wr.frozen? ⟨w.heap.size+1,3,none⟩=false
theorem Fix.same {w wr w2:World} {SG BS NM:ByteArray} (h:Fix w wr SG BS NM) (hs:wr.heap.size<=w2.heap.size) (h0:w2.heap[w.heap.size]? = wr.heap[w.heap.size]?) (h1:w2.heap[w.heap.size+1]? = wr.heap[w.heap.size+1]?):Fix w w2 SG BS NM:=by
 have cc:=fun o=>zbJ (w:=wr) (w':=w2) (a:=⟨w.heap.size,o,none⟩) h0;have cd:=fun o=>zbJ (w:=wr) (w':=w2) (a:=⟨w.heap.size+1,o,none⟩) h1;have cf:=fun o=>World.frozen?_of_block (w:=wr) (w':=w2) (a:=⟨w.heap.size+1,o,none⟩) h1;exact⟨zaI h.sz hs,(cc 0).trans h.k0,(cc 1).trans h.k1,(cc 2).trans h.k2,(cd 0).trans h.r0,(cd 1).trans h.r1,(cd 2).trans h.r2,(cd 3).trans h.r3,(cf 0).trans h.f0,(cf 1).trans h.f1,(cf 2).trans h.f2,(cf 3).trans h.f3⟩
theorem Fix.step {w wr w2:World} {SG BS NM:ByteArray} {rb:Nat} (h:Fix w wr SG BS NM) (hr:rb<w.heap.size) (hb:aA rb wr w2):Fix w w2 SG BS NM :=
 h.same hb.size (hb.block _ (by have:=h.sz;omega) (by omega)) (hb.block _ (by have:=h.sz;omega) (by omega))
theorem Fix.low {w wr w2:World} {SG BS NM:ByteArray} {B:Nat} (h:Fix w wr SG BS NM) (hB:w.heap.size+2<=B) (hb:Below B wr w2):Fix w w2 SG BS NM :=
 h.same hb.size (hb.block _ (by omega)) (hb.block _ (by omega))
def fD (w:World) (rb:Nat):Nat:=match w.cell? ⟨rb,1,none⟩ with
 | some (.string s)=>s.size
 | _=>0
theorem Sn.size {W:World} {rb sb:Nat} {s:List UInt8} {bad:Bool} (h:Sn W rb sb s bad):fD W rb=s.length:=by
 unfold fD;rw[h.c1];simp[ByteArray.size]
theorem VC.aY {W:World} {P:Nat->Prop} {v:Wf.V} {cs:List Value} (h:VC W P v cs):∃ (q2 g2 n2 c2:Nat) (T2:ByteArray) (a2:Option Addr),cs=[.int .u8 q2,.string T2,.int .i64 g2,.slice a2 n2 c2]:=by
 obtain⟨a,c,h,_⟩:=h.form;exact⟨_,_,_,_,_,_,h⟩
theorem fK (q g n c:Nat) (T:ByteArray) (a:Option Addr):∀ u∈[Value.int .u8 q,Value.string T,Value.int .i64 g,Value.slice a n c],u.oneCell'=true:=by
 intro u hu;simp only[List.mem_cons,List.not_mem_nil,or_false] at hu;rcases hu with rfl|rfl|rfl|rfl <;> rfl
def Reads (x:Wf.Sc) (rb sb:Nat) (W:World) (n:Nat) (k:Wf.K):Prop:=∀ (s:List UInt8) (w:World),Below W.heap.size W w->Sn w rb sb s false->s.length<n->s.length<=400->Calls Tryz.prog 74 #[ptr rb,kV k] w fun e w'=>aP (Wf.parse x n k s) s rb sb w e w'
theorem iW:(Tryz.prog.info? 51).map (fun i=>(i.zero,i.size,i.bytes))=some (some (.agg #[.int .u8 0,tx [],.int .i64 0,.slice none 0 0]),4,56):=by kernel_rfl
theorem Sn.beside {W W':World} {rb sb b:Nat} {s:List UInt8} {bad:Bool} (h:Sn W rb sb s bad) (hb:aA b W W') (hn:rb≠b):Sn W' rb sb s bad :=
 ⟨zaC h.lt hb.size,(hb.cell (p:=⟨rb,0,none⟩) h.lt hn).trans h.c0,(hb.cell (p:=⟨rb,1,none⟩) h.lt hn).trans h.c1,(hb.cell (p:=⟨rb,2,none⟩) h.lt hn).trans h.c2,(hb.frozen (p:=⟨rb,1,none⟩) h.lt hn).trans h.f1,(hb.frozen (p:=⟨rb,2,none⟩) h.lt hn).trans h.f2⟩
theorem aA.on {rb b:Nat} {w w3 w4:World} (h:aA rb w w3) (hb:aA b w3 w4) (hn:w.heap.size<=b):aA rb w w4 :=
 ⟨hb.os.trans h.os,hb.tape.trans h.tape,hb.output.trans h.output,zaI h.size hb.size,fun k hk hr=>(hb.block k (zaC hk h.size) (by omega)).trans (h.block k hk hr)⟩
theorem lM (w:World) (rb:Nat) (SG BS NM:ByteArray) (q:Nat) (W1:World) (hW1:((w.alloc (.cells #[.string SG,.string BS,.string NM] 48)).alloc (.cells #[.int .u8 0,.string ⟨#[]⟩,.int .i64 0,.slice none 0 0] 51)).alloc (.cells #[.int .u8 q,.string ⟨#[]⟩,.int .i64 0,.slice none 0 0] 51)=W1) :
  Fix w W1 SG BS NM/\Bld w W1 rb (w.heap.size+1+1) (w.heap.size+1+1+1) q none 0 [] []/\Below w.heap.size w W1:=by
 have hB:Below w.heap.size w W1:=by
  rw[<-hW1];exact((((zaB).alloc (zaA) _).alloc (by simp) _).alloc (by simp;omega) _)
 subst hW1;refine⟨⟨?_,?_,?_,?_,?_,?_,?_,?_,?_,?_,?_,?_⟩,⟨aA.aF hB (zaA),?_,?_,?_,?_,?_,?_,?_,?_,World.ownsRow_nil _ _ _ _,?_,rfl,?_⟩,hB⟩;all_goals first|(simp[go_sem];done)|(simp[go_sem];omega)|omega|(intro e he;simp at he)|(intro i h1;simp at h1)
section
variable (x:Wf.Sc) (rb sb:Nat) (W:World) (n:Nat) (k:Wf.K) (s:List UInt8) (w:World)
theorem nO (H:Sn w rb sb s false) (h:s.head? ≠ some 91):Calls Tryz.prog 111 #[ptr rb,kV k] w fun e w'=>aP (Wf.parse x (n+1) (.list k) s) s rb sb w e w':=by
 have HP:=hid (Wf.rW x n k h);have hrb:=H.lt;have HH:=hid H;have HN:=hid fun hp=>h ((pre1 91 s).1 hp);obtain⟨SG,hSG⟩:∃ SG:ByteArray,(⟨k.signs.toArray⟩:ByteArray)=SG:=⟨_,rfl⟩;obtain⟨BS,hBS⟩:∃ BS:ByteArray,(⟨k.base.toArray⟩:ByteArray)=BS:=⟨_,rfl⟩;obtain⟨NM,hNM⟩:∃ NM:ByteArray,(⟨k.name.toArray⟩:ByteArray)=NM:=⟨_,rfl⟩;simp only[kV,tx,hSG,hBS,hNM];have ST:=hid fun W1 h=>lM w rb SG BS NM 91 W1 h;clear H h hSG hBS hNM;go_enter Tryz.func111,Tryz.ntmps111;go_wp2_with (first|(go_at_call 112;have _u:=hS1;refine(cR rb sb _ s [93] true hS1.out (.inl rfl)).mono ?_;rintro e w2 ⟨rfl,rfl⟩)|(go_at_call 113;obtain⟨fx0,bl0,b0⟩:=ST.out _ rfl;refine(bQ rb sb _ s [91] false (HH.out.below b0) (.inr HN.out)).mono ?_;rintro e w1 ⟨rfl,hs1,hb1⟩;have FX:=hid (fx0.step hrb hb1);have BL:=hid (bl0.step hrb hb1);have hS1:=hid hs1;have hB1:=hid ((aA.aF b0 (zaA)).trans hb1);have hb2:=hs1.c2;have hbl:=hs1.lt;clear fx0 bl0 b0 hs1 hb1))
 go_loopw [12] (fun s12 wr=>wr=w1) (fun _ _=>0)
 case atStart=>rfl
 case round =>
  subst hrel;have v0:=BL.out.v0;have v1:=BL.out.v1;have v2:=BL.out.v2;have v3:=BL.out.v3;obtain⟨fs,fk0,fk1,fk2,fr0,fr1,fr2,fr3,ff0,ff1,ff2,ff3⟩:=FX.out;go_wp2_with (go_at_call 113;refine(bQ rb sb _ s [93] true hS1.out (.inl rfl)).mono ?_;rintro e w3 ⟨rfl,hs3,hb3⟩;have hS3:=hid hs3;have hB3:=hid (hB1.out.trans hb3);have FX3:=hid (FX.out.step hrb hb3);have BL3:=hid (BL.out.step hrb hb3);clear hs3 hb3;have v0:=BL3.out.v0;have v1:=BL3.out.v1;have v2:=BL3.out.v2;have v3:=BL3.out.v3;obtain⟨fs,fk0,fk1,fk2,fr0,fr1,fr2,fr3,ff0,ff1,ff2,ff3⟩:=FX3.out;have hvl:w.heap.size+1+1<w3.heap.size:=(by have:=BL3.out.sz;omega))
  exact zbD (v:=.agg #[.int .u8 91,.string ⟨#[]⟩,.int .i64 0,.slice none 0 0]) (by simp[results,Tryz.results111,go_sem, *]) rfl (by
   have hB4:∀ W4,aA (w.heap.size+1) w3 W4->aP (Wf.parse x (n+1) (.list k) s) s rb sb w (.returned (.agg #[.int .u8 91,.string ⟨#[]⟩,.int .i64 0,.slice none 0 0])) W4:=fun W4 hb=>by
    refine⟨_,.mk 91 [] 0 [],s,rfl,VC.leaf 91 [] 0 (by omega) (by decide),hB3.out.on hb (by omega),.inr ⟨HP.out,Wf.lJ (.inl rfl) (zaA),hS3.out.beside hb (by omega)⟩⟩
   refine hB4 _ ?_;repeat (first|with_reducible exact aA.refl _ _|with_reducible refine aA.drew ?_|with_reducible refine aA.trans ?_ (aA.set _ _ _ _)))
theorem vO (q:List UInt8) (H:Sn w rb sb (91::93::q) false):Calls Tryz.prog 111 #[ptr rb,kV k] w fun e w'=>aP (Wf.parse x (n+1) (.list k) (91::93::q)) (91::93::q) rb sb w e w':=by
 have HP:=hid (Wf.qQ x n k q);have hrb:=H.lt;have HH:=hid H;obtain⟨SG,hSG⟩:∃ SG:ByteArray,(⟨k.signs.toArray⟩:ByteArray)=SG:=⟨_,rfl⟩;obtain⟨BS,hBS⟩:∃ BS:ByteArray,(⟨k.base.toArray⟩:ByteArray)=BS:=⟨_,rfl⟩;obtain⟨NM,hNM⟩:∃ NM:ByteArray,(⟨k.name.toArray⟩:ByteArray)=NM:=⟨_,rfl⟩;have HKV:=hid (show kV k=.agg #[.string SG,.string BS,.string NM] by simp only[kV,tx,hSG,hBS,hNM]);simp only[kV,tx,hSG,hBS,hNM];have ST:=hid fun W1 h=>lM w rb SG BS NM 91 W1 h;clear H hSG hBS hNM;go_enter Tryz.func111,Tryz.ntmps111;go_wp2_with (first|(go_at_call 112;have _u:=hS1;refine(eY rb sb _ [93] q hS1.out).mono ?_;rintro e w2 ⟨rfl,hs2,hb2⟩;have hS2:=hid hs2;have hB2:=hid (hB1.out.trans hb2);have FX2:=hid (FX.out.step hrb hb2);have BL2:=hid (BL.out.step hrb hb2);clear hs2 hb2;have v0:=BL2.out.v0;have v1:=BL2.out.v1;have v2:=BL2.out.v2;have v3:=BL2.out.v3;obtain⟨fs,fk0,fk1,fk2,fr0,fr1,fr2,fr3,ff0,ff1,ff2,ff3⟩:=FX2.out;have hvl:w.heap.size+1+1<w2.heap.size:=(by have:=BL2.out.sz;omega))|(go_at_call 113;obtain⟨fx0,bl0,b0⟩:=ST.out _ rfl;refine(bS rb sb _ [91] (93::q) (HH.out.below b0)).mono ?_;rintro e w1 ⟨rfl,hs1,hb1⟩;have FX:=hid (fx0.step hrb hb1);have BL:=hid (bl0.step hrb hb1);have hS1:=hid hs1;have hB1:=hid ((aA.aF b0 (zaA)).trans hb1);have hb2:=hs1.c2;have hbl:=hs1.lt;clear fx0 bl0 b0 hs1 hb1))
 exact zbD (v:=.agg #[.int .u8 91,.string ⟨#[]⟩,.int .i64 0,.slice none 0 0]) (by simp[results,Tryz.results111,go_sem, *]) rfl (by
  have hB4:∀ W4,aA (w.heap.size+1) w2 W4->aP (Wf.parse x (n+1) (.list k) (91::93::q)) (91::93::q) rb sb w (.returned (.agg #[.int .u8 91,.string ⟨#[]⟩,.int .i64 0,.slice none 0 0])) W4:=fun W4 hb=>by
   refine⟨_,.mk 91 [] 0 [],q,rfl,VC.leaf 91 [] 0 (by omega) (by decide),hB2.out.on hb (by omega),.inl ⟨HP.out,hS2.out.beside hb (by omega)⟩⟩
  refine hB4 _ ?_;repeat (first|with_reducible exact aA.refl _ _|with_reducible refine aA.drew ?_|with_reducible refine aA.trans ?_ (aA.set _ _ _ _)))
structure Lst (x:Wf.Sc) (n:Nat) (k:Wf.K) (rb sb:Nat) (w wr:World) (SG BS NM:ByteArray) (r cur:List UInt8) (bad:Bool) (a:Option Addr) (c:Nat) (l:List Wf.V) (es:List (List Value)):Prop where
 fix:Fix w wr SG BS NM
 bld:Bld w wr rb (w.heap.size+1+1) (w.heap.size+1+1+1) 91 a c l es
 sn:Sn wr rb sb cur bad
theorem Bld.out {w wr:World} {rb vb base q:Nat} {a:Option Addr} {c:Nat} {l:List Wf.V} {es:List (List Value)} {W4:World} {rs m:Nat} (h:Bld w wr rb vb base q a c l es) (hb:aA rs wr W4) (hrs:w.heap.size<=rs) (hrl:rs<base) (hm:es.length=m) (what:UInt8) (text:List UInt8) (tag:Nat) (hsh:gL what tag l):VC W4 (fun b=>w.heap.size<=b) (.mk what text tag l) [.int .u8 what.toNat,tx text,.int .i64 tag,.slice a m c]/\aA rb w W4:=by
 subst hm;obtain⟨b,hb1,hrow⟩:=RowK.cO h.own h.he;have h1:=h.vw;have h2:=h.vlt;refine⟨?_,h.fr.on hb hrs⟩;exact VC.keep (P:=fun b=>base<=b) (fun b hp hlt=>⟨by omega,hb.block b hlt (by omega)⟩) hb.size _ _ (VC.row what text tag hsh hrow (.inr hb1) h.hl fun i g1 g2=>(h.vals i g1 g2).mono fun b hp _=>hp.1)
theorem Lst.put {x:Wf.Sc} {n:Nat} {k:Wf.K} {rb sb:Nat} {w wr:World} {SG BS NM:ByteArray} {r cur:List UInt8} {bad0:Bool} {a:Option Addr} {c:Nat} {l:List Wf.V} {es:List (List Value)} {m:Nat} (h:Lst x n k rb sb w wr SG BS NM r cur bad0 a c l es) (hrb:rb<w.heap.size) {w2:World} (hb:aA rb wr w2) (hm:es.length=m) {q2 g2 n2 c2:Nat} {T2:ByteArray} {a2:Option Addr} {v:Wf.V}
  (hvc:VC w2 (fun b=>wr.heap.size<=b) v [.int .u8 q2,.string T2,.int .i64 g2,.slice a2 n2 c2]) {w4:World} {g cap:Nat}
  (hg:(w2.alloc (.cells #[.int .u8 q2,.string T2,.int .i64 g2,.slice a2 n2 c2] 51)).grownBy w4 (Value.slice a m c).ownBlock)
  (ho:w4.ownsRow (w.heap.size+1+1+1) 51 4 (.slice (some ⟨g,0,none⟩) (m+1) cap) (m+1) (es.flatten++[.int .u8 q2,.string T2,.int .i64 g2,.slice a2 n2 c2]))
  (hat:(Value.slice a m c).ownBlock=some g\/g=(w2.alloc (.cells #[.int .u8 q2,.string T2,.int .i64 g2,.slice a2 n2 c2] 51)).heap.size)
  {r2:List UInt8} {bad:Bool} (hs:Sn w2 rb sb r2 bad) :
  Lst x n k rb sb w (w4.setCell ⟨w.heap.size+1+1,3,none⟩ (.slice (some ⟨g,0,none⟩) (m+1) cap)) SG BS NM r r2 bad (some ⟨g,0,none⟩) cap (l++[v]) (es++[[.int .u8 q2,.string T2,.int .i64 g2,.slice a2 n2 c2]]):=by
 subst hm;obtain⟨WX,hWX⟩:∃ WX,w2.alloc (.cells #[.int .u8 q2,.string T2,.int .i64 g2,.slice a2 n2 c2] 51)=WX:=⟨_,rfl⟩;rw[hWX] at hg hat;have hX:Below w2.heap.size w2 WX:=by rw[<-hWX];exact(zaB).alloc (zaA) _
 have hXb:aA rb wr WX:=hb.trans (aA.aF hX (zaA));have hs0:=(h.bld.step hrb hXb).sz;have hlo:=aU h.bld.own;have hB:Below (w.heap.size+1+1+1) WX w4:=aW hg (fun g hgk=>(hlo g hgk).1) hs0;have hS:Below (w.heap.size+1+1) w4 (w4.setCell ⟨w.heap.size+1+1,3,none⟩ (.slice (some ⟨g,0,none⟩) (es.length+1) cap)):=zbF (Below.refl _ w4) (p:=⟨w.heap.size+1+1,3,none⟩) (zaA) _;refine⟨((h.fix.step hrb hXb).low (by omega) hB).low (zaA) hS,h.bld.put hrb hXb hg (hvc.below hX) ho ?_,((hs.below hX).cQ hB (by omega)).cQ hS (by omega)⟩;rcases hat with hat|hat
 ·exact .inl hat.symm
 ·exact .inr (by rw[<-hat];rfl)
theorem oI (r:List UInt8) (hr:r.head? ≠ some 93) (hW:Below W.heap.size W w) (hWr:W.heap.size<=rb) (IH:Reads x rb sb W n k) (hn:r.length<n) (h400:r.length<=400) (H:Sn w rb sb (91::r) false):Calls Tryz.prog 111 #[ptr rb,kV k] w fun e w'=>aP (Wf.parse x (n+1) (.list k) (91::r)) (91::r) rb sb w e w':=by
 have HP:=hid (Wf.pU x n k hr);have HN:=hid fun hp=>hr ((pre1 93 r).1 hp);have HW:=hid hW;have hrb:=H.lt;have HH:=hid H;obtain⟨SG,hSG⟩:∃ SG:ByteArray,(⟨k.signs.toArray⟩:ByteArray)=SG:=⟨_,rfl⟩;obtain⟨BS,hBS⟩:∃ BS:ByteArray,(⟨k.base.toArray⟩:ByteArray)=BS:=⟨_,rfl⟩;obtain⟨NM,hNM⟩:∃ NM:ByteArray,(⟨k.name.toArray⟩:ByteArray)=NM:=⟨_,rfl⟩;have HKV:=hid (show kV k=.agg #[.string SG,.string BS,.string NM] by simp only[kV,tx,hSG,hBS,hNM]);simp only[kV,tx,hSG,hBS,hNM];have ST:=hid fun W1 h=>lM w rb SG BS NM 91 W1 h;have hIH2:∀ (s:List UInt8) (w:World),Below W.heap.size W w->Sn w rb sb s false->s.length<n->s.length<=400->Calls Tryz.prog 74 #[ptr rb,.agg #[.string SG,.string BS,.string NM]] w fun e w'=>aP (Wf.parse x n k s) s rb sb w e w':=by rw[<-HKV.out];exact IH
 have HIH2:=hid hIH2;clear H hSG hBS hNM IH hr hW hIH2;go_enter Tryz.func111,Tryz.ntmps111;go_wp2_with (first|(go_at_call 112;have _u:=hS1;refine(cR rb sb _ r [93] false hS1.out (.inr HN.out)).mono ?_;rintro e w2 ⟨rfl,rfl⟩)|(go_at_call 113;obtain⟨fx0,bl0,b0⟩:=ST.out _ rfl;refine(bS rb sb _ [91] r (HH.out.below b0)).mono ?_;rintro e w1 ⟨rfl,hs1,hb1⟩;have FX:=hid (fx0.step hrb hb1);have BL:=hid (bl0.step hrb hb1);have hS1:=hid hs1;have hB1:=hid ((aA.aF b0 (zaA)).trans hb1);have hb2:=hs1.c2;have hbl:=hs1.lt;clear fx0 bl0 b0 hs1 hb1))
 go_loopw [12] (fun s12 wr=>∃ (cur:List UInt8) (a:Option Addr) (c:Nat) (l:List Wf.V) (es:List (List Value)),Hid (Lst x n k rb sb w wr SG BS NM r cur false a c l es/\Wf.pl l+cur.length=r.length/\Wf.itemsL (Wf.parse x n k) [] r=Wf.itemsL (Wf.parse x n k) l cur)) (fun _ wr=>fD wr rb)
 case atStart=>exact⟨r,none,0,[],[],hid ⟨⟨FX.out,BL.out,hS1.out⟩,by rw[Wf.iF,Nat.zero_add],rfl⟩⟩
 case round =>
  obtain⟨cur,a,c,l,es,hh⟩:=hrel;have hl400:es.length<=400:=by
   have h1:=hh.out.1.bld.hl;have h2:=hh.out.2.1;unfold Wf.pl at h2;omega
  have hcn:cur.length<n:=by have:=hh.out.2.1;omega
  have hc400:cur.length<=400:=by have:=hh.out.2.1;omega
  obtain⟨m,hm⟩:∃ m,es.length=m:=⟨_,rfl⟩;have HM:=hid hm;have hv3:=hh.out.1.bld.v3;have hvf3:=hh.out.1.bld.f3;rw[hm] at hv3 hl400;have hs2:=hh.out.1.sn.c2;obtain⟨fs,fk0,fk1,fk2,fr0,fr1,fr2,fr3,ff0,ff1,ff2,ff3⟩:=hh.out.1.fix;have hbw:w.heap.size+1+1<wr.heap.size:=by have:=hh.out.1.bld.sz;omega
  have hrw:rb<wr.heap.size:=hh.out.1.sn.lt;clear hm;go_upto_region 6 with fail
  go_cut [] from 12 to 27 (fun wx=>∃ (cur2:List UInt8) (bad2:Bool) (a2:Option Addr) (c2:Nat) (v:Wf.V) (es2:List (List Value)),Hid (Lst x n k rb sb w wx SG BS NM r cur2 bad2 a2 c2 (l++[v]) es2/\((bad2=false/\Wf.parse x n k cur=some (v,cur2))\/(bad2=true/\Wf.parse x n k cur=none/\Wf.Badv cur cur2 v))))
  case first =>
   have HOWN:=hid (show wr.ownsRow (w.heap.size+1+1+1) 51 4 (.slice a m c) m es.flatten by have h:=hh.out.1.bld.own;rw[HM.out] at h;exact h);have BW:=hid (aA.below HW.out HW.out.size hWr hh.out.1.bld.fr);obtain⟨i0,hi0,hz0,hz1,hz2⟩:=info_parts iW;have HI0:=hid hi0;have HZ0:=hid hz0;have HZ1:=hid hz1;have HZ2:=hid hz2;clear hi0 hz0 hz1 hz2;have hrb2:rb<w.heap.size+1+1+1:=(by omega);have hvn:w.heap.size+1+1≠rb:=(by omega);go_region_law (first|(refine step_append_lies _ rfl (.tmp 18) (.tmp 22) 49 rfl (w.heap.size+1+1+1) 51 i0 (.agg #[.int .u8 0,tx [],.int .i64 0,.slice none 0 0]) 4 56 Tryz.underlying49 HI0.out HZ0.out HZ1.out HZ2.out rfl (by decide) (.slice a m c) m _ (by simp[Act.eval,Act.put]) ((dQ HOWN.out HB2.out hrb2).alloc _) ⟨w2.heap.size,0,none⟩ 1 1 [.int .u8 q2,.string T2,.int .i64 g2,.slice a2 n2 c2] (by simp[Act.eval,Act.put]) rfl (World.news_of_block (MapKept.heap_alloc w2 (.cells #[.int .u8 q2,.string T2,.int .i64 g2,.slice a2 n2 c2] 51)).1) (fK _ _ _ _ _ _) (by decide) (by unfold maxLen;omega) (by omega) (by simp;omega) _ rfl ?_;intro g cap w4 hown4 hgrow4 hat4 hlt4;have B4:=hid (aW (base:=w.heap.size+1+1+1) hgrow4 (fun g hg=>(aU HOWN.out g hg).1) (by simp;omega));have z3:w4.cell? ⟨w.heap.size+1+1,3,none⟩=some (.slice a m c):=((B4.out.cell (p:=⟨w.heap.size+1+1,3,none⟩) (zaH _)).trans ((zbB w2 _ ⟨w.heap.size+1+1,3,none⟩ hvw2).trans y3));have zf:w4.frozen? ⟨w.heap.size+1+1,3,none⟩=false:=((B4.out.frozen (p:=⟨w.heap.size+1+1,3,none⟩) (zaH _)).trans ((((Below.refl w2.heap.size w2).alloc (zaA) _).frozen (p:=⟨w.heap.size+1+1,3,none⟩) hvw2).trans yf));have HOWN4:=hid hown4;have HG4:=hid hgrow4;have HAT4:=hid hat4;clear hown4 hgrow4 hat4)|((try go_simp);go_at_call 74;refine(HIH2.out cur wr.drew (BW.out.trans ⟨rfl,rfl,rfl,zaA,fun _ _=>rfl⟩) (hh.out.1.sn.drewN 1) hcn hc400).mono ?_;rintro e w2 ⟨cs,v,r2,rfl,hvc,hbs,ho⟩;obtain⟨q2,g2,n2,c2,T2,a2,rfl⟩:=hvc.aY;have HVC:=hid hvc;have HO:=hid ho;have HB2:=hid ((aA.drew (aA.refl rb wr)).trans hbs);have y3:=(HB2.out.cell (p:=⟨w.heap.size+1+1,3,none⟩) hbw hvn).trans hv3;have yf:=(HB2.out.frozen (p:=⟨w.heap.size+1+1,3,none⟩) hbw hvn).trans hvf3;have hvw2:=zaC hbw HB2.out.size;clear hvc ho hbs))
   all_goals (go_wp2_with fail;go_meet)
   all_goals (rcases HO.out with⟨hp,hs⟩|⟨hp,hb,hs⟩)
   all_goals first|exact⟨r2,false,_,cap,v,_,hid ⟨Lst.put hh.out.1 hrb HB2.out HM.out HVC.out HG4.out HOWN4.out HAT4.out hs,.inl ⟨rfl,hp⟩⟩⟩|exact⟨r2,true,_,cap,v,_,hid ⟨Lst.put hh.out.1 hrb HB2.out HM.out HVC.out HG4.out HOWN4.out HAT4.out hs,.inr ⟨rfl,hp,hb⟩⟩⟩
  case rest =>
   clear hv3 hvf3 hs2 fs fk0 fk1 fk2 fr0 fr1 fr2 fr3 ff0 ff1 ff2 ff3 hbw hrw;obtain⟨cur2,bad2,a2,c2,v,es2,hh2⟩:=hcut;obtain⟨m2,hm2⟩:∃ m,es2.length=m:=⟨_,rfl⟩;have hm400:m2<=401:=by
    have h1:=hh2.out.1.bld.hl;have h2:=hh.out.1.bld.hl;have h3:=HM.out;simp at h1;omega
   have HM2:=hid hm2;have HS2:=hid hh2.out.1.sn;have HL2:=hid (show(l++[v]).length=m2 by rw[<-hh2.out.1.bld.hl,hm2]);have HST:=hid (Wf.itemsL_step (fun s v r h=>Wf.dN (v:=v) (r:=r) h) l cur (p:=Wf.parse x n k));clear hm2;have hcase:(∃ p,bad2=false/\cur2=44::p)\/Hid (bad2=true\/¬ [44] <+: cur2):=by
    cases bad2 with
    | true=>exact .inr (hid (.inl rfl))
    | false =>
     by_cases h4:[44] <+: cur2
     ·obtain⟨p,hp⟩:=h4;exact .inl ⟨p,rfl,hp.symm⟩
     ·exact .inr (hid (.inr h4))
   rcases hcase with⟨p,rfl,rfl⟩|HC
   ·have hp:Wf.parse x n k cur=some (v,44::p):=by
     rcases hh2.out.2 with⟨_,hp⟩|⟨hb,_⟩
     ·exact hp
     ·cases hb
    have hsay:=(Wf.dW n k cur v _ hp).2;have hlen:cur.length=v.print.length+(p.length+1):=(by rw[hsay];simp);have HE:=hid (show Wf.pl (l++[v])+p.length=r.length/\Wf.itemsL (Wf.parse x n k) [] r=Wf.itemsL (Wf.parse x n k) (l++[v]) p by
     refine⟨?_,?_⟩
     ·rw[Wf.gF];have:=hh.out.2.1;omega
     ·rw[hh.out.2.2,HST.out,hp];rfl)
    clear hp hsay;go_wp2_with (go_at_call 112;refine(eY rb sb _ [44] p HS2.out).mono ?_;rintro e w3 ⟨rfl,hs3,hb3⟩;have HS3:=hid hs3;have HB3:=hid hb3;clear hs3 hb3)
    go_roundw
    case rel=>exact⟨p,a2,c2,l++[v],es2,hid ⟨⟨hh2.out.1.fix.step hrb HB3.out,hh2.out.1.bld.step hrb HB3.out,HS3.out⟩,HE.out⟩⟩
    case measure =>
     rw[HS3.out.size,hh.out.1.sn.size];omega
   ·have hcase2:(∃ p,bad2=false/\cur2=93::p)\/Hid (bad2=true\/¬ [93] <+: cur2):=by
     cases bad2 with
     | true=>exact .inr (hid (.inl rfl))
     | false =>
      by_cases h4:[93] <+: cur2
      ·obtain⟨p,hp⟩:=h4;exact .inl ⟨p,rfl,hp.symm⟩
      ·exact .inr (hid (.inr h4))
    have HSAY:=hid fun(hb:bad2=false) (q:List UInt8) (hq:q.length<=cur2.length)=>(show Wf.Badv (91::r) q (.mk 91 [] 0 (l++[v])) by
     rcases hh2.out.2 with⟨_,hp⟩|⟨hb2,_⟩
     ·have hlen:=congrArg List.length (Wf.dW n k cur v _ hp).2
      rw[zaD] at hlen;have h1:=hh.out.2.1;exact Wf.mD (.inl rfl) (s0:=r) rfl (by simp) (by rw[Wf.gF];omega)
     ·rw[hb] at hb2;cases hb2)
    rcases hcase2 with⟨p,rfl,rfl⟩|HC2
    ·have HRES:=hid (show Wf.parse x (n+1) (.list k) (91::r)=if m2<=20 then some (.mk 91 [] 0 (l++[v]),p) else none by
      have hp:Wf.parse x n k cur=some (v,93::p):=by
       rcases hh2.out.2 with⟨_,hp⟩|⟨hb,_⟩
       ·exact hp
       ·cases hb
      have hl:l.length+1=m2:=(by have:=HL2.out;simpa using this);rw[HP.out,hh.out.2.2,HST.out,hp];dsimp only;rw[hl];by_cases h20:m2<=20
      ·simp[h20]
      ·simp[h20])
     have HBAD:=hid (HSAY.out rfl p (by simp));go_wp2_with (first|(go_at_call 113;refine(bS rb sb _ [93] p HS2.out).mono ?_;rintro e w3 ⟨rfl,hs3,hb3⟩;have HS3:=hid hs3;have HB3:=hid hb3;have FX3:=hid (hh2.out.1.fix.step hrb hb3);have BL3:=hid (hh2.out.1.bld.step hrb hb3);have hs3c:=hs3.c2;have hs3f:=hs3.f2;have hs3l:=hs3.lt;clear hs3 hb3;have v0:=BL3.out.v0;have v1:=BL3.out.v1;have v2:=BL3.out.v2;have v3:=BL3.out.v3;rw[HM2.out] at v3;obtain⟨fs,fk0,fk1,fk2,fr0,fr1,fr2,fr3,ff0,ff1,ff2,ff3⟩:=FX3.out;have hvl:w.heap.size+1+1<w3.heap.size:=(by have:=BL3.out.sz;omega))|(go_at_call 112;refine(cR rb sb _ (93::p) [44] false HS2.out HC.out).mono ?_;rintro e w2 ⟨rfl,rfl⟩))
     all_goals exact zbD (v:=.agg #[.int .u8 91,.string ⟨#[]⟩,.int .i64 0,.slice a2 m2 c2]) (by simp[results,Tryz.results111,go_sem, *]) rfl (by
      have hR:∀ wx W4 bad3,Bld w wx rb (w.heap.size+1+1) (w.heap.size+1+1+1) 91 a2 c2 (l++[v]) es2->Sn wx rb sb p bad3->(bad3=false/\m2<=20\/bad3=true/\¬ m2<=20)->aA (w.heap.size+1) wx W4->aP (Wf.parse x (n+1) (.list k) (91::r)) (91::r) rb sb w (.returned (.agg #[.int .u8 91,.string ⟨#[]⟩,.int .i64 0,.slice a2 m2 c2])) W4:=fun wx W4 bad3 bl sn hm hb=>by
       obtain⟨hv,hf⟩:=bl.out hb (by omega) (by omega) HM2.out 91 [] 0 ⟨by omega,fun _=>.inl rfl,fun h=>absurd h (by decide)⟩;have sn4:=sn.beside hb (by omega);refine⟨_,.mk 91 [] 0 (l++[v]),p,rfl,hv,hf,?_⟩;rcases hm with⟨rfl,h20⟩|⟨rfl,h20⟩
       ·exact .inl ⟨by rw[HRES.out,if_pos h20],sn4⟩
       ·exact .inr ⟨by rw[HRES.out,if_neg h20],HBAD.out,sn4⟩
      first
      | (refine hR w3 _ false BL3.out HS3.out (.inl ⟨rfl,by omega⟩) ?_;(repeat (first|with_reducible exact aA.refl _ _|with_reducible refine aA.drew ?_|with_reducible refine aA.trans ?_ (aA.set _ _ _ _)));done)
      | (refine hR (w3.setCell ⟨rb,2,none⟩ (.bool true)) _ true (BL3.out.step hrb (aA.set _ _ _ _)) HS3.out.fail (.inr ⟨rfl,by omega⟩) ?_;(repeat (first|with_reducible exact aA.refl _ _|with_reducible refine aA.drew ?_|with_reducible refine aA.trans ?_ (aA.set _ _ _ _)));done))
    ·have HRES:=hid (show Wf.parse x (n+1) (.list k) (91::r)=none/\Wf.Badv (91::r) cur2 (.mk 91 [] 0 (l++[v])) by
      rcases hh2.out.2 with⟨hb,hp⟩|⟨hb,hp,hbv⟩
      ·have h44:¬ [44] <+: cur2:=by
        rcases HC.out with h|h
        ·rw[hb] at h;cases h
        ·exact h
       have h93:¬ [93] <+: cur2:=by
        rcases HC2.out with h|h
        ·rw[hb] at h;cases h
        ·exact h
       refine⟨?_,HSAY.out hb cur2 (zaA)⟩;rw[HP.out,hh.out.2.2,HST.out,hp];dsimp only;split
       ·exact absurd ⟨_,rfl⟩ h44
       ·exact absurd ⟨_,rfl⟩ h93
       ·rfl
      ·exact⟨by rw[HP.out,hh.out.2.2,HST.out,hp];rfl,Wf.nL (.inl rfl) (s0:=r) (s1:=cur) rfl hh.out.2.1 hbv⟩)
     go_wp2_with (first|(go_at_call 113;refine(bQ rb sb _ cur2 [93] bad2 HS2.out HC2.out).mono ?_;rintro e w3 ⟨rfl,hs3,hb3⟩;have HS3:=hid hs3;have HB3:=hid hb3;have FX3:=hid (hh2.out.1.fix.step hrb hb3);have BL3:=hid (hh2.out.1.bld.step hrb hb3);have hs3c:=hs3.c2;have hs3f:=hs3.f2;have hs3l:=hs3.lt;clear hs3 hb3;have v0:=BL3.out.v0;have v1:=BL3.out.v1;have v2:=BL3.out.v2;have v3:=BL3.out.v3;rw[HM2.out] at v3;obtain⟨fs,fk0,fk1,fk2,fr0,fr1,fr2,fr3,ff0,ff1,ff2,ff3⟩:=FX3.out;have hvl:w.heap.size+1+1<w3.heap.size:=(by have:=BL3.out.sz;omega))|(go_at_call 112;refine(cR rb sb _ cur2 [44] bad2 HS2.out HC.out).mono ?_;rintro e w2 ⟨rfl,rfl⟩))
     all_goals exact zbD (v:=.agg #[.int .u8 91,.string ⟨#[]⟩,.int .i64 0,.slice a2 m2 c2]) (by simp[results,Tryz.results111,go_sem, *]) rfl (by
      have hR:∀ wx W4,Bld w wx rb (w.heap.size+1+1) (w.heap.size+1+1+1) 91 a2 c2 (l++[v]) es2->Sn wx rb sb cur2 true->aA (w.heap.size+1) wx W4->aP (Wf.parse x (n+1) (.list k) (91::r)) (91::r) rb sb w (.returned (.agg #[.int .u8 91,.string ⟨#[]⟩,.int .i64 0,.slice a2 m2 c2])) W4:=fun wx W4 bl sn hb=>by
       obtain⟨hv,hf⟩:=bl.out hb (by omega) (by omega) HM2.out 91 [] 0 ⟨by omega,fun _=>.inl rfl,fun h=>absurd h (by decide)⟩;exact⟨_,.mk 91 [] 0 (l++[v]),cur2,rfl,hv,hf,.inr ⟨HRES.out.1,HRES.out.2,sn.beside hb (by omega)⟩⟩
      first
      | (refine hR w3 _ BL3.out HS3.out ?_;(repeat (first|with_reducible exact aA.refl _ _|with_reducible refine aA.drew ?_|with_reducible refine aA.trans ?_ (aA.set _ _ _ _)));done)
      | (refine hR (w3.setCell ⟨rb,2,none⟩ (.bool true)) _ (BL3.out.step hrb (aA.set _ _ _ _)) HS3.out.fail ?_;(repeat (first|with_reducible exact aA.refl _ _|with_reducible refine aA.drew ?_|with_reducible refine aA.trans ?_ (aA.set _ _ _ _)));done))
theorem zT (hW:Below W.heap.size W w) (hWr:W.heap.size<=rb) (IH:Reads x rb sb W n k) (hn:s.length<n+1) (h400:s.length<=400) (H:Sn w rb sb s false):Calls Tryz.prog 111 #[ptr rb,kV k] w fun e w'=>aP (Wf.parse x (n+1) (.list k) s) s rb sb w e w':=by
 cases s with
 | nil=>exact nO x rb sb n k [] w H (by simp)
 | cons a r =>
  by_cases ha:a=91
  ·subst ha
   cases r with
   | nil=>exact oI x rb sb W n k w [] (by simp) hW hWr IH (by simpa using hn) (by simp) H
   | cons b q =>
    by_cases hb:b=93
    ·subst hb;exact vO x rb sb n k w q H
    ·exact oI x rb sb W n k w (b::q) (by simpa using hb) hW hWr IH (by simp at hn ⊢;omega) (by simp at h400 ⊢;omega) H
  ·exact nO x rb sb n k (a::r) w H (by simpa using ha)
end

def cT (l kt:List UInt8) (lo:Nat) (e:Ending) (w':World):Prop:=match aV l kt with
 | some y=>∃ sb,e=.returned (.tuple #[ptr sb,kV y.2,.bool true])/\ScL w' lo sb y.1
 | none=>∃ p a b c,e=.returned (.tuple #[.pointer p,.agg #[.string a,.string b,.string c],.bool false])
theorem cH.no {l:List UInt8} {lo:Nat} {e:Ending} {w':World} (h:cH l lo e w') (hl:Wf.schemaOf l=none):∃ p,e=.returned (.tuple #[.pointer p,.bool false]):=by
 unfold cH at h;rw[hl] at h;exact h
theorem cH.yes {l:List UInt8} {lo:Nat} {e:Ending} {w':World} {x:Wf.Sc} (h:cH l lo e w') (hl:Wf.schemaOf l=some x):∃ sb,e=.returned (.tuple #[ptr sb,.bool true])/\ScL w' lo sb x:=by
 unfold cH at h;rw[hl] at h;exact h
theorem ScL.xD {w w':World} {lo sb rb:Nat} {x:Wf.Sc} (h:ScL w lo sb x) (hr:rb<lo) (hb:aA rb w w'):ScL w' lo sb x:=h.keep hb.size fun y h1 h2=>hb.block y h2 (by omega)
theorem zP (s kt:ByteArray) (m:Int) (w:World) (hm:ML m w) (hs:s.size<=1048576) (hsc:Wf.schemaOf s.data.toList=none):Calls Tryz.prog 31 #[.string s,.string kt] w fun e w'=>(∃ p,e=.returned (.tuple #[.pointer p,.agg #[tx [],tx [],tx []],.bool false]))/\Below w.heap.size w w':=by
 have HR:=hid fun o=>hJ s m (w.alloc o) (hm.below ((zaB).alloc (zaA) o)) hs;have HSC:=hid hsc;clear hm hsc;go_enter Tryz.func31,Tryz.ntmps31;go_wp2_with (go_at_call 44;refine(HR.out _).mono ?_;rintro e w2 ⟨ho,hb2⟩;obtain⟨p,rfl⟩:=ho.no HSC.out;have B2:=hid (((Below.refl w.heap.size w).alloc (zaA) (.cells #[tx [],tx [],tx []] 48)).trans (hb2.mono (by simp)));obtain⟨hc3,hc4⟩:=bcell hb2;have hz:w.heap.size<w2.heap.size:=(by have:=hb2.size;simp at this;omega);have e0:w2.cell? ⟨w.heap.size,0,none⟩=some (tx []):=(hb2.cell (p:=⟨w.heap.size,0,none⟩) (by simp)).trans (by simp);have e1:w2.cell? ⟨w.heap.size,1,none⟩=some (tx []):=(hb2.cell (p:=⟨w.heap.size,1,none⟩) (by simp)).trans (by simp);have e2:w2.cell? ⟨w.heap.size,2,none⟩=some (tx []):=(hb2.cell (p:=⟨w.heap.size,2,none⟩) (by simp)).trans (by simp);clear ho hb2)
 exact zbD (v:=.tuple #[.pointer none,.agg #[tx [],tx [],tx []],.bool false]) (by simp[results,Tryz.results31,go_sem,e0,e1,e2]) rfl ⟨⟨_,rfl⟩,by have B:=B2.out;repeat (first|with_reducible exact B|with_reducible refine zbE ?_|with_reducible refine zbF ?_ (by first|(simp;done)|(simp;omega)|omega) _|with_reducible refine zbG ?_ (by first|exact B.size|(simp;done)|(simp;omega)|omega) _)⟩
theorem yH (s kt:ByteArray) (m:Int) (w:World) (hm:ML m w) (hs:s.size<=1048576) (x:Wf.Sc) (hsc:Wf.schemaOf s.data.toList=some x) (hkt:kt.size<=1048576) (hk:Wf.aM kt.data.toList=none):Calls Tryz.prog 31 #[.string s,.string kt] w fun e w'=>(∃ p a b c,e=.returned (.tuple #[.pointer p,.agg #[.string a,.string b,.string c],.bool false]))/\Below w.heap.size w w':=by
 have HR:=hid fun o=>hJ s m (w.alloc o) (hm.below ((zaB).alloc (zaA) o)) hs;have HSC:=hid hsc;have HK:=hid fun wz=>pS kt hk wz (by omega);clear hm hsc;go_enter Tryz.func31,Tryz.ntmps31;go_wp2_with (first|(go_at_call 55;refine(HK.out _).mono ?_;rintro e w3 ⟨⟨ka,kb,kc,rfl⟩,hb3⟩;have HL3:=hid (HL2.out.below hb3);have HD3:=hid (HD2.out.trans (hb3.mono HD2.out.size));clear hb3)|(go_at_call 44;refine(HR.out _).mono ?_;rintro e w2 ⟨ho,hb2⟩;obtain⟨sb,rfl,hsl⟩:=ho.yes HSC.out;have HL2:=hid hsl;have HD2:=hid hb2;clear ho hb2 hsl))
 have hz3:w.heap.size<w3.heap.size:=by have:=HD3.out.size;simp at this;omega
 have B3:=hid (((Below.refl w.heap.size w).alloc (zaA) (.cells #[tx [],tx [],tx []] 48)).trans (HD3.out.mono (by simp)));have e0:w3.cell? ⟨w.heap.size,0,none⟩=some (tx []):=(HD3.out.cell (p:=⟨w.heap.size,0,none⟩) (by simp)).trans (by simp);have p0:w3.frozen? ⟨w.heap.size,0,none⟩=false:=(HD3.out.frozen (p:=⟨w.heap.size,0,none⟩) (by simp)).trans (by simp);have e1:w3.cell? ⟨w.heap.size,1,none⟩=some (tx []):=(HD3.out.cell (p:=⟨w.heap.size,1,none⟩) (by simp)).trans (by simp);have p1:w3.frozen? ⟨w.heap.size,1,none⟩=false:=(HD3.out.frozen (p:=⟨w.heap.size,1,none⟩) (by simp)).trans (by simp);have e2:w3.cell? ⟨w.heap.size,2,none⟩=some (tx []):=(HD3.out.cell (p:=⟨w.heap.size,2,none⟩) (by simp)).trans (by simp);have p2:w3.frozen? ⟨w.heap.size,2,none⟩=false:=(HD3.out.frozen (p:=⟨w.heap.size,2,none⟩) (by simp)).trans (by simp);have hne:¬ w3.heap.size=w.heap.size:=by omega
 have hne2:¬ w.heap.size=w3.heap.size:=by omega
 go_region
 all_goals go_wp2_with fail
 all_goals exact zbD (v:=.tuple #[ptr sb,.agg #[.string ka,.string kb,.string kc],.bool false]) (by simp[results,Tryz.results31,go_sem,e0,e1,e2,p0,p1,p2,hne,hne2,hz3]) rfl ⟨⟨_,_,_,_,rfl⟩,by have B:=B3.out;repeat (first|with_reducible exact B|with_reducible refine zbE ?_|with_reducible refine zbF ?_ (by first|(simp;done)|(simp;omega)|omega) _|with_reducible refine zbG ?_ (by first|exact B.size|(simp;done)|(simp;omega)|omega) _)⟩
theorem vV (s kt:ByteArray) (m:Int) (w:World) (hm:ML m w) (hs:s.size<=1048576) (x:Wf.Sc) (hsc:Wf.schemaOf s.data.toList=some x) (hkt:kt.size<=1048576) (k:Wf.K) (hk:Wf.aM kt.data.toList=some k):Calls Tryz.prog 31 #[.string s,.string kt] w fun e w'=>(∃ sb,e=.returned (.tuple #[ptr sb,kV k,.bool (Wf.aL x k)])/\ScL w' w.heap.size sb x)/\Below w.heap.size w w':=by
 have HR:=hid fun o=>hJ s m (w.alloc o) (hm.below ((zaB).alloc (zaA) o)) hs;have HSC:=hid hsc;have hK:=fun wz=>oT kt k hk wz (by omega);have hH:=fun lo sb W wz hW H=>has x lo sb k W wz hW H (by have:=fP k;have:=gR hk;omega);obtain⟨SG,hSG⟩:∃ SG:ByteArray,(⟨k.signs.toArray⟩:ByteArray)=SG:=⟨_,rfl⟩;obtain⟨BS,hBS⟩:∃ BS:ByteArray,(⟨k.base.toArray⟩:ByteArray)=BS:=⟨_,rfl⟩;obtain⟨NM,hNM⟩:∃ NM:ByteArray,(⟨k.name.toArray⟩:ByteArray)=NM:=⟨_,rfl⟩;simp only[kV,tx,hSG,hBS,hNM] at hK hH;have hkv:kV k=.agg #[.string SG,.string BS,.string NM]:=by simp only[kV,tx,hSG,hBS,hNM]
 rw[hkv];obtain⟨r,hr⟩:∃ r,Wf.aL x k=r:=⟨_,rfl⟩;rw[hr] at hH ⊢;have HK:=hid hK;have HH:=hid hH;clear hm hsc hK hH hSG hBS hNM hkv hr hk;go_enter Tryz.func31,Tryz.ntmps31;go_wp2_with (first|(go_at_call 55;refine(HK.out _).mono ?_;rintro e w3 ⟨rfl,hb3⟩;have HL3:=hid (HL2.out.below hb3);have HD3:=hid (HD2.out.trans (hb3.mono HD2.out.size));clear hb3)|(go_at_call 44;refine(HR.out _).mono ?_;rintro e w2 ⟨ho,hb2⟩;obtain⟨sb,rfl,hsl⟩:=ho.yes HSC.out;have HL2:=hid hsl;have HD2:=hid hb2;clear ho hb2 hsl))
 have hz3:w.heap.size<w3.heap.size:=by have:=HD3.out.size;simp at this;omega
 have B3:=hid (((Below.refl w.heap.size w).alloc (zaA) (.cells #[tx [],tx [],tx []] 48)).trans (HD3.out.mono (by simp)));have e0:w3.cell? ⟨w.heap.size,0,none⟩=some (tx []):=(HD3.out.cell (p:=⟨w.heap.size,0,none⟩) (by simp)).trans (by simp);have p0:w3.frozen? ⟨w.heap.size,0,none⟩=false:=(HD3.out.frozen (p:=⟨w.heap.size,0,none⟩) (by simp)).trans (by simp);have e1:w3.cell? ⟨w.heap.size,1,none⟩=some (tx []):=(HD3.out.cell (p:=⟨w.heap.size,1,none⟩) (by simp)).trans (by simp);have p1:w3.frozen? ⟨w.heap.size,1,none⟩=false:=(HD3.out.frozen (p:=⟨w.heap.size,1,none⟩) (by simp)).trans (by simp);have e2:w3.cell? ⟨w.heap.size,2,none⟩=some (tx []):=(HD3.out.cell (p:=⟨w.heap.size,2,none⟩) (by simp)).trans (by simp);have p2:w3.frozen? ⟨w.heap.size,2,none⟩=false:=(HD3.out.frozen (p:=⟨w.heap.size,2,none⟩) (by simp)).trans (by simp);have hne:¬ w3.heap.size=w.heap.size:=by omega
 have hne2:¬ w.heap.size=w3.heap.size:=by omega
 go_region_with (go_at_call 56;refine(HH.out _ _ w3 _ (by have B:=Below.refl w3.heap.size w3;repeat (first|with_reducible exact B|with_reducible refine zbE ?_|with_reducible refine zbF ?_ (by first|(simp;done)|(simp;omega)|omega) _|with_reducible refine zbG ?_ (by first|exact B.size|(simp;done)|(simp;omega)|omega) _)) HL3.out).mono ?_;rintro e w4 ⟨rfl,hb4⟩;have D4:=Lib.hid (show Below (w3.heap.size+1) (w3.alloc (.cells #[.string SG,.string BS,.string NM] 48)) w4 from Below.trans (zaB).drew (hb4.mono (by simp)));have z0:w4.cell? ⟨w.heap.size,0,none⟩=some (tx []):=(D4.out.cell (p:=⟨w.heap.size,0,none⟩) (by show w.heap.size<_;omega)).trans ((zbB w3 _ _ hz3).trans e0);have y0:w4.frozen? ⟨w.heap.size,0,none⟩=false:=(D4.out.frozen (p:=⟨w.heap.size,0,none⟩) (by show w.heap.size<_;omega)).trans ((((Below.refl w3.heap.size w3).alloc (zaA) _).frozen (p:=⟨w.heap.size,0,none⟩) hz3).trans p0);have z1:w4.cell? ⟨w.heap.size,1,none⟩=some (tx []):=(D4.out.cell (p:=⟨w.heap.size,1,none⟩) (by show w.heap.size<_;omega)).trans ((zbB w3 _ _ hz3).trans e1);have y1:w4.frozen? ⟨w.heap.size,1,none⟩=false:=(D4.out.frozen (p:=⟨w.heap.size,1,none⟩) (by show w.heap.size<_;omega)).trans ((((Below.refl w3.heap.size w3).alloc (zaA) _).frozen (p:=⟨w.heap.size,1,none⟩) hz3).trans p1);have z2:w4.cell? ⟨w.heap.size,2,none⟩=some (tx []):=(D4.out.cell (p:=⟨w.heap.size,2,none⟩) (by show w.heap.size<_;omega)).trans ((zbB w3 _ _ hz3).trans e2);have y2:w4.frozen? ⟨w.heap.size,2,none⟩=false:=(D4.out.frozen (p:=⟨w.heap.size,2,none⟩) (by show w.heap.size<_;omega)).trans ((((Below.refl w3.heap.size w3).alloc (zaA) _).frozen (p:=⟨w.heap.size,2,none⟩) hz3).trans p2);have v0:w4.cell? ⟨w3.heap.size,0,none⟩=some (.string SG):=(D4.out.cell (p:=⟨w3.heap.size,0,none⟩) (by show w3.heap.size<_;omega)).trans (by simp);have v1:w4.cell? ⟨w3.heap.size,1,none⟩=some (.string BS):=(D4.out.cell (p:=⟨w3.heap.size,1,none⟩) (by show w3.heap.size<_;omega)).trans (by simp);have v2:w4.cell? ⟨w3.heap.size,2,none⟩=some (.string NM):=(D4.out.cell (p:=⟨w3.heap.size,2,none⟩) (by show w3.heap.size<_;omega)).trans (by simp);clear hb4)
 all_goals go_wp2_with fail
 all_goals exact zbD (v:=.tuple #[ptr sb,.agg #[.string SG,.string BS,.string NM],.bool r]) (by simp[results,Tryz.results31,go_sem,z0,z1,z2]) rfl ⟨⟨sb,rfl,(HL3.out.mono (lo':=w.heap.size+1) (by simp)).xD (rb:=w.heap.size) (zaH _) (by have E:aA w.heap.size w3 w4:=aA.aF (((Below.refl w3.heap.size w3).alloc (zaA) (.cells #[.string SG,.string BS,.string NM] 48)).trans (D4.out.mono (Nat.le_succ _))) (zaA);repeat (first|with_reducible exact E|with_reducible refine aA.drew ?_|with_reducible refine aA.trans ?_ (aA.set _ _ _ _))) |>.mono (Nat.le_succ _)⟩,by have B:=(B3.out.alloc B3.out.size (.cells #[.string SG,.string BS,.string NM] 48)).trans (D4.out.mono (by omega));repeat (first|with_reducible exact B|with_reducible refine zbE ?_|with_reducible refine zbF ?_ (by first|(simp;done)|(simp;omega)|omega) _|with_reducible refine zbG ?_ (by first|exact B.size|(simp;done)|(simp;omega)|omega) _)⟩
theorem both (s kt:ByteArray) (m:Int) (w:World) (hm:ML m w) (hs:s.size<=1048576) (hkt:kt.size<=1048576):Calls Tryz.prog 31 #[.string s,.string kt] w fun e w'=>cT s.data.toList kt.data.toList w.heap.size e w'/\Below w.heap.size w w':=by
 cases hsc:Wf.schemaOf s.data.toList with
 | none =>
  refine(zP s kt m w hm hs hsc).mono fun e w' ⟨⟨p,he⟩,hb⟩=>⟨?_,hb⟩;unfold cT aV;rw[hsc];exact⟨_,_,_,_,he⟩
 | some x =>
  cases hk:Wf.aM kt.data.toList with
  | none =>
   refine(yH s kt m w hm hs x hsc hkt hk).mono fun e w' ⟨he,hb⟩=>⟨?_,hb⟩;unfold cT aV;rw[hsc];dsimp only;rw[hk];exact he
  | some k =>
   refine(vV s kt m w hm hs x hsc hkt k hk).mono fun e w' ⟨⟨sb,he,hl⟩,hb⟩=>⟨?_,hb⟩;unfold cT aV;rw[hsc];dsimp only;rw[hk];dsimp only;cases hr:Wf.aL x k with
   | true=>rw[if_pos rfl];exact⟨sb,by rw[he,hr],hl⟩
   | false=>rw[if_neg (by decide)];exact⟨_,_,_,_,by rw[he,hr];rfl⟩
def dU (l nm:List UInt8) (lo:Nat) (e:Ending) (w':World):Prop:=match eA l nm with
 | some y=>∃ sb tb,e=.returned (.tuple #[ptr sb,ptr tb,.bool true])/\ScL w' lo sb y.1/\TyL w' lo tb y.2
 | none=>e=.returned (.tuple #[.pointer none,.pointer none,.bool false])
theorem a3P (s nm:ByteArray) (m:Int) (w:World) (hm:ML m w) (hs:s.size<=1048576) (hn6:nm.size<=1048576):Calls Tryz.prog 34 #[.string s,.string nm] w fun e w'=>dU s.data.toList nm.data.toList w.heap.size e w'/\Below w.heap.size w w':=by
 have HR:=hid (hJ s m w hm hs);clear hm;cases hsc:Wf.schemaOf s.data.toList with
 | none =>
  have HSC:=hid hsc;have HF:=hid (show eA s.data.toList nm.data.toList=none by unfold eA;rw[hsc]);clear hsc;go_enter Tryz.func34,Tryz.ntmps34;go_wp2_with (go_at_call 44;refine HR.out.mono ?_;rintro e w2 ⟨ho,hb2⟩;obtain⟨p,rfl⟩:=ho.no HSC.out;have HB2:=hid hb2;clear ho hb2)
  exact zbD (v:=.tuple #[.pointer none,.pointer none,.bool false]) (by simp[results,Tryz.results34,go_sem]) rfl ⟨by unfold dU;rw[HF.out],HB2.out⟩
 | some x =>
  have HSC:=hid hsc;cases hf:x.find nm.data.toList with
  | none =>
   have HF:=hid (show eA s.data.toList nm.data.toList=none by unfold eA;rw[hsc];simp[hf]);have HL:=hid fun lo sb w2 (H:ScL w2 lo sb x)=>(by
    obtain⟨mb,h1,h2,h3⟩:=H.named;rcases h3 nm hn6 with⟨_,h4⟩|⟨t,b,h4,_⟩
    ·exact⟨mb,h1,h2,h4⟩
    ·exact absurd h4 (by rw[hf];simp):∃ mb,sb<w2.heap.size/\w2.cell? ⟨sb,1,none⟩=some (.map (some mb))/\∀ wz,Below w2.heap.size w2 wz->(Instr.lookup 114 (.map (some mb)) (.string nm) false).run Tryz.prog wz=.ok (.pointer none) wz)
   clear hsc hf;go_enter Tryz.func34,Tryz.ntmps34;go_wp2_with (go_at_call 44;refine HR.out.mono ?_;rintro e w2 ⟨ho,hb2⟩;obtain⟨sb,rfl,hsl⟩:=ho.yes HSC.out;obtain⟨mb,hsb,hc1,hl⟩:=HL.out _ _ _ hsl;have l0:=hl w2 (zaB);have l1:=hl w2.drew (zaB).drew;have HB2:=hid hb2;clear ho hb2 hsl hl)
   exact zbD (v:=.tuple #[.pointer none,.pointer none,.bool false]) (by simp[results,Tryz.results34,go_sem]) rfl ⟨by unfold dU;rw[HF.out],HB2.out⟩
  | some t =>
   have HF:=hid (show eA s.data.toList nm.data.toList=some (x,t) by unfold eA;rw[hsc];simp[hf]);have HL:=hid fun lo sb w2 (H:ScL w2 lo sb x)=>(by
    obtain⟨mb,h1,h2,h3⟩:=H.named;rcases h3 nm hn6 with⟨h4,_⟩|⟨t',b,h4,h5,h6⟩
    ·rw[hf] at h4;cases h4
    ·rw[hf] at h4;obtain rfl:=Option.some.inj h4;exact⟨mb,b,h1,h2,h5,h6⟩:∃ mb b,sb<w2.heap.size/\w2.cell? ⟨sb,1,none⟩=some (.map (some mb))/\TyL w2 lo b t/\∀ wz,Below w2.heap.size w2 wz->(Instr.lookup 114 (.map (some mb)) (.string nm) false).run Tryz.prog wz=.ok (ptr b) wz)
   clear hsc hf;go_enter Tryz.func34,Tryz.ntmps34;go_wp2_with (go_at_call 44;refine HR.out.mono ?_;rintro e w2 ⟨ho,hb2⟩;obtain⟨sb,rfl,hsl⟩:=ho.yes HSC.out;obtain⟨mb,b,hsb,hc1,hT,hl⟩:=HL.out _ _ _ hsl;have l0:=hl w2 (zaB);have l1:=hl w2.drew (zaB).drew;have HT:=hid hT;have HSL:=hid hsl;have HB2:=hid hb2;clear ho hb2 hsl hl hT)
   go_region
   all_goals go_wp2_with fail
   all_goals exact zbD (v:=.tuple #[ptr sb,ptr b,.bool true]) (by simp[results,Tryz.results34,go_sem]) rfl ⟨by unfold dU;rw[HF.out];exact⟨sb,b,rfl,HSL.out.below (zaB).drew,HT.out.below (zaB).drew⟩,HB2.out.drew⟩

theorem cH.ok {l:List UInt8} {lo:Nat} {e:Ending} {w':World} (h:cH l lo e w'):∃ p,e=.returned (.tuple #[.pointer p,.bool (okL l)]):=by
 unfold cH at h;unfold okL;cases hl:Wf.schemaOf l with
 | none=>rw[hl] at h;exact h
 | some x=>rw[hl] at h;obtain⟨sb,he,_⟩:=h;exact⟨_,he⟩
theorem dU.no {l nm:List UInt8} {lo:Nat} {e:Ending} {w':World} (h:dU l nm lo e w') (hl:eA l nm=none):e=.returned (.tuple #[.pointer none,.pointer none,.bool false]):=by
 unfold dU at h;rw[hl] at h;exact h
theorem dU.yes {l nm:List UInt8} {lo:Nat} {e:Ending} {w':World} {y:Wf.Sc × Wf.Ty} (h:dU l nm lo e w') (hl:eA l nm=some y):∃ sb tb,e=.returned (.tuple #[ptr sb,ptr tb,.bool true])/\ScL w' lo sb y.1/\TyL w' lo tb y.2:=by
 unfold dU at h;rw[hl] at h;exact h
theorem cT.no {l kt:List UInt8} {lo:Nat} {e:Ending} {w':World} (h:cT l kt lo e w') (hl:aV l kt=none):∃ p a b c,e=.returned (.tuple #[.pointer p,.agg #[.string a,.string b,.string c],.bool false]):=by
 unfold cT at h;rw[hl] at h;exact h
theorem cT.yes {l kt:List UInt8} {lo:Nat} {e:Ending} {w':World} {y:Wf.Sc × Wf.K} (h:cT l kt lo e w') (hl:aV l kt=some y):∃ sb,e=.returned (.tuple #[ptr sb,kV y.2,.bool true])/\ScL w' lo sb y.1:=by
 unfold cT at h;rw[hl] at h;exact h

theorem aS.no {W:World} {t:Wf.Ty} {g:Int} {e:Ending} (h:aS W t g e) (hl:bJ t g=none):e=.returned (.pointer none):=by
 unfold aS at h;rw[hl] at h;exact h
theorem aS.yes {W:World} {t:Wf.Ty} {g:Int} {e:Ending} {f:Wf.Fd} (h:aS W t g e) (hl:bJ t g=some f):∃ fb o,e=.returned (.pointer (some ⟨fb,o,none⟩))/\FdAt W fb o t.sort f:=by
 unfold aS at h;rw[hl] at h;exact h
