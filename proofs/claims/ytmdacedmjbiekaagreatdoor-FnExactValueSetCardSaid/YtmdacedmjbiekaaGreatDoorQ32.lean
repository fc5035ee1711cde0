/- Packed by pack.py: PlainAA Wf Wg. -/
import Derived.Test.YtmdacedmjbiekaaGreatDoorQ31
import Derived.Deep.AppendLies
import Derived.Deep.RegionHeldLaw
import Derived.Deep.WholeRow
namespace Wf
set_option linter.unusedVariables false
set_option linter.unusedSimpArgs false
def putL (o:Option (Fd × V)) (g:Int):Bool→List (Fd × V)→List (Fd × V)
 | done,[]=>if done then [] else o.toList
 | done,e::es=>(if done=false∧g≤(e.1.tag:Int) then o.toList else [])++(if (e.1.tag:Int)≠g then [e] else [])++putL o g (done || decide (g≤(e.1.tag:Int))) es
theorem putL_done (o:Option (Fd × V)) (g:Int):∀ (es:List (Fd × V)),putL o g true es=es.filter (fun e=>decide ((e.1.tag:Int)≠g)):=by
 intro es
 induction es with
 | nil=>rfl
 | cons e es ih =>
  simp only[putL,Bool.true_or,ih,List.filter_cons]
  by_cases h:(e.1.tag:Int)=g
  ·simp[h]
  ·simp[h]
theorem putL_open (o:Option (Fd × V)) (g:Int):∀ (es:List (Fd × V)),Asc es→putL o g false es=es.filter (fun e=>decide ((e.1.tag:Int)<g))++o.toList++es.filter (fun e=>decide (g<(e.1.tag:Int))):=by
 intro es
 induction es with
 | nil=>intro _;simp[putL]
 | cons e es ih =>
  intro h
  simp only[Asc,List.map_cons] at h
  obtain⟨h1,h2⟩:=List.pairwise_cons.1 h
  have hall:∀ d,d∈es→e.1.tag<d.1.tag:=fun d hd=>h1 _ (List.mem_map_of_mem hd)
  simp only[putL,List.filter_cons,Bool.false_or]
  by_cases hg:g≤(e.1.tag:Int)
  ·have hf1:es.filter (fun d=>decide ((d.1.tag:Int)<g))=[]:=by
    rw[List.filter_eq_nil_iff]
    intro d hd
    have:=hall d hd
    simp;omega
   have hf2:es.filter (fun d=>decide ((d.1.tag:Int)≠g))=es:=by
    rw[List.filter_eq_self]
    intro d hd
    have:=hall d hd
    simp;omega
   have hf3:es.filter (fun d=>decide (g<(d.1.tag:Int)))=es:=by
    rw[List.filter_eq_self]
    intro d hd
    have:=hall d hd
    simp;omega
   have hnl:¬ (e.1.tag:Int)<g:=by omega
   simp only[hg,decide_true,putL_done,hf1,hf2,hf3,hnl,decide_false]
   by_cases heq:(e.1.tag:Int)=g
   ·simp[heq]
   ·have hlt:g<(e.1.tag:Int):=by omega
    simp[heq,hlt]
  ·have hd:decide (g≤(e.1.tag:Int))=false:=decide_eq_false hg
   rw[hd,ih h2]
   have hlt:(e.1.tag:Int)<g:=by omega
   have hne:(e.1.tag:Int)≠g:=by omega
   have hnl:¬ g<(e.1.tag:Int):=by omega
   simp[hg,hlt,hne,hnl]
theorem putL_set {x:Sc} {es:List (Fd × V)} {f:Fd} {y:V} (h:Asc es):putL (if y.print=standF x f then none else some (f,y)) (f.tag:Int) false es=setEs x es f y:=by
 have e1:es.filter (fun e=>decide ((e.1.tag:Int)<(f.tag:Int)))=es.filter (fun e=>decide (e.1.tag<f.tag)):=by
  congr 1;funext e;simp
 have e2:es.filter (fun e=>decide ((f.tag:Int)<(e.1.tag:Int)))=es.filter (fun e=>decide (f.tag<e.1.tag)):=by
  congr 1;funext e;simp
 rw[putL_open _ _ _ h,e1,e2]
 unfold setEs
 by_cases hy:y.print=standF x f
 ·rw[if_pos hy,if_pos hy];rfl
 ·rw[if_neg hy,if_neg hy];rfl
theorem setIn_back {x:Sc} (hx:ScOk x) {nm:Bs} {t:Ty} {es:List (Fd × V)} {g:Int} {f:Fd} {s:Bs} {u:V} (ht:x.find nm=some t) (h82:t.sort=82) (hf:t.fieldZ g=some f) (hes:RecOf x t 11 es) (hp:parse x 12 f.kind s=some (u,[])) :
  Typed x 13 (.ref nm) (recV (setEs x es f u))∧setIn x (.ref nm) (recV es) g s=if (valIn x (.ref nm) (recV (setEs x es f u)).print).isSome then some (recV (setEs x es f u)).print else none:=by
 obtain⟨hty,hs⟩:=parse_say _ _ _ _ _ hp
 rw[List.append_nil] at hs
 obtain⟨h1,h2,h3⟩:=fieldZ_some hf
 have hfo:=(hx.tys t (find_mem ht).1).fds f h1
 have hes12:RecOf x t 12 es:=⟨hes.1,fun e he=>by obtain⟨a,b,c,d,e'⟩:=hes.2 e he;exact⟨a,b,c,typed_mono _ _ _ d 12 (by omega),e'⟩⟩
 have hset:=rec_set hes12 hfo.tag1 hfo.tag2 h3 hty
 have htyp:=rec_typed hset ht h82
 refine⟨htyp, ?_⟩
 rw[setIn_rec ht h82,hf]
 simp only[Option.bind_some]
 by_cases h400:s.length≤400
 ·have hv:valIn x f.kind s=some u:=by unfold valIn;rw[if_pos h400,hp]
  rw[hv]
  simp only[Option.bind_some]
  by_cases hc:(recV (setEs x es f u)).print.length≤400∧(recV (setEs x es f u)).deep≤12
  ·rw[if_pos hc,valIn_print htyp hc.2 hc.1];rfl
  ·rw[if_neg hc,if_neg]
   intro h
   obtain⟨v,hv⟩:=Option.isSome_iff_exists.1 h
   obtain⟨a,b,c⟩:=valIn_some hv
   have h5:=typed_inj htyp a b
   exact hc ⟨c,by rw[h5];exact(typed_deep _ _ _ a).2⟩
 ·rw[valIn_long h400]
  simp only[Option.bind_none]
  rw[if_neg]
  intro h
  obtain⟨v,hv⟩:=Option.isSome_iff_exists.1 h
  obtain⟨a,b,c⟩:=valIn_some hv
  have hne:u.print≠standF x f:=by
   intro e
   have:=standF_le hx (find_mem ht).1 h1
   rw[← e,← hs] at this
   omega
  have hm:(f,u)∈setEs x es f u:=setEs_mem.2 (.inr ⟨hne,rfl⟩)
  have:=rec_part hm
  dsimp only at this
  rw[← hs] at this
  omega
theorem setIn_no {x:Sc} {nm:Bs} {t:Ty} {es:List (Fd × V)} {g:Int} {f:Fd} {s:Bs} (ht:x.find nm=some t) (h82:t.sort=82) (hf:t.fieldZ g=some f) (hp:∀ u,parse x 12 f.kind s≠some (u,[])):setIn x (.ref nm) (recV es) g s=none:=by
 rw[setIn_rec ht h82,hf]
 simp only[Option.bind_some]
 have hv:valIn x f.kind s=none:=by
  unfold valIn
  split
  ·cases hq:parse x 12 f.kind s with
   | none=>rfl
   | some y =>
    obtain⟨u,r⟩:=y
    cases r with
    | nil=>exact absurd hq (hp u)
    | cons c r=>rfl
  ·rfl
 rw[hv];rfl
def psum (l:List Bs):Nat:=(l.map fun a=>a.length+1).sum
theorem psum_app (l m:List Bs):psum (l++m)=psum l+psum m:=by unfold psum;rw[List.map_append,List.sum_append]
theorem commas_psum:∀ (l:List Bs),(commas l).length≤psum l∧psum l≤(commas l).length+1:=by
 intro l
 induction l with
 | nil=>exact⟨Nat.le_refl _,Nat.le_succ _⟩
 | cons b l ih =>
  have h:psum (b::l)=b.length+1+psum l:=by unfold psum;rw[List.map_cons,List.sum_cons]
  cases l with
  | nil=>rw[h];simp[commas,psum]
  | cons c l =>
   rw[h]
   simp only[commas,List.length_append,List.length_cons]
   omega
theorem psum_filter {α:Type} (p:α→Bool) (q:α→Bs):∀ (l:List α),psum ((l.filter p).map q)≤psum (l.map q):=by
 intro l
 induction l with
 | nil=>exact Nat.le_refl _
 | cons a l ih =>
  have h:∀ b (m:List Bs),psum (b::m)=b.length+1+psum m:=fun b m=>by unfold psum;rw[List.map_cons,List.sum_cons]
  rw[List.filter_cons]
  split
  ·rw[List.map_cons,List.map_cons,h,h];omega
  ·rw[List.map_cons,h];omega
theorem set_len {x:Sc} {es:List (Fd × V)} {f:Fd} {u:V} (hf:f.tag≤200):(recV (setEs x es f u)).print.length≤2 * (recV es).print.length+u.print.length+10:=by
 have hp:∀ (l:List (Fd × V)),(recV l).print.length=2+(commas (l.map fun e=>(tagged e).print)).length:=by
  intro l
  rw[recV,print_rec,List.map_map]
  simp only[List.length_cons,List.length_append,List.length_nil]
  show _=2+(commas (l.map (V.print ∘ tagged))).length
  omega
 rw[hp,hp]
 have h1:=(commas_psum ((setEs x es f u).map fun e=>(tagged e).print)).1
 have h2:=(commas_psum (es.map fun e=>(tagged e).print)).2
 unfold setEs at h1 ⊢
 rw[List.map_append,List.map_append,psum_app,psum_app] at h1
 have h3:=psum_filter (fun e:Fd × V=>decide (e.1.tag<f.tag)) (fun e=>(tagged e).print) es
 have h4:=psum_filter (fun e:Fd × V=>decide (f.tag<e.1.tag)) (fun e=>(tagged e).print) es
 have hd:(dec f.tag).length≤3:=dec_len f.tag 2 (by omega)
 have h5:psum ((if u.print=standF x f then [] else [(f,u)]).map fun e=>(tagged e).print)≤u.print.length+5:=by
  split
  ·simp[psum]
  ·simp only[List.map_cons,List.map_nil,psum,List.sum_cons,List.sum_nil,tagged_print,List.length_append,List.length_cons]
   omega
 rw[List.map_append,List.map_append]
 omega
end Wf

namespace Go.Proofs.YtmdacedmjbiekaaGreatDoor
open Go.ChangeShapes Go.WideShapes Go.ChangeAt Go.RowKit Go.Lib
set_option linter.unusedVariables false
set_option linter.unusedSimpArgs false
structure PB (w wr:World) (vb base:Nat) (a:Option Addr) (c:Nat) (l:List Wf.V) (es:List (List Value)):Prop where
 fr:Below w.heap.size w wr
 vw:w.heap.size≤vb
 vlt:vb<base
 sz:base≤wr.heap.size
 v0:wr.cell? ⟨vb,0,none⟩=some (.int .u8 82)
 v1:wr.cell? ⟨vb,1,none⟩=some (tx [])
 v2:wr.cell? ⟨vb,2,none⟩=some (.int .i64 0)
 v3:wr.cell? ⟨vb,3,none⟩=some (.slice a es.length c)
 f3:wr.frozen? ⟨vb,3,none⟩=false
 own:wr.ownsRow base 92 4 (.slice a es.length c) es.length es.flatten
 he:∀ e∈es,e.length=4
 hl:es.length=l.length
 vals:∀ i (h1:i<es.length) (h2:i<l.length),VC wr (fun b=>b<w.heap.size∨(base≤b∧some b≠(Value.slice a es.length c).ownBlock)) l[i] es[i]
section
variable {w wr:World} {vb base:Nat} {a:Option Addr} {c:Nat} {l:List Wf.V} {es:List (List Value)}
theorem PB.step (h:PB w wr vb base a c l es) {q:Nat} {w2:World} (hb:Beside q wr w2) (h1:w.heap.size≤q) (h2:q≠vb) (h3:q<base):PB w w2 vb base a c l es:=by
 have g1:=h.vw
 have g2:=h.vlt
 have g3:=h.sz
 have hv:vb<wr.heap.size:=by omega
 have hn:vb≠q:=fun e=>h2 e.symm
 exact⟨Beside.below h.fr h.fr.size h1 hb,g1,g2,Nat.le_trans g3 hb.size,(hb.cell (p:=⟨vb,0,none⟩) hv hn).trans h.v0,(hb.cell (p:=⟨vb,1,none⟩) hv hn).trans h.v1,(hb.cell (p:=⟨vb,2,none⟩) hv hn).trans h.v2,(hb.cell (p:=⟨vb,3,none⟩) hv hn).trans h.v3,(hb.frozen (p:=⟨vb,3,none⟩) hv hn).trans h.f3,owns_beside h.own hb (by omega),h.he,h.hl,
  fun i k1 k2=>VC.keep (fun b hp hlt=>⟨hp,hb.block b hlt (by rcases hp with hp|hp <;> omega)⟩) hb.size _ _ (h.vals i k1 k2)⟩
theorem PB.put (h:PB w wr vb base a c l es) {q:Nat} {wx w4 w5:World} (hx:Beside q wr wx) (q1:w.heap.size≤q) (q2:q≠vb) (q3:q<base)
  (hg:wx.grownBy w4 (Value.slice a es.length c).ownBlock) {g c':Nat} (h5:Beside g w4 w5) (h5s:w5.heap.size=w4.heap.size) {cs:List Value} {v:Wf.V}
  (hvc:VC wx (fun b=>b<w.heap.size∨wr.heap.size≤b) v cs)
  (ho:w5.ownsRow base 92 4 (.slice (some ⟨g,0,none⟩) (es.length+1) c') (es.length+1) (es.flatten++cs))
  (hat:(Value.slice a es.length c).ownBlock=some g∨g=wx.heap.size) :
  PB w (w5.setCell ⟨vb,3,none⟩ (.slice (some ⟨g,0,none⟩) (es.length+1) c')) vb base (some ⟨g,0,none⟩) c' (l++[v]) (es++[cs]):=by
 have hs:=h.step hx q1 q2 q3
 have g1:=h.vw
 have g2:=h.vlt
 have g3:=hs.sz
 have hgl:=owns_lt ho g rfl
 have hlen:(es++[cs]).length=es.length+1:=by simp
 have hlo:=owns_lt hs.own
 have hown:∀ y,(Value.slice a es.length c).ownBlock=some y→base≤y∧y<wr.heap.size:=fun y hy=>owns_lt h.own y hy
 have hB4:Below base wx w4:=below_grown2 hg (fun y hy=>(hlo y hy).1) g3
 have hB:Below base wx w5:=hB4.trans ⟨h5.os,h5.tape,h5.output,h5.size,fun k hk=>by
  by_cases hk2:k<w4.heap.size
  ·exact h5.block k hk2 (by omega)
  ·have:=hB4.size;omega⟩
 have hss:(w5.setCell ⟨vb,3,none⟩ (.slice (some ⟨g,0,none⟩) (es.length+1) c')).heap.size=w5.heap.size:=by simp
 have hloc:(Value.slice (some ⟨g,0,none⟩) (es.length+1) c').ownBlock=(Value.slice a es.length c).ownBlock∨(Value.slice (some ⟨g,0,none⟩) (es.length+1) c').ownBlock=some wx.heap.size:=by
  rcases hat with hat|hat
  ·exact .inl hat.symm
  ·exact .inr (by rw[← hat];rfl)
 have hkeep:∀ b,b<wx.heap.size→b≠vb→some b≠(Value.slice a es.length c).ownBlock→some b≠(Value.slice (some ⟨g,0,none⟩) (es.length+1) c').ownBlock∧(w5.setCell ⟨vb,3,none⟩ (.slice (some ⟨g,0,none⟩) (es.length+1) c')).heap[b]? = wx.heap[b]?:=fun b hb2 hbv hb3=>by
  obtain⟨e1,e2⟩:=apart_step hg hloc hb2 hb3
  have hbg:b≠g:=fun e=>e2 (by rw[e];rfl)
  refine⟨e2, ?_⟩
  rw[Below.heap_setCell w5 ⟨vb,3,none⟩ _ _ (by show b≠vb;exact hbv),h5.block b (Nat.lt_of_lt_of_le hb2 hB4.size) hbg]
  exact e1
 have hnv:∀ b,b<w.heap.size→b≠vb∧some b≠(Value.slice a es.length c).ownBlock:=fun b hb=>⟨by omega,fun e=>by have:=(hown b e.symm).1;omega⟩
 refine⟨?_,g1,g2,by rw[hss];exact Nat.le_trans g3 hB.size, ?_, ?_, ?_, ?_, ?_, ?_, ?_, ?_, ?_⟩
 ·exact(hs.fr.trans (hB.mono (by omega))).setCell (by show w.heap.size≤vb;exact g1) _
 ·exact(World.cell?_setCell_other w5 _ _ _ (by simp)).trans ((hB.cell (p:=⟨vb,0,none⟩) g2).trans hs.v0)
 ·exact(World.cell?_setCell_other w5 _ _ _ (by simp)).trans ((hB.cell (p:=⟨vb,1,none⟩) g2).trans hs.v1)
 ·exact(World.cell?_setCell_other w5 _ _ _ (by simp)).trans ((hB.cell (p:=⟨vb,2,none⟩) g2).trans hs.v2)
 ·rw[hlen];exact World.cell?_setCell_same w5 _ _ ((hB.cell (p:=⟨vb,3,none⟩) g2).trans hs.v3)
 ·have:=(hB.frozen (p:=⟨vb,3,none⟩) g2).trans hs.f3
  simpa using this
 ·rw[hlen,List.flatten_append,List.flatten_cons,List.flatten_nil,List.append_nil]
  exact ownsRow_setCell_below ho g2 _
 ·intro e he
  rcases List.mem_append.1 he with he|he
  ·exact h.he e he
  ·rw[List.mem_singleton.1 he];exact hvc.len
 ·rw[hlen,List.length_append,h.hl];rfl
 ·intro i k1 k2
  rw[hlen]
  by_cases hi:i<es.length
  ·have hil:i<l.length:=by have:=h.hl;omega
   rw[List.getElem_append_left hi,List.getElem_append_left hil]
   refine VC.keep (fun b hp hlt => ?_) (by rw[hss];exact hB.size) _ _ (hs.vals i hi hil)
   rcases hp with hp|hp
   ·obtain⟨n1,n2⟩:=hnv b hp
    exact⟨.inl hp,(hkeep b hlt n1 n2).2⟩
   ·obtain⟨e1,e2⟩:=hkeep b hlt (by omega) hp.2
    exact⟨.inr ⟨hp.1,e1⟩,e2⟩
  ·have hie:i=es.length:=by simp at k1;omega
   subst hie
   rw[List.getElem_append_right (Nat.le_refl _)]
   have e2:(l++[v])[es.length]'k2=v:=by
    rw[List.getElem_append_right (by rw[h.hl];exact Nat.le_refl _)]
    simp[h.hl]
   rw[e2]
   simp only[Nat.sub_self,List.getElem_cons_zero]
   refine VC.keep (fun b hp hlt => ?_) (by rw[hss];exact hB.size) _ _ hvc
   rcases hp with hp|hp
   ·obtain⟨n1,n2⟩:=hnv b hp
    exact⟨.inl hp,(hkeep b hlt n1 n2).2⟩
   ·have hb1:base≤b:=Nat.le_trans h.sz hp
    obtain⟨e1,e2⟩:=hkeep b hlt (by omega) (fun e=>by have:=(hown b e.symm).2;omega)
    exact⟨.inr ⟨hb1,e1⟩,e2⟩
theorem PB.put2 (h:PB w wr vb base a c l es) {q:Nat} {wx w4 w5:World} (hx:Beside q wr wx) (q1:w.heap.size≤q) (q2:q≠vb) (q3:q<base)
  (hg:wx.grownBy w4 (Value.slice a es.length c).ownBlock) {g c':Nat} (h5:Beside g w4 w5) {cs:List Value} {v:Wf.V}
  (hvc:VC w5 (fun b=>b<w.heap.size∨(base≤b∧b≠g)) v cs)
  (ho:w5.ownsRow base 92 4 (.slice (some ⟨g,0,none⟩) (es.length+1) c') (es.length+1) (es.flatten++cs))
  (hat:(Value.slice a es.length c).ownBlock=some g∨g=wx.heap.size) :
  PB w (w5.setCell ⟨vb,3,none⟩ (.slice (some ⟨g,0,none⟩) (es.length+1) c')) vb base (some ⟨g,0,none⟩) c' (l++[v]) (es++[cs]):=by
 have hs:=h.step hx q1 q2 q3
 have g1:=h.vw
 have g2:=h.vlt
 have g3:=hs.sz
 have hlen:(es++[cs]).length=es.length+1:=by simp
 have hlo:=owns_lt hs.own
 have hown:∀ y,(Value.slice a es.length c).ownBlock=some y→base≤y∧y<wr.heap.size:=fun y hy=>owns_lt h.own y hy
 have hB4:Below base wx w4:=below_grown2 hg (fun y hy=>(hlo y hy).1) g3
 have hB:Below base wx w5:=hB4.trans ⟨h5.os,h5.tape,h5.output,h5.size,fun k hk=>by
  by_cases hk2:k<w4.heap.size
  ·exact h5.block k hk2 (by have:=(owns_lt ho g rfl).1;omega)
  ·have:=hB4.size;omega⟩
 have hss:(w5.setCell ⟨vb,3,none⟩ (.slice (some ⟨g,0,none⟩) (es.length+1) c')).heap.size=w5.heap.size:=by simp
 have hloc:(Value.slice (some ⟨g,0,none⟩) (es.length+1) c').ownBlock=(Value.slice a es.length c).ownBlock∨(Value.slice (some ⟨g,0,none⟩) (es.length+1) c').ownBlock=some wx.heap.size:=by
  rcases hat with hat|hat
  ·exact .inl hat.symm
  ·exact .inr (by rw[← hat];rfl)
 have hkeep:∀ b,b<wx.heap.size→b≠vb→some b≠(Value.slice a es.length c).ownBlock→some b≠(Value.slice (some ⟨g,0,none⟩) (es.length+1) c').ownBlock∧(w5.setCell ⟨vb,3,none⟩ (.slice (some ⟨g,0,none⟩) (es.length+1) c')).heap[b]? = wx.heap[b]?:=fun b hb2 hbv hb3=>by
  obtain⟨e1,e2⟩:=apart_step hg hloc hb2 hb3
  have hbg:b≠g:=fun e=>e2 (by rw[e];rfl)
  refine⟨e2, ?_⟩
  rw[Below.heap_setCell w5 ⟨vb,3,none⟩ _ _ (by show b≠vb;exact hbv),h5.block b (Nat.lt_of_lt_of_le hb2 hB4.size) hbg]
  exact e1
 have hnv:∀ b,b<w.heap.size→b≠vb∧some b≠(Value.slice a es.length c).ownBlock:=fun b hb=>⟨by omega,fun e=>by have:=(hown b e.symm).1;omega⟩
 refine⟨?_,g1,g2,by rw[hss];exact Nat.le_trans g3 hB.size, ?_, ?_, ?_, ?_, ?_, ?_, ?_, ?_, ?_⟩
 ·exact(hs.fr.trans (hB.mono (by omega))).setCell (by show w.heap.size≤vb;exact g1) _
 ·exact(World.cell?_setCell_other w5 _ _ _ (by simp)).trans ((hB.cell (p:=⟨vb,0,none⟩) g2).trans hs.v0)
 ·exact(World.cell?_setCell_other w5 _ _ _ (by simp)).trans ((hB.cell (p:=⟨vb,1,none⟩) g2).trans hs.v1)
 ·exact(World.cell?_setCell_other w5 _ _ _ (by simp)).trans ((hB.cell (p:=⟨vb,2,none⟩) g2).trans hs.v2)
 ·rw[hlen];exact World.cell?_setCell_same w5 _ _ ((hB.cell (p:=⟨vb,3,none⟩) g2).trans hs.v3)
 ·have:=(hB.frozen (p:=⟨vb,3,none⟩) g2).trans hs.f3
  simpa using this
 ·rw[hlen,List.flatten_append,List.flatten_cons,List.flatten_nil,List.append_nil]
  exact ownsRow_setCell_below ho g2 _
 ·intro e he
  rcases List.mem_append.1 he with he|he
  ·exact h.he e he
  ·rw[List.mem_singleton.1 he];exact hvc.len
 ·rw[hlen,List.length_append,h.hl];rfl
 ·intro i k1 k2
  rw[hlen]
  by_cases hi:i<es.length
  ·have hil:i<l.length:=by have:=h.hl;omega
   rw[List.getElem_append_left hi,List.getElem_append_left hil]
   refine VC.keep (fun b hp hlt => ?_) (by rw[hss];exact hB.size) _ _ (hs.vals i hi hil)
   rcases hp with hp|hp
   ·obtain⟨n1,n2⟩:=hnv b hp
    exact⟨.inl hp,(hkeep b hlt n1 n2).2⟩
   ·obtain⟨e1,e2⟩:=hkeep b hlt (by omega) hp.2
    exact⟨.inr ⟨hp.1,e1⟩,e2⟩
  ·have hie:i=es.length:=by simp at k1;omega
   subst hie
   rw[List.getElem_append_right (Nat.le_refl _)]
   have e2:(l++[v])[es.length]'k2=v:=by
    rw[List.getElem_append_right (by rw[h.hl];exact Nat.le_refl _)]
    simp[h.hl]
   rw[e2]
   simp only[Nat.sub_self,List.getElem_cons_zero]
   refine VC.keep (fun b hp hlt => ?_) (by rw[hss];exact Nat.le_refl _) _ _ hvc
   have hbv:b≠vb:=by rcases hp with hp|hp <;> omega
   refine⟨?_,Below.heap_setCell w5 ⟨vb,3,none⟩ _ _ (by show b≠vb;exact hbv)⟩
   rcases hp with hp|hp
   ·exact .inl hp
   ·exact .inr ⟨hp.1,fun e=>hp.2 (Option.some.inj e)⟩
end
theorem set4 (xs:List Value) (k:Nat) (hk:xs.length=k) (z0 z1 z2 z3 c0 c1 c2 c3:Value):((((xs++[z0,z1,z2,z3]).set k c0).set (k+1) c1).set (k+2) c2).set (k+3) c3=xs++[c0,c1,c2,c3]:=by
 subst hk
 rw[List.set_append_right _ _ (Nat.le_refl _),List.set_append_right _ _ (by omega),List.set_append_right _ _ (by omega),List.set_append_right _ _ (by omega)]
 simp
theorem own_set4 {w4:World} {base:Nat} {T:TypeId} {g n cap k:Nat} {xs:List Value} {z0 z1 z2 z3:Value} (h:w4.ownsRow base T 4 (.slice (some ⟨g,0,none⟩) n cap) n (xs++[z0,z1,z2,z3])) (hk:xs.length=k) (c0 c1 c2 c3:Value) :
  ((((w4.setCell ⟨g,k,none⟩ c0).setCell ⟨g,k+1,none⟩ c1).setCell ⟨g,k+2,none⟩ c2).setCell ⟨g,k+3,none⟩ c3).ownsRow base T 4 (.slice (some ⟨g,0,none⟩) n cap) n (xs++[c0,c1,c2,c3]):=by
 have h1:=(h.stored k c0).1
 have h2:=(h1.stored (k+1) c1).1
 have h3:=(h2.stored (k+2) c2).1
 have h4:=(h3.stored (k+3) c3).1
 rw[set4 xs k hk] at h4
 exact h4
theorem beside_set4 (w4:World) (g k:Nat) (c0 c1 c2 c3:Value):Beside g w4 ((((w4.setCell ⟨g,k,none⟩ c0).setCell ⟨g,k+1,none⟩ c1).setCell ⟨g,k+2,none⟩ c2).setCell ⟨g,k+3,none⟩ c3)∧((((w4.setCell ⟨g,k,none⟩ c0).setCell ⟨g,k+1,none⟩ c1).setCell ⟨g,k+2,none⟩ c2).setCell ⟨g,k+3,none⟩ c3).heap.size=w4.heap.size :=
 ⟨(((Beside.set g w4 k c0).trans (Beside.set g _ (k+1) c1)).trans (Beside.set g _ (k+2) c2)).trans (Beside.set g _ (k+3) c3),by simp⟩

theorem set_swap (w:World) (b1 o1 b2 o2:Nat) (u v:Value) (h:b1≠b2∨o1≠o2):(w.setCell ⟨b1,o1,none⟩ u).setCell ⟨b2,o2,none⟩ v=(w.setCell ⟨b2,o2,none⟩ v).setCell ⟨b1,o1,none⟩ u:=by
 unfold World.setCell
 congr 1
 apply Array.ext_getElem?
 intro i
 simp only[Array.getElem?_modify]
 by_cases h1:b1=i <;> by_cases h2:b2=i <;> simp_all
 cases w.heap[i]? with
 | none=>rfl
 | some o=>cases o <;> simp[Array.setIfInBounds_comm _ _ h]
theorem row4 {w4:World} {base:Nat} {T:TypeId} {g m cap:Nat} {xs:List Value} {z0 z1 z2 z3:Value} (h:w4.ownsRow base T 4 (.slice (some ⟨g,0,none⟩) (m+1) cap) (m+1) (xs++[z0,z1,z2,z3])) (hk:xs.length=m * 4) :
  (w4.cell? ⟨g,m * 4,none⟩=some z0∧w4.cell? ⟨g,m * 4+1,none⟩=some z1∧w4.cell? ⟨g,m * 4+2,none⟩=some z2∧w4.cell? ⟨g,m * 4+3,none⟩=some z3)∧∀ j,w4.frozen? ⟨g,j,none⟩=false:=by
 refine⟨⟨?_, ?_, ?_, ?_⟩,fun j=>h.frozenAt j⟩
 ·rw[h.cellAt (m * 4) (by omega),List.getElem?_append_right (by omega),hk];simp
 ·rw[h.cellAt (m * 4+1) (by omega),List.getElem?_append_right (by omega),hk,Nat.add_sub_cancel_left];rfl
 ·rw[h.cellAt (m * 4+2) (by omega),List.getElem?_append_right (by omega),hk,Nat.add_sub_cancel_left];rfl
 ·rw[h.cellAt (m * 4+3) (by omega),List.getElem?_append_right (by omega),hk,Nat.add_sub_cancel_left];rfl
theorem flat4 {es:List (List Value)} (h:∀ e∈es,e.length=4) {m:Nat} (hm:es.length=m):es.flatten.length=m * 4:=by
 rw[flat_len 4 es h,hm]
abbrev zObj:Obj:=.cells #[.int .u8 0, .string ⟨#[]⟩, .int .i64 0, .slice none 0 0] 92
abbrev vObj (q2:Nat) (T2:ByteArray) (g2:Nat) (a2:Option Addr) (n2 c2:Nat):Obj:=.cells #[.int .u8 q2, .string T2, .int .i64 g2, .slice a2 n2 c2] 92
theorem app_below {wr wx w4:World} {base m c:Nat} {a:Option Addr} {xs:List Value} {T:TypeId} {k:Nat} (hb:base≤wr.heap.size) (ho:wr.ownsRow base T k (.slice a m c) m xs) (hx:Below wr.heap.size wr wx) (hg:wx.grownBy w4 (Value.slice a m c).ownBlock):Below base wr w4 :=
 (hx.mono hb).trans (below_grown2 hg (fun g h=>(owns_lt ho g h).1) (Nat.le_trans hb hx.size))
theorem step_app_zero {ops:Array Oper} {o:Oper} {act:Act} {K:Act→World→Prop} {Q:Exit→Act→World→Prop} {E:Prop} {wr wx:World} {base m c:Nat} {a:Option Addr} {es:List (List Value)} (s x:Operand) (hgd:o.guard=none) (ho:o.op=.call { callee:=.builtin .append,args:=#[s,x],argTypes:=#[90,90] })
  (hb:base≤wr.heap.size) (hown:wr.ownsRow base 92 4 (.slice a m c) m es.flatten) (hm1:m≤1000) (hfl:es.flatten.length=m * 4) (hx:Below wr.heap.size wr wx) {zb:Nat} (hz:wx.heap[zb]? = some zObj) (hs:act.eval s=.slice a m c) (hx2:act.eval x=.slice (some ⟨zb,0,none⟩) 1 1)
  (h:∀ g cap w4,w4.ownsRow base 92 4 (.slice (some ⟨g,0,none⟩) (m+1) cap) (m+1) (es.flatten++[.int .u8 0,tx [], .int .i64 0, .slice none 0 0])→wx.grownBy w4 (Value.slice a m c).ownBlock→((Value.slice a m c).ownBlock=some g∨g=wx.heap.size) →
   (w4.cell? ⟨g,m * 4,none⟩=some (.int .u8 0)∧w4.cell? ⟨g,m * 4+1,none⟩=some (.string ⟨#[]⟩)∧w4.cell? ⟨g,m * 4+2,none⟩=some (.int .i64 0)∧w4.cell? ⟨g,m * 4+3,none⟩=some (.slice none 0 0))→(∀ j,w4.frozen? ⟨g,j,none⟩=false)→Below base wr w4→base≤g→g<w4.heap.size→K (act.put o.dst (.slice (some ⟨g,0,none⟩) (m+1) cap)) w4) :
  if Region.wanted o (yielded ops act.tmps)=true then Oper.wp Tryz.prog o act wx K Q else E:=by
 obtain⟨i0,hi0,hz0,hz1,hz2⟩:=info_parts info_val
 have hwx:=owns_below hown hx
 refine step_append_lies wx hgd s x 90 ho base 92 i0 (.agg #[.int .u8 0,tx [], .int .i64 0, .slice none 0 0]) 4 56 Tryz.underlying90 hi0 hz0 hz1 hz2 rfl (by decide) (.slice a m c) m _ hs hwx ⟨zb,0,none⟩ 1 1 [.int .u8 0,tx [], .int .i64 0, .slice none 0 0] hx2 rfl (World.news_of_block hz) (one4v 0 0 0 0 ⟨#[]⟩ none) (by decide) (by unfold maxLen;omega) (by omega) (Nat.le_trans hb hx.size) _ rfl fun g cap w4 h1 h2 h3 h4 => ?_
 obtain⟨r,rf⟩:=row4 h1 hfl
 exact h g cap w4 h1 h2 h3 r rf (app_below hb hown hx h2) (owns_lt h1 g rfl).1 h4
theorem PB.zput {w wr:World} {vb base:Nat} {a:Option Addr} {c:Nat} {l:List Wf.V} {es:List (List Value)} (h:PB w wr vb base a c l es) {m:Nat} (hm:es.length=m) {q:Nat} (q1:w.heap.size≤q) (q2:q≠vb) (q3:q<base) {wx w4 w5:World} (hx:Below wr.heap.size wr wx)
  (hg:wx.grownBy w4 (Value.slice a m c).ownBlock) {g cap:Nat} (ho:w4.ownsRow base 92 4 (.slice (some ⟨g,0,none⟩) (m+1) cap) (m+1) (es.flatten++[.int .u8 0,tx [], .int .i64 0, .slice none 0 0])) (hat:(Value.slice a m c).ownBlock=some g∨g=wx.heap.size)
  (h5:Below w4.heap.size w4 w5) {c0 c1 c2 c3:Value} {v:Wf.V} (hvc:VC w5 (fun b=>b<w.heap.size∨(base≤b∧b≠g)) v [c0,c1,c2,c3]) :
  PB w (((((w5.setCell ⟨g,m * 4,none⟩ c0).setCell ⟨g,m * 4+1,none⟩ c1).setCell ⟨g,m * 4+2,none⟩ c2).setCell ⟨g,m * 4+3,none⟩ c3).setCell ⟨vb,3,none⟩ (.slice (some ⟨g,0,none⟩) (m+1) cap)) vb base (some ⟨g,0,none⟩) cap (l++[v]) (es++[[c0,c1,c2,c3]]):=by
 subst hm
 have hb5:=beside_set4 w5 g (es.length * 4) c0 c1 c2 c3
 have hgb:=(owns_lt ho g rfl).1
 have hvw:=h.vw
 have hvl:=h.vlt
 refine h.put2 (Beside.of_below hx (Nat.le_refl _)) q1 q2 q3 hg ((Beside.of_below h5 (Nat.le_refl _)).trans hb5.1) (VC.keep (fun b hp hlt=>⟨hp,hb5.1.block b hlt ?_⟩) hb5.1.size _ _ hvc) (own_set4 (owns_below ho h5) (flat4 h.he rfl) c0 c1 c2 c3) hat
 rcases hp with hp|hp
 ·omega
 ·exact hp.2
section
variable (tb db vb fx xb:Nat) (wr:World)
set_option maxRecDepth 20000 in
theorem add_no (told done:Bool) (h:(told && !done)=false) (c0:wr.cell? ⟨tb,0,none⟩=some (.bool told)) (c1:wr.cell? ⟨db,0,none⟩=some (.bool done)) (f1:wr.frozen? ⟨db,0,none⟩=false) (ht:tb<wr.heap.size) (hd:db<wr.heap.size) :
  Calls Tryz.prog 99 #[ptr tb,ptr db,ptr vb,ptr fx,ptr xb] wr fun e w'=>e=.returned (.tuple #[])∧w'=wr.setCell ⟨db,0,none⟩ (.bool true):=by
 cases told <;> cases done
 all_goals first|exact absurd h (by decide)|(go_enter Tryz.func99,Tryz.ntmps99;go_wp2_with fail;go_end0;exact⟨rfl,rfl⟩)
end
end Go.Proofs.YtmdacedmjbiekaaGreatDoor
