/- Packed by pack.py: Dx Dy Dz Eb. -/
import Derived.Test.YtmdacedmjbiekaaGreatDoorQ47
import Derived.Deep.AppendLies
import Derived.Deep.RegionLaw
import Derived.Deep.WholeRow
import Derived.Deep.DeepCutAuto
import Derived.Test.YtmdacedmjbiekaaGreatDoorQ32
import Derived.Test.YtmdacedmjbiekaaGreatDoorQ41
namespace Go.Proofs.YtmdacedmjbiekaaGreatDoor
open Go.ChangeShapes Go.WideShapes Go.ChangeAt Go.RowKit Go.Lib
set_option linter.unusedVariables false
set_option linter.unusedSimpArgs false
theorem KB.put2 {w wr:World} {vb base m c:Nat} {a:Option Addr} {l:List Wf.V} {bs:List Nat} (h:KB w wr vb base a m c l bs) {wx w4:World} (hs:KB w wx vb base a m c l bs) (hg:wx.grownBy w4 (Value.slice a m c).ownBlock) {g cap b:Nat} {u:Wf.V}
  (ho:w4.ownsRow base 96 1 (.slice (some ⟨g,0,none⟩) (m+1) cap) (m+1) (bs.map ptr++[ptr b])) (hat:(Value.slice a m c).ownBlock=some g∨g=wx.heap.size) (hv:LV wx (fun y=>wr.heap.size≤y) u b) :
  KB w (w4.setCell ⟨vb,3,none⟩ (.slice (some ⟨g,0,none⟩) (m+1) cap)) vb base (some ⟨g,0,none⟩) (m+1) cap (l++[u]) (bs++[b]):=by
 have hlo:=owns_lt hs.own
 have hlo0:=owns_lt h.own
 have hB:Below base wx w4:=below_grown2 hg (fun g hgk=>(hlo g hgk).1) hs.sz
 have hss:(w4.setCell ⟨vb,3,none⟩ (.slice (some ⟨g,0,none⟩) (m+1) cap)).heap.size=w4.heap.size:=by simp
 have c3:=(hB.cell (p:=⟨vb,3,none⟩) h.lt).trans hs.v3
 have hloc:(Value.slice (some ⟨g,0,none⟩) (m+1) cap).ownBlock=(Value.slice a m c).ownBlock∨(Value.slice (some ⟨g,0,none⟩) (m+1) cap).ownBlock=some wx.heap.size:=by
  rcases hat with hat|hat
  ·exact .inl hat.symm
  ·exact .inr (by rw[← hat];rfl)
 have hl:=h.lt
 have hkeep:∀ y,base≤y→y<wx.heap.size→some y≠(Value.slice a m c).ownBlock→some y≠(Value.slice (some ⟨g,0,none⟩) (m+1) cap).ownBlock∧(w4.setCell ⟨vb,3,none⟩ (.slice (some ⟨g,0,none⟩) (m+1) cap)).heap[y]? = wx.heap[y]?:=fun y hy1 hy2 hy3=>by
  obtain⟨e1,e2⟩:=apart_step hg hloc hy2 hy3
  refine⟨e2, ?_⟩
  rw[Below.heap_setCell w4 ⟨vb,3,none⟩ _ _ (by show y≠vb;omega)]
  exact e1
 refine⟨h.lt,h.le,by rw[hss];exact Nat.le_trans hs.sz hB.size,World.cell?_setCell_same w4 _ _ c3, ?_, ?_,by rw[List.length_append,h.hl];rfl,LVs.snoc ?_ ?_⟩
 ·have:=(hB.frozen (p:=⟨vb,3,none⟩) h.lt).trans hs.f3
  simpa using this
 ·rw[List.map_append]
  exact ownsRow_setCell_below ho h.lt _
 ·exact LV.keep (fun y hp hlt=>by
   have hb1:base≤y:=Nat.le_trans h.sz hp
   have hb3:some y≠(Value.slice a m c).ownBlock:=fun he=>by
    have h5:=(hlo0 y he.symm).2
    have h6:wr.heap.size≤y:=hp
    omega
   obtain⟨e1,e2⟩:=hkeep y hb1 hlt hb3
   exact⟨⟨hb1,e1⟩,e2⟩) (by rw[hss];exact hB.size) _ _ hv
 ·exact LVs.keep (fun y hp hlt=>by
   obtain⟨e1,e2⟩:=hkeep y hp.1 hlt hp.2
   exact⟨⟨hp.1,e1⟩,e2⟩) (by rw[hss];exact hB.size) _ _ hs.vals
theorem KB.val {w wr:World} {vb base m c:Nat} {a:Option Addr} {l:List Wf.V} {bs:List Nat} {KT:ByteArray} {what:UInt8} (h:KB w wr vb base a m c l bs) (h61:what≠61) (h0:wr.cell? ⟨vb,0,none⟩=some (.string KT)) (h1:wr.cell? ⟨vb,1,none⟩=some (.string ⟨#[]⟩)) (h2:wr.cell? ⟨vb,2,none⟩=some (.slice none 0 0)) (hs:shapeR what [] KT.data.toList []) (ht:tagsOf what 0 l=[]):LV wr (fun y=>w.heap.size≤y) (.mk what [] 0 l) vb:=by
 have hbl:(bs.map ptr).length=m:=by rw[List.length_map,h.hl]
 obtain⟨b,hb,hrow⟩:=RowAt.of_owns (xs:=bs.map ptr) (by rw[hbl];exact h.own)
 have e1:=h.lt
 have e3:=h.le
 have e4:=h.sz
 exact LV.mk (kd:=KT.data.toList) (t:=[]) (tb:=0) (kb:=b) (bs:=bs) h61 e3 (by omega) h0 h1 h2 h.v3 (by rw[ht];exact row_nil _ _) (.inl ht) hrow (.inr (by omega)) hs (LVs.keep (fun y hp hlt=>⟨by have:=hp.1;omega,rfl⟩) (Nat.le_refl _) _ _ h.vals)
theorem beside_low {rb B:Nat} {w w3 w4:World} (h:Beside rb w w3) (hb:Below B w3 w4) (hB:w.heap.size≤B):Beside rb w w4 :=
 ⟨hb.os.trans h.os,hb.tape.trans h.tape,hb.output.trans h.output,Nat.le_trans h.size hb.size,fun k hk hr=>(hb.block k (by omega)).trans (h.block k hk hr)⟩
theorem step_app_ptr {ops:Array Oper} {o:Oper} {act:Act} {K:Act→World→Prop} {Q:Exit→Act→World→Prop} {E:Prop} {wx:World} {base m c:Nat} {a:Option Addr} {xs:List Value} {p:Nat} (s x:Operand) (hgd:o.guard=none) (ho:o.op=.call { callee:=.builtin .append,args:=#[s,x],argTypes:=#[140,140] })
  (hb:base≤wx.heap.size) (hown:wx.ownsRow base 96 1 (.slice a m c) m xs) (hm1:m≤1000) {zb:Nat} (hz:wx.heap[zb]? = some (.cells #[ptr p] 96)) (hs:act.eval s=.slice a m c) (hx2:act.eval x=.slice (some ⟨zb,0,none⟩) 1 1)
  (h:∀ g cap w4,w4.ownsRow base 96 1 (.slice (some ⟨g,0,none⟩) (m+1) cap) (m+1) (xs++[ptr p])→wx.grownBy w4 (Value.slice a m c).ownBlock→((Value.slice a m c).ownBlock=some g∨g=wx.heap.size)→Below base wx w4→K (act.put o.dst (.slice (some ⟨g,0,none⟩) (m+1) cap)) w4) :
  if Region.wanted o (yielded ops act.tmps)=true then Oper.wp Tryz.prog o act wx K Q else E:=by
 obtain⟨i0,hi0,hz0,hz1,hz2⟩:=info_parts info_ptrV
 refine step_append_lies wx hgd s x 140 ho base 96 i0 (.pointer none) 1 8 Tryz.underlying140 hi0 hz0 hz1 hz2 rfl (by decide) (.slice a m c) m _ hs hown ⟨zb,0,none⟩ 1 1 [ptr p] hx2 rfl (World.news_of_block hz) (one_ptr _) (by decide) (by unfold maxLen;omega) (by omega) hb _ rfl fun g cap w4 h1 h2 h3 h4 => ?_
 exact h g cap w4 h1 h2 h3 (below_grown2 h2 (fun g hg=>(owns_lt hown g hg).1) hb)
section
variable (x:Wf.Sc) (v:Value) (rb lo bsc:Nat) (d:Int)
end

section
variable (x:Wf.Sc) (v:Value) (rb lo bsc:Nat) (d:Int)
end

def FdsAt (rb:Nat) (w:World) (fb o:Nat) (t:Wf.Ty):Prop:=fb<w.heap.size∧fb≠rb∧∀ i (hi:i<t.fields.length) j u,(fdS t.sort t.fields[i])[j]? = some u→w.cell? ⟨fb,o+i * 4+j,none⟩=some u
theorem FdsAt.beside {rb:Nat} {w w':World} {fb o:Nat} {t:Wf.Ty} (h:FdsAt rb w fb o t) (hb:Beside rb w w'):FdsAt rb w' fb o t :=
 ⟨Nat.lt_of_lt_of_le h.1 hb.size,h.2.1,fun i hi j u hu=>(hb.cell (p:=⟨fb,o+i * 4+j,none⟩) h.1 h.2.1).trans (h.2.2 i hi j u hu)⟩
theorem FdsAt.field {rb:Nat} {w:World} {fb o:Nat} {t:Wf.Ty} (h:FdsAt rb w fb o t) {i:Nat} (hi:i<t.fields.length) (h69:t.sort≠69):fb<w.heap.size∧w.cell? ⟨fb,o+i * 4,none⟩=some (.int .i64 (t.fields[i]).tag)∧w.cell? ⟨fb,o+i * 4+1,none⟩=some (tx (t.fields[i]).name)∧w.cell? ⟨fb,o+i * 4+2,none⟩=some (tx (t.fields[i]).kind.text)∧w.cell? ⟨fb,o+i * 4+3,none⟩=some (tx (t.fields[i]).given):=by
 have h3:=h.2.2 i hi
 unfold fdS at h3
 rw[if_neg h69] at h3
 exact⟨h.1,h3 0 _ rfl,h3 1 _ rfl,h3 2 _ rfl,h3 3 _ rfl⟩
structure TyB (w wr:World) (tb vb:Nat) (KT T1:ByteArray) (q:Nat) (fv:Value):Prop where
 tle:w.heap.size≤tb
 vle:w.heap.size≤vb
 tlt:tb<wr.heap.size
 vlt:vb<wr.heap.size
 ne:tb≠vb
 t0:wr.cell? ⟨tb,0,none⟩=some (.int .u8 q)
 t2:wr.cell? ⟨tb,2,none⟩=some fv
 v0:wr.cell? ⟨vb,0,none⟩=some (.string KT)
 v1:wr.cell? ⟨vb,1,none⟩=some (.string T1)
 v2:wr.cell? ⟨vb,2,none⟩=some (.slice none 0 0)
 v3:wr.cell? ⟨vb,3,none⟩=some (.slice none 0 0)
 f2:wr.frozen? ⟨vb,2,none⟩=false
 f3:wr.frozen? ⟨vb,3,none⟩=false
theorem TyB.beside {w wr w2:World} {rb tb vb q:Nat} {KT T1:ByteArray} {fv:Value} (h:TyB w wr tb vb KT T1 q fv) (hr:rb<w.heap.size) (hb:Beside rb wr w2):TyB w w2 tb vb KT T1 q fv:=by
 have n1:tb≠rb:=by have:=h.tle;omega
 have n2:vb≠rb:=by have:=h.vle;omega
 exact⟨h.tle,h.vle,Nat.lt_of_lt_of_le h.tlt hb.size,Nat.lt_of_lt_of_le h.vlt hb.size,h.ne,(hb.cell (p:=⟨tb,0,none⟩) h.tlt n1).trans h.t0,(hb.cell (p:=⟨tb,2,none⟩) h.tlt n1).trans h.t2,(hb.cell (p:=⟨vb,0,none⟩) h.vlt n2).trans h.v0,(hb.cell (p:=⟨vb,1,none⟩) h.vlt n2).trans h.v1,(hb.cell (p:=⟨vb,2,none⟩) h.vlt n2).trans h.v2,(hb.cell (p:=⟨vb,3,none⟩) h.vlt n2).trans h.v3,(hb.frozen (p:=⟨vb,2,none⟩) h.vlt n2).trans h.f2,(hb.frozen (p:=⟨vb,3,none⟩) h.vlt n2).trans h.f3⟩
theorem TyB.enm {w w4:World} {rb tb vb k G:Nat} {KT:ByteArray} {fv:Value} (h:TyB w w4 tb vb KT ⟨#[69]⟩ 69 fv) (hr:rb<w.heap.size) (hk:KT.data.toList.head? = some 64) (hb:Beside rb w w4) (hrd:Rd w4 rb k) :
  LV ((w4.setCell ⟨vb,2,none⟩ (.slice (some ⟨w4.heap.size,0,none⟩) 1 1)).alloc (.cells #[.int .i64 G] 3)) (fun z=>w.heap.size≤z) (.mk 69 [] G []) vb∧Rd ((w4.setCell ⟨vb,2,none⟩ (.slice (some ⟨w4.heap.size,0,none⟩) 1 1)).alloc (.cells #[.int .i64 G] 3)) rb k∧Beside rb w ((w4.setCell ⟨vb,2,none⟩ (.slice (some ⟨w4.heap.size,0,none⟩) 1 1)).alloc (.cells #[.int .i64 G] 3)):=by
 have hl:=h.vlt
 have hv:=h.vle
 obtain⟨W5,hW5⟩:∃ W5,w4.setCell ⟨vb,2,none⟩ (.slice (some ⟨w4.heap.size,0,none⟩) 1 1)=W5:=⟨_,rfl⟩
 have hs:W5.heap.size=w4.heap.size:=by rw[← hW5];simp
 have cc:=fun(j:Nat) u (hj:j≠2) (c:w4.cell? ⟨vb,j,none⟩=some u)=>(show W5.cell? ⟨vb,j,none⟩=some u by rw[← hW5];exact(World.cell?_setCell_other w4 ⟨vb,2,none⟩ ⟨vb,j,none⟩ (.slice (some ⟨w4.heap.size,0,none⟩) 1 1) (by simp <;> omega)).trans c)
 have c2:W5.cell? ⟨vb,2,none⟩=some (.slice (some ⟨W5.heap.size,0,none⟩) 1 1):=by rw[hs,← hW5];exact World.cell?_setCell_same _ _ _ h.v2
 have hB:Below w.heap.size w4 W5:=by rw[← hW5];exact(Below.refl _ w4).setCell hv _
 rw[hW5]
 have hB6:=hB.alloc (by rw[hs];exact hb.size) (.cells #[.int .i64 (G:Int)] 3)
 have aa:=fun(j:Nat) u (c:W5.cell? ⟨vb,j,none⟩=some u)=>(World.cell?_alloc_lt W5 (.cells #[.int .i64 (G:Int)] 3) ⟨vb,j,none⟩ (by rw[hs];exact hl)).trans c
 exact⟨LV.enm hv (by rw[hs];exact hb.size) (by simp;omega) (by simp) hk (aa 0 _ (cc 0 _ (by decide) h.v0)) (aa 1 _ (cc 1 _ (by decide) h.v1)) (aa 2 _ c2) (aa 3 _ (cc 3 _ (by decide) h.v3)) (by simp[go_sem]) (by simp[go_sem]),hrd.below hB6 hr,beside_low hb hB6 (Nat.le_refl _)⟩
section
variable (x:Wf.Sc) (v:Value) (rb lo bsc:Nat)
end
section
variable (x:Wf.Sc) (v:Value) (rb lo bsc:Nat) (d:Int)
end

theorem step_app_int {ops:Array Oper} {o:Oper} {act:Act} {K:Act→World→Prop} {Q:Exit→Act→World→Prop} {E:Prop} {wx:World} {base m c:Nat} {a:Option Addr} {xs:List Value} {G:Nat} (s x:Operand) (hgd:o.guard=none) (ho:o.op=.call { callee:=.builtin .append,args:=#[s,x],argTypes:=#[139,139] })
  (hb:base≤wx.heap.size) (hown:wx.ownsRow base 3 1 (.slice a m c) m xs) (hm1:m≤1000) {zb:Nat} (hz:wx.heap[zb]? = some (.cells #[.int .i64 G] 3)) (hs:act.eval s=.slice a m c) (hx2:act.eval x=.slice (some ⟨zb,0,none⟩) 1 1)
  (h:∀ g cap w4,w4.ownsRow base 3 1 (.slice (some ⟨g,0,none⟩) (m+1) cap) (m+1) (xs++[ix G])→wx.grownBy w4 (Value.slice a m c).ownBlock→((Value.slice a m c).ownBlock=some g∨g=wx.heap.size)→Below base wx w4→K (act.put o.dst (.slice (some ⟨g,0,none⟩) (m+1) cap)) w4) :
  if Region.wanted o (yielded ops act.tmps)=true then Oper.wp Tryz.prog o act wx K Q else E:=by
 obtain⟨i0,hi0,hz0,hz1,hz2⟩:=info_parts info_int
 refine step_append_lies wx hgd s x 139 ho base 3 i0 (.int .i64 0) 1 8 Tryz.underlying139 hi0 hz0 hz1 hz2 rfl (by decide) (.slice a m c) m _ hs hown ⟨zb,0,none⟩ 1 1 [.int .i64 G] hx2 rfl (World.news_of_block hz) (by intro u hu;rw[List.mem_singleton.1 hu];rfl) (by decide) (by unfold maxLen;omega) (by omega) hb _ rfl fun g cap w4 h1 h2 h3 h4 => ?_
 exact h g cap w4 h1 h2 h3 (below_grown2 h2 (fun g hg=>(owns_lt hown g hg).1) hb)
theorem list_app_ptr {ops:Array Oper} {rest:List Oper} {o:Oper} {act:Act} {Q:Exit→Act→World→Prop} {wx:World} {base m c:Nat} {a:Option Addr} {xs:List Value} {p:Nat} (s x:Operand) (hgd:o.guard=none) (ho:o.op=.call { callee:=.builtin .append,args:=#[s,x],argTypes:=#[140,140] })
  (hb:base≤wx.heap.size) (hown:wx.ownsRow base 96 1 (.slice a m c) m xs) (hm1:m≤1000) {zb:Nat} (hz:wx.heap[zb]? = some (.cells #[ptr p] 96)) (hs:act.eval s=.slice a m c) (hx2:act.eval x=.slice (some ⟨zb,0,none⟩) 1 1)
  (h:∀ g cap w4,w4.ownsRow base 96 1 (.slice (some ⟨g,0,none⟩) (m+1) cap) (m+1) (xs++[ptr p])→wx.grownBy w4 (Value.slice a m c).ownBlock→((Value.slice a m c).ownBlock=some g∨g=wx.heap.size)→Below base wx w4→wpList Tryz.prog ops Q rest (act.put o.dst (.slice (some ⟨g,0,none⟩) (m+1) cap)) w4) :
  wpList Tryz.prog ops Q (o::rest) act wx:=by
 obtain⟨i0,hi0,hz0,hz1,hz2⟩:=info_parts info_ptrV
 refine wpList_append_lies wx hgd s x 140 ho base 96 i0 (.pointer none) 1 8 Tryz.underlying140 hi0 hz0 hz1 hz2 rfl (by decide) (.slice a m c) m _ hs hown ⟨zb,0,none⟩ 1 1 [ptr p] hx2 rfl (World.news_of_block hz) (one_ptr _) (by decide) (by unfold maxLen;omega) (by omega) hb _ rfl fun g cap w4 h1 h2 h3 h4 => ?_
 exact h g cap w4 h1 h2 h3 (below_grown2 h2 (fun g hg=>(owns_lt hown g hg).1) hb)
structure RW (w wr:World) (rb tb vb:Nat) (fv:Value) (KT:ByteArray) (k:Nat) (ta:Option Addr) (mt tc:Nat) (a:Option Addr) (m c:Nat) (gs:List Nat) (l:List Wf.V) (bs:List Nat):Prop where
 rr:RB w wr vb (vb+1) ta mt tc a m c gs l bs
 bes:Beside rb w wr
 rd:Rd wr rb k
 tl:tb<vb
 tle:w.heap.size≤tb
 t2:wr.cell? ⟨tb,2,none⟩=some fv
 v0:wr.cell? ⟨vb,0,none⟩=some (.string KT)
 v1:wr.cell? ⟨vb,1,none⟩=some (.string ⟨#[82]⟩)
section
variable {w wr:World} {rb tb vb k mt tc m c:Nat} {fv:Value} {KT:ByteArray} {ta a:Option Addr} {gs:List Nat} {l:List Wf.V} {bs:List Nat}
theorem RW.low (h:RW w wr rb tb vb fv KT k ta mt tc a m c gs l bs) (hr:rb<w.heap.size) {wx w4:World} (hx:Below wr.heap.size wr wx) (h4:Below (vb+1) wx w4) (j:Nat) (hj:2≤j) (S:Value) {ta' a':Option Addr} {mt' tc' m' c':Nat} {gs' bs':List Nat} {l':List Wf.V} (hb:RB w (w4.setCell ⟨vb,j,none⟩ S) vb (vb+1) ta' mt' tc' a' m' c' gs' l' bs'):RW w (w4.setCell ⟨vb,j,none⟩ S) rb tb vb fv KT k ta' mt' tc' a' m' c' gs' l' bs':=by
 have h1:=h.rr.le
 have h3:=h.rr.sz
 have hB1:Below (vb+1) wr w4:=(hx.mono h3).trans h4
 have hB:Below w.heap.size wr (w4.setCell ⟨vb,j,none⟩ S):=(hB1.mono (by omega)).setCell h1 _
 have h5:=h.tl
 exact⟨hb,beside_low h.bes hB (Nat.le_refl _),h.rd.below hB hr,h.tl,h.tle,(World.cell?_setCell_other w4 _ _ _ (by simp <;> omega)).trans ((hB1.cell (p:=⟨tb,2,none⟩) (by show tb<vb+1;omega)).trans h.t2),(World.cell?_setCell_other w4 _ _ _ (by simp <;> omega)).trans ((hB1.cell (p:=⟨vb,0,none⟩) (by show vb<vb+1;omega)).trans h.v0),(World.cell?_setCell_other w4 _ _ _ (by simp <;> omega)).trans ((hB1.cell (p:=⟨vb,1,none⟩) (by show vb<vb+1;omega)).trans h.v1)⟩
theorem RW.tag {w5:World} {k5:Nat} (h0:RW w wr rb tb vb fv KT k ta mt tc a m c gs l bs) (h:RW w w5 rb tb vb fv KT k5 ta mt tc a m c gs l bs) (hr:rb<w.heap.size) {wx w6:World} {g cap G p:Nat} {u:Wf.V} (hv:LV w5 (fun z=>wr.heap.size≤z) u p) (hx:Below w5.heap.size w5 wx)
  (hg:wx.grownBy w6 (Value.slice ta mt tc).ownBlock) (ho:w6.ownsRow (vb+1) 3 1 (.slice (some ⟨g,0,none⟩) (mt+1) cap) (mt+1) (gs.map ix++[ix G])) (hat:(Value.slice ta mt tc).ownBlock=some g∨g=wx.heap.size) :
  RW w (w6.setCell ⟨vb,2,none⟩ (.slice (some ⟨g,0,none⟩) (mt+1) cap)) rb tb vb fv KT k5 (some ⟨g,0,none⟩) (mt+1) cap a m c (gs++[G]) l bs∧LV (w6.setCell ⟨vb,2,none⟩ (.slice (some ⟨g,0,none⟩) (mt+1) cap)) (fun y=>vb+1≤y∧some y≠(Value.slice a m c).ownBlock∧some y≠(Value.slice (some ⟨g,0,none⟩) (mt+1) cap).ownBlock) u p:=by
 obtain⟨r1,r2⟩:=h.rr.putT hx hg ho hat
 have hs:=h.rr.step hx
 have hB:Below (vb+1) wx w6:=below_grown2 hg (fun y hy=>(owns_lt hs.ownT y hy).1) hs.sz
 have h3:=h0.rr.sz
 refine⟨h.low hr hx hB 2 (by decide) _ r1,LV.keep (fun y hp hlt => ?_) (by simpa using hB.size) _ _ (hv.below hx)⟩
 have hy:wr.heap.size≤y:=hp
 have n1:some y≠(Value.slice a m c).ownBlock:=fun e=>by have:=(owns_lt h0.rr.ownK y e.symm).2;omega
 have n2:some y≠(Value.slice ta mt tc).ownBlock:=fun e=>by have:=(owns_lt h0.rr.ownT y e.symm).2;omega
 obtain⟨q1,q2⟩:=r2 y (by omega) hlt n1 n2
 exact⟨⟨by omega,n1,q1⟩,q2⟩
end
end Go.Proofs.YtmdacedmjbiekaaGreatDoor
