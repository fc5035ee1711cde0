/- Packed by pack.py: Xi. -/
import Derived.Test.YtmdacedmjbiekaaGreatDoorR29
import Derived.Test.YtmdacedmjbiekaaGreatDoorR16
import Derived.Test.YtmdacedmjbiekaaGreatDoorR17
import Derived.Test.YtmdacedmjbiekaaGreatDoorR32
namespace Go.Proofs.YtmdacedmjbiekaaGreatDoor
open Go.ChangeShapes Go.WideShapes Go.ChangeAt Go.RowKit Go.Lib
set_option linter.unusedVariables false
set_option linter.unusedSimpArgs false
theorem LVs.snoc {W : World} {P : Nat → Prop} {u : Wf.V} {b : Nat} (hu : LV W P u b) : ∀ {l : List Wf.V} {bs : List Nat},LVs W P l bs → LVs W P (l ++ [u]) (bs ++ [b]):=by
  intro l
  induction l with
  | nil =>
    intro bs h
    obtain rfl:=h.none
    simp only [List.nil_append,LVs]
    exact ⟨b,[],rfl,hu,rfl⟩
  | cons v l ih =>
    intro bs h
    simp only [LVs] at h
    obtain ⟨b',bs',rfl,h1,h2⟩:=h
    simp only [List.cons_append,LVs]
    exact ⟨b',_,rfl,h1,ih h2⟩
structure KB (w wr : World) (vb base : Nat) (a : Option Addr) (m c : Nat) (l : List Wf.V) (bs : List Nat) : Prop where
  lt : vb < base
  le : w.heap.size ≤ vb
  sz : base ≤ wr.heap.size
  v3 : wr.cell? ⟨vb,3,none⟩ = some (.slice a m c)
  f3 : wr.frozen? ⟨vb,3,none⟩ = false
  own : wr.ownsRow base 96 1 (.slice a m c) m (bs.map ptr)
  hl : bs.length = m
  vals : LVs wr (fun y => base ≤ y ∧ some y ≠ (Value.slice a m c).ownBlock) l bs
theorem KB.step {w wr w2 : World} {vb base m c : Nat} {a : Option Addr} {l : List Wf.V} {bs : List Nat} (h : KB w wr vb base a m c l bs) (hb : Below wr.heap.size wr w2) : KB w w2 vb base a m c l bs:=by
  have hv : vb < wr.heap.size:=Nat.lt_of_lt_of_le h.lt h.sz
  exact ⟨h.lt,h.le,Nat.le_trans h.sz hb.size,(hb.cell (p:=⟨vb,3,none⟩) hv).trans h.v3,(hb.frozen (p:=⟨vb,3,none⟩) hv).trans h.f3,owns_below h.own hb,h.hl,LVs.keep (fun y hy hlt => ⟨hy,hb.block y hlt⟩) hb.size _ _ h.vals⟩
theorem KB.put {w wr : World} {vb base m c : Nat} {a : Option Addr} {l : List Wf.V} {bs : List Nat} (h : KB w wr vb base a m c l bs) {wx w4 : World} (hx : Below wr.heap.size wr wx) (hg : wx.grownBy w4 (Value.slice a m c).ownBlock) {g cap b : Nat} {u : Wf.V}
    (ho : w4.ownsRow base 96 1 (.slice (some ⟨g,0,none⟩) (m + 1) cap) (m + 1) (bs.map ptr ++ [ptr b])) (hat : (Value.slice a m c).ownBlock = some g ∨ g = wx.heap.size) (hv : LV wx (fun y => wr.heap.size ≤ y) u b) :
    KB w (w4.setCell ⟨vb,3,none⟩ (.slice (some ⟨g,0,none⟩) (m + 1) cap)) vb base (some ⟨g,0,none⟩) (m + 1) cap (l ++ [u]) (bs ++ [b]):=by
  have hs:=h.step hx
  have hlo:=owns_lt hs.own
  have hlo0:=owns_lt h.own
  have hB : Below base wx w4:=below_grown2 hg (fun g hgk => (hlo g hgk).1) hs.sz
  have hss : (w4.setCell ⟨vb,3,none⟩ (.slice (some ⟨g,0,none⟩) (m + 1) cap)).heap.size = w4.heap.size:=by simp
  have c3:=(hB.cell (p:=⟨vb,3,none⟩) h.lt).trans hs.v3
  have hloc : (Value.slice (some ⟨g,0,none⟩) (m + 1) cap).ownBlock = (Value.slice a m c).ownBlock ∨ (Value.slice (some ⟨g,0,none⟩) (m + 1) cap).ownBlock = some wx.heap.size:=by
    rcases hat with hat | hat
    · exact .inl hat.symm
    · exact .inr (by rw [← hat];rfl)
  have hl:=h.lt
  have hkeep : ∀ y,base ≤ y → y < wx.heap.size → some y ≠ (Value.slice a m c).ownBlock → some y ≠ (Value.slice (some ⟨g,0,none⟩) (m + 1) cap).ownBlock ∧ (w4.setCell ⟨vb,3,none⟩ (.slice (some ⟨g,0,none⟩) (m + 1) cap)).heap[y]? = wx.heap[y]?:=fun y hy1 hy2 hy3 => by
    obtain ⟨e1,e2⟩:=apart_step hg hloc hy2 hy3
    refine ⟨e2, ?_⟩
    rw [Below.heap_setCell w4 ⟨vb,3,none⟩ _ _ (by show y ≠ vb;omega)]
    exact e1
  refine ⟨h.lt,h.le,by rw [hss];exact Nat.le_trans hs.sz hB.size,World.cell?_setCell_same w4 _ _ c3, ?_, ?_,by rw [List.length_append,h.hl];rfl,LVs.snoc ?_ ?_⟩
  · have:=(hB.frozen (p:=⟨vb,3,none⟩) h.lt).trans hs.f3
    simpa using this
  · rw [List.map_append]
    exact ownsRow_setCell_below ho h.lt _
  · exact LV.keep (fun y hp hlt => by
      have hb1 : base ≤ y:=Nat.le_trans h.sz hp
      have hb3 : some y ≠ (Value.slice a m c).ownBlock:=fun he => by
        have h5:=(hlo0 y he.symm).2
        have h6 : wr.heap.size ≤ y:=hp
        omega
      obtain ⟨e1,e2⟩:=hkeep y hb1 hlt hb3
      exact ⟨⟨hb1,e1⟩,e2⟩) (by rw [hss];exact hB.size) _ _ hv
  · exact LVs.keep (fun y hp hlt => by
      obtain ⟨e1,e2⟩:=hkeep y hp.1 hlt hp.2
      exact ⟨⟨hp.1,e1⟩,e2⟩) (by rw [hss];exact hB.size) _ _ hs.vals
structure VBk (v : Value) (w wr : World) (rb vb : Nat) (KT T1 : ByteArray) : Prop where
  bl : Below w.heap.size w wr
  lt : vb < wr.heap.size
  rlt : rb < wr.heap.size
  r0 : wr.cell? ⟨rb,0,none⟩ = some v
  v0 : wr.cell? ⟨vb,0,none⟩ = some (.string KT)
  v1 : wr.cell? ⟨vb,1,none⟩ = some (.string T1)
theorem VBk.step {v : Value} {w wr w2 : World} {rb vb : Nat} {KT T1 : ByteArray} {B : Nat} (h : VBk v w wr rb vb KT T1) (hB : Below w.heap.size w w2) (hb : Below B wr w2) (h1 : rb < B) (h2 : vb < B) : VBk v w w2 rb vb KT T1 :=
  ⟨hB,Nat.lt_of_lt_of_le h.lt hb.size,Nat.lt_of_lt_of_le h.rlt hb.size,(hb.cell (p:=⟨rb,0,none⟩) h1).trans h.r0,(hb.cell (p:=⟨vb,0,none⟩) h2).trans h.v0,(hb.cell (p:=⟨vb,1,none⟩) h2).trans h.v1⟩
theorem VBk.put {v : Value} {w wx w4 : World} {rb vb base : Nat} {KT T1 : ByteArray} (h : VBk v w wx rb vb KT T1) (hb : Below base wx w4) (h0 : w.heap.size ≤ vb) (h1 : vb < base) (h2 : rb < base) (o : Nat) (ho : 2 ≤ o) (val : Value) : VBk v w (w4.setCell ⟨vb,o,none⟩ val) rb vb KT T1:=by
  have hs : (w4.setCell ⟨vb,o,none⟩ val).heap.size = w4.heap.size:=by simp
  refine ⟨(h.bl.trans (hb.mono (by omega))).setCell (p:=⟨vb,o,none⟩) h0 _,by rw [hs];exact Nat.lt_of_lt_of_le h.lt hb.size,by rw [hs];exact Nat.lt_of_lt_of_le h.rlt hb.size, ?_, ?_, ?_⟩
  · exact (World.cell?_setCell_other w4 _ _ _ (by simp <;> omega)).trans ((hb.cell (p:=⟨rb,0,none⟩) h2).trans h.r0)
  · exact (World.cell?_setCell_other w4 _ _ _ (by simp <;> omega)).trans ((hb.cell (p:=⟨vb,0,none⟩) h1).trans h.v0)
  · exact (World.cell?_setCell_other w4 _ _ _ (by simp <;> omega)).trans ((hb.cell (p:=⟨vb,1,none⟩) h1).trans h.v1)
theorem info_ptrV : (Tryz.prog.info? 96).map (fun i => (i.zero,i.size,i.bytes)) = some (some (.pointer none),1,8):=by kernel_rfl
end Go.Proofs.YtmdacedmjbiekaaGreatDoor
