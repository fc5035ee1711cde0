/- Packed by pack.py: Vs. -/
import Derived.Test.YtmdacedmjbiekaaGreatDoorR41
import Derived.Deep.CutRange
import Derived.Deep.AppendLies
import Derived.Deep.RegionHeld3
namespace Go.Proofs.YtmdacedmjbiekaaGreatDoor
open Go.ChangeShapes Go.WideShapes Go.ChangeAt Go.RowKit Go.Lib
set_option linter.unusedVariables false
set_option linter.unusedSimpArgs false
theorem VC.fld {W : World} {P : Nat → Prop} {g : Nat} {v : Wf.V} {cs : List Value} (h : VC W P (.mk 61 [] g [v]) cs) : ∃ (b2 o2 c2 q3 g3 n3 c3 : Nat) (T3 : ByteArray) (a3 : Option Addr),cs = [.int .u8 61, .string ⟨#[]⟩, .int .i64 g, .slice (some ⟨b2,o2,none⟩) 1 c2] ∧ 1 ≤ c2 ∧ c2 ≤ maxLen ∧ P b2 ∧ b2 < W.heap.size ∧ VC W P v [.int .u8 q3, .string T3, .int .i64 g3, .slice a3 n3 c3] ∧ W.cell? ⟨b2,o2,none⟩ = some (.int .u8 q3) ∧ W.cell? ⟨b2,o2 + 1,none⟩ = some (.string T3) ∧ W.cell? ⟨b2,o2 + 2,none⟩ = some (.int .i64 g3) ∧ W.cell? ⟨b2,o2 + 3,none⟩ = some (.slice a3 n3 c3):=by
  obtain ⟨a,c,rfl,h1,h2,h3,h4⟩:=h.form
  rcases h4 with h4 | ⟨b2,o2,ha,hp,hb,hv⟩
  · simp [Wf.V.kids] at h4
  · simp only [Wf.V.kids,VCs] at hv
    obtain ⟨⟨ks,hk,hc⟩,_⟩:=hv
    obtain ⟨q3,g3,n3,c3,T3,a3,rfl⟩:=hk.cells4
    subst ha
    refine ⟨b2,o2,c,q3,g3,n3,c3,T3,a3,rfl,h1,h2,hp,hb,hk,by simpa using hc 0 _ rfl,hc 1 _ rfl,hc 2 _ rfl,hc 3 _ rfl⟩
structure Rst (rb sb : Nat) (w wr : World) (cur : List UInt8) (bad : Bool) (a : Option Addr) (c : Nat) (l : List Wf.V) (es : List (List Value)) : Prop where
  zero : Zero wr w.heap.size
  bld : Bld w wr rb (w.heap.size + 1) (w.heap.size + 1 + 1) 82 a c l es
  sn : Sn wr rb sb cur bad
theorem Rst.step {rb sb : Nat} {w wr w2 : World} {cur cur2 : List UInt8} {bad bad2 : Bool} {a : Option Addr} {c : Nat} {l : List Wf.V} {es : List (List Value)} (h : Rst rb sb w wr cur bad a c l es) (hr : rb < w.heap.size) (hb : Beside rb wr w2) (hs : Sn w2 rb sb cur2 bad2) : Rst rb sb w w2 cur2 bad2 a c l es :=
  ⟨h.zero.step hb (by omega),h.bld.step hr hb,hs⟩
theorem Rst.put {rb sb : Nat} {w wr : World} {cur : List UInt8} {bad0 : Bool} {a : Option Addr} {c : Nat} {l : List Wf.V} {es : List (List Value)} {m : Nat} (h : Rst rb sb w wr cur bad0 a c l es) (hrb : rb < w.heap.size) {w2 : World} (hb : Beside rb wr w2) (hm : es.length = m) {q2 g2 n2 c2 : Nat} {T2 : ByteArray} {a2 : Option Addr} {v : Wf.V}
    (hvc : VC w2 (fun b => wr.heap.size ≤ b) v [.int .u8 q2, .string T2, .int .i64 g2, .slice a2 n2 c2]) {wx w4 : World} {g cap : Nat} (hx : Below w2.heap.size w2 wx)
    (hg : wx.grownBy w4 (Value.slice a m c).ownBlock)
    (ho : w4.ownsRow (w.heap.size + 1 + 1) 92 4 (.slice (some ⟨g,0,none⟩) (m + 1) cap) (m + 1) (es.flatten ++ [.int .u8 q2, .string T2, .int .i64 g2, .slice a2 n2 c2]))
    (hat : (Value.slice a m c).ownBlock = some g ∨ g = wx.heap.size)
    {r2 : List UInt8} {bad : Bool} (hs : Sn w2 rb sb r2 bad) :
    Rst rb sb w (w4.setCell ⟨w.heap.size + 1,3,none⟩ (.slice (some ⟨g,0,none⟩) (m + 1) cap)) r2 bad (some ⟨g,0,none⟩) cap (l ++ [v]) (es ++ [[.int .u8 q2, .string T2, .int .i64 g2, .slice a2 n2 c2]]):=by
  subst hm
  have hXb : Beside rb wr wx:=hb.trans (Beside.of_below hx (Nat.le_refl _))
  have hs0:=(h.bld.step hrb hXb).sz
  have hlo:=owns_lt h.bld.own
  have hB : Below (w.heap.size + 1 + 1) wx w4:=below_grown2 hg (fun g hgk => (hlo g hgk).1) hs0
  have hS : Below (w.heap.size + 1) w4 (w4.setCell ⟨w.heap.size + 1,3,none⟩ (.slice (some ⟨g,0,none⟩) (es.length + 1) cap)):=Below.setCell (Below.refl _ w4) (p:=⟨w.heap.size + 1,3,none⟩) (Nat.le_refl _) _
  refine ⟨((h.zero.step hXb (by omega)).below hB (by omega)).below hS (by omega),h.bld.put hrb hXb hg (hvc.below hx) ho ?_,((hs.below hx).belowB hB (by omega)).belowB hS (by omega)⟩
  rcases hat with hat | hat
  · exact .inl hat.symm
  · exact .inr (by rw [← hat];rfl)
theorem bad_rec_stop {r cur q : List UInt8} {l : List Wf.V} (h1 : Wf.pl l + cur.length = r.length) (h2 : q.length ≤ cur.length) : Wf.Badv (123 :: r) q (.mk 82 [] 0 l):=by
  cases l with
  | nil => exact Wf.bad_row0 (.inr rfl) (by simp;omega)
  | cons v l => exact Wf.bad_row_end (.inr rfl) (s0:=r) rfl (by simp) (by omega)
theorem fld_len {x : Wf.Sc} {n : Nat} {t : Wf.Ty} {s r : List UInt8} {f : Wf.Fd} {v : Wf.V} (h : Wf.fieldTok t (fun k s => Wf.parse x n k s) s = some (f,v,r)) : s.length = (Wf.V.mk 61 [] f.tag [v]).print.length + r.length:=by
  have h2:=(Wf.fieldTok_say (Q:=fun _ _ => True) (fun f s v r h => ⟨trivial,(Wf.parse_say _ _ _ _ _ h).2⟩) h).2.2.2
  rw [h2,Wf.print_tag]
  simp
  omega
end Go.Proofs.YtmdacedmjbiekaaGreatDoor
