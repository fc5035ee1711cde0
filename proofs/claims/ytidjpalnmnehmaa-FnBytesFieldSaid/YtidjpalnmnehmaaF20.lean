/- Packed by pack.py: Ig It Vp Iu. -/
import Derived.Shelf.Strings.SlTrimAscii
import Derived.Shelf.Strings.Prefix
import Derived.Shelf.Strings.Cut
import Derived.Shelf.Strings.Search3
import Derived.Shelf.Strings.Split
import Derived.Shelf.Strings.SplitShaped
import Derived.Shelf.Strings.Shaped
import Derived.Shelf.Small.Wraps
import Derived.Shelf.Strings.OnBuilder
import Derived.Test.YtidjpalnmnehmaaF19
import Derived.Test.YtidjpalnmnehmaaF11
import Derived.Test.YtidjpalnmnehmaaChecked
import Derived.KernelRfl
import Derived.Below
import Derived.Test.YtidjpalnmnehmaaF16
import Derived.Deep.AppendLies
import Derived.Deep.RegionLaw
import Derived.Test.YtidjpalnmnehmaaF17
import Derived.Test.YtidjpalnmnehmaaF5
import Derived.Test.YtidjpalnmnehmaaF8
namespace Go.Proofs.Ytidjpalnmnehmaa
open Go.ChangeShapes Go.WideShapes Go.ChangeAt Go.RowKit Go.Lib
set_option linter.unusedVariables false
def IfOut (sort : UInt8) (l : List UInt8) (e : Ending) : Prop:=match Wf.fdA sort l with
  | some f => e = .returned (.tuple #[.agg (fdC sort f).toArray, .bool true])
  | none => e = .returned (.tuple #[.agg #[.int .i64 0,tx [],tx [],tx [],tx [],tx []], .bool false])

def TyL (w : World) (lo b : Nat) (t : Wf.Ty) : Prop:=∃ fb a c line,lo ≤ b ∧ lo ≤ fb ∧ b < w.heap.size ∧ w.cell? ⟨b,0,none⟩ = some (.int .u8 t.sort.toNat) ∧ w.cell? ⟨b,1,none⟩ = some (tx t.name) ∧ w.cell? ⟨b,2,none⟩ = some (.slice a t.fields.length c) ∧ w.heap[b]? = some (.cells line 121 (0,0)) ∧ RowK w fb (.slice a t.fields.length c) 6 (t.fields.map (fdC t.sort))
theorem TyL.keep {w w' : World} {lo b : Nat} {t : Wf.Ty} (h : TyL w lo b t) (hs : w.heap.size ≤ w'.heap.size) (hk : ∀ x,lo ≤ x → x < w.heap.size → w'.heap[x]? = w.heap[x]?) : TyL w' lo b t:=by
  obtain ⟨fb,a,c,line,h1,h2,h3,c0,c1,c2,c3,hr⟩:=h
  have hb:=hk b h1 h3
  have cc:=fun o => World.cell?_of_block (w:=w) (w':=w') (a:=⟨b,o,none⟩) hb
  exact ⟨fb,a,c,line,h1,h2,Nat.lt_of_lt_of_le h3 hs,(cc 0).trans c0,(cc 1).trans c1,(cc 2).trans c2,hb.trans c3,hr.keep hs fun hx => hk fb h2 hx⟩
theorem TyL.below {w w' : World} {lo b : Nat} {t : Wf.Ty} (h : TyL w lo b t) (hb : Below w.heap.size w w') : TyL w' lo b t:=h.keep hb.size fun x _ hx => hb.block x hx
theorem TyL.lt {w : World} {lo b : Nat} {t : Wf.Ty} (h : TyL w lo b t) : b < w.heap.size:=by obtain ⟨_,_,_,_,_,_,h3,_⟩:=h;exact h3
theorem TyL.le {w : World} {lo b : Nat} {t : Wf.Ty} (h : TyL w lo b t) : lo ≤ b:=by obtain ⟨_,_,_,_,h1,_⟩:=h;exact h1
theorem TyL.mono {w : World} {lo lo' b : Nat} {t : Wf.Ty} (h : TyL w lo b t) (hl : lo' ≤ lo) : TyL w lo' b t:=by
  obtain ⟨fb,a,c,line,h1,h2,h3⟩:=h
  exact ⟨fb,a,c,line,Nat.le_trans hl h1,Nat.le_trans hl h2,h3⟩
def ItOut (l : List UInt8) (lo : Nat) (e : Ending) (w' : World) : Prop:=match Wf.lineTy l with
  | some t => ∃ b,e = .returned (.tuple #[ptr b, .bool true]) ∧ TyL w' lo b t
  | none => ∃ p,e = .returned (.tuple #[.pointer p, .bool false])
structure TSi (w wr : World) (q : Nat) (name line : ByteArray) (lv : Value) (a : Option Addr) (c : Nat) (ps : List (List UInt8)) (es : List (List Value)) : Prop where
  below : Below w.heap.size w wr
  size : w.heap.size + 2 ≤ wr.heap.size
  c0 : wr.cell? ⟨w.heap.size,0,none⟩ = some (.int .u8 q)
  c1 : wr.cell? ⟨w.heap.size,1,none⟩ = some (.string name)
  c2 : wr.cell? ⟨w.heap.size,2,none⟩ = some (.slice a es.length c)
  c3 : ∃ cs,wr.heap[w.heap.size]? = some (.cells cs 121 (0,0))
  f2 : wr.frozen? ⟨w.heap.size,2,none⟩ = false
  row : RowAt wr (w.heap.size + 1) lv (ps.map tx)
  own : wr.ownsRow (w.heap.size + 2) 126 6 (.slice a es.length c) es.length es.flatten
  he : ∀ e ∈ es,e.length = 6
section
variable {w wr : World} {q : Nat} {name line : ByteArray} {lv : Value} {a : Option Addr} {c : Nat} {ps : List (List UInt8)} {es : List (List Value)}
theorem TSi.step (h : TSi w wr q name line lv a c ps es) {w2 : World} (hb : Below wr.heap.size wr w2) : TSi w w2 q name line lv a c ps es:=by
  have hs:=h.size
  have ht : w.heap.size < wr.heap.size:=by omega
  refine ⟨h.below.trans (hb.mono (by omega)),Nat.le_trans hs hb.size, ?_, ?_, ?_, ?_, ?_,h.row.below hb id,owns_below h.own hb,h.he⟩
  · exact (hb.cell (p:=⟨w.heap.size,0,none⟩) ht).trans h.c0
  · exact (hb.cell (p:=⟨w.heap.size,1,none⟩) ht).trans h.c1
  · exact (hb.cell (p:=⟨w.heap.size,2,none⟩) ht).trans h.c2
  · exact h.c3.imp fun cs hc => (hb.block _ ht).trans hc
  · exact (hb.frozen (p:=⟨w.heap.size,2,none⟩) ht).trans h.f2
theorem TSi.put (h : TSi w wr q name line lv a c ps es) {wx w' : World} (hx : Below wr.heap.size wr wx) (hg : wx.grownBy w' (Value.slice a es.length c).ownBlock) {a' : Option Addr} {c' : Nat} {e : List Value} (hl : e.length = 6) (ho : w'.ownsRow (w.heap.size + 2) 126 6 (.slice a' (es.length + 1) c') (es.length + 1) (es.flatten ++ e)) :
    TSi w (w'.setCell ⟨w.heap.size,2,none⟩ (.slice a' (es.length + 1) c')) q name line lv a' c' ps (es ++ [e]):=by
  have hs:=h.step hx
  have hsz:=h.size
  have hsx:=hs.size
  have hb : Below (w.heap.size + 2) wx w':=below_grown2 hg (fun g hgk => (owns_lt h.own g hgk).1) hsx
  have hs2 : (w'.setCell ⟨w.heap.size,2,none⟩ (.slice a' (es.length + 1) c')).heap.size = w'.heap.size:=by simp
  have hlen : (es ++ [e]).length = es.length + 1:=by simp
  have htB : w.heap.size < w.heap.size + 2:=by omega
  have c2' : w'.cell? ⟨w.heap.size,2,none⟩ = some (.slice a es.length c):=(hb.cell (p:=⟨w.heap.size,2,none⟩) htB).trans hs.c2
  refine ⟨?_, ?_, ?_, ?_, ?_, ?_, ?_, ?_, ?_, ?_⟩
  · exact (hs.below.trans (hb.mono (by omega))).setCell (Nat.le_refl _) _
  · rw [hs2];exact Nat.le_trans hs.size hb.size
  · exact (World.cell?_setCell_other w' _ _ _ (by simp)).trans ((hb.cell (p:=⟨w.heap.size,0,none⟩) htB).trans hs.c0)
  · exact (World.cell?_setCell_other w' _ _ _ (by simp)).trans ((hb.cell (p:=⟨w.heap.size,1,none⟩) htB).trans hs.c1)
  · rw [hlen];exact World.cell?_setCell_same w' _ _ c2'
  · obtain ⟨cs,hc⟩:=hs.c3
    exact ⟨_,by unfold World.setCell;simp only [Array.getElem?_modify,if_true,(hb.block _ htB).trans hc];rfl⟩
  · have:=(hb.frozen (p:=⟨w.heap.size,2,none⟩) htB).trans hs.f2
    simpa using this
  · refine RowAt.keep hs.row ?_ fun hlt => ?_
    · rw [hs2];exact hb.size
    · rw [Below.heap_setCell w' ⟨w.heap.size,2,none⟩ _ _ (Nat.ne_of_gt (Nat.lt_succ_self _))];exact hb.block _ (Nat.lt_succ_self _)
  · rw [hlen,List.flatten_append,List.flatten_cons,List.flatten_nil,List.append_nil]
    exact ownsRow_setCell_below ho htB _
  · intro x hx
    rcases List.mem_append.1 hx with hx | hx
    · exact h.he x hx
    · rw [List.mem_singleton.1 hx];exact hl
end
end Go.Proofs.Ytidjpalnmnehmaa

namespace Go.Proofs.Ytidjpalnmnehmaa
open Go.ChangeShapes Go.WideShapes Go.ChangeAt Go.RowKit Go.Lib
set_option linter.unusedVariables false
set_option linter.unusedSimpArgs false
end Go.Proofs.Ytidjpalnmnehmaa

