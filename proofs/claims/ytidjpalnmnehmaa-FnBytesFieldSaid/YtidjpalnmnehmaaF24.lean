/- Packed by pack.py: Ja Jb Jc Jd Vc Vd Xi Xj Xk. -/
import Derived.Shelf.Strings.SlTrimAscii
import Derived.Shelf.Strings.Prefix
import Derived.Shelf.Strings.Cut
import Derived.Shelf.Strings.Search3
import Derived.Shelf.Strings.Split
import Derived.Shelf.Strings.SplitShaped
import Derived.Shelf.Strings.Shaped
import Derived.Shelf.Small.Wraps
import Derived.Shelf.Strings.OnBuilder
import Derived.Test.YtidjpalnmnehmaaF23
import Derived.Test.YtidjpalnmnehmaaF17
import Derived.Deep.RegionHeld3
import Derived.Test.YtidjpalnmnehmaaF18
import Derived.Test.YtidjpalnmnehmaaF20
import Derived.Maps.AppendAt
import Derived.Test.YtidjpalnmnehmaaF2
import Derived.Deep.CutRange
import Derived.Deep.AppendLies
import Derived.Deep.RegionLaw
import Derived.Test.YtidjpalnmnehmaaF16
namespace Go.Proofs.Ytidjpalnmnehmaa
open Go.ChangeShapes Go.WideShapes Go.ChangeAt Go.RowKit Go.Lib
set_option linter.unusedVariables false
set_option linter.unusedSimpArgs false
def signN : Wf.K → Nat
  | .list _ => 91
  | .opt _ => 63
  | _ => 0
def FdAt (w : World) (fb o : Nat) (sort : UInt8) (f : Wf.Fd) : Prop:=fb < w.heap.size ∧ ∀ j u,(fdC sort f)[j]? = some u → w.cell? ⟨fb,o + j,none⟩ = some u
theorem FdAt.below {w w' : World} {fb o : Nat} {sort : UInt8} {f : Wf.Fd} (h : FdAt w fb o sort f) (hb : Below w.heap.size w w') : FdAt w' fb o sort f:=⟨Nat.lt_of_lt_of_le h.1 hb.size,fun j u hu => (hb.cell (p:=⟨fb,o + j,none⟩) h.1).trans (h.2 j u hu)⟩
theorem TyL.row {w : World} {lo b : Nat} {t : Wf.Ty} (h : TyL w lo b t) : ∃ fb a c,b < w.heap.size ∧ w.cell? ⟨b,2,none⟩ = some (.slice a t.fields.length c) ∧ t.fields.length ≤ c ∧ c ≤ maxLen ∧ ∀ i (hi : i < t.fields.length),∃ o,a = some ⟨fb,o,none⟩ ∧ FdAt w fb (o + i * 6) t.sort t.fields[i]:=by
  obtain ⟨fb,a,c,line,_,_,hb,_,_,c2,_,hr⟩:=h
  have hl : t.fields.length ≤ c ∧ c ≤ maxLen:=by
    obtain ⟨a',cap',e1,e2,e3,_⟩:=hr
    simp only [Value.slice.injEq] at e1
    rw [List.length_map] at e2
    omega
  refine ⟨fb,a,c,hb,c2,hl.1,hl.2,fun i hi => ?_⟩
  obtain ⟨o,ha,hfb,_,_,hcell⟩:=hr.get (i:=i) (by rw [List.length_map];exact hi)
  have e0 : (t.fields.map (fdC t.sort))[i]'(by rw [List.length_map];exact hi) = fdC t.sort t.fields[i]:=by rw [List.getElem_map]
  rw [e0] at hcell
  refine ⟨o,ha,hfb,fun j u hu => hcell j u ?_ hu⟩
  have:=(List.getElem?_eq_some_iff.1 hu).1
  rw [fdC_len] at this
  exact this
def FieldOut (W : World) (t : Wf.Ty) (g : Int) (e : Ending) : Prop:=match fieldI t g with
  | some f => ∃ fb o,e = .returned (.pointer (some ⟨fb,o,none⟩)) ∧ FdAt W fb o t.sort f
  | none => e = .returned (.pointer none)
section
variable (sb : Nat) (SG BS NM : ByteArray) (w : World)
end
structure At (W : World) (lo sb : Nat) (NM : ByteArray) (t : Wf.Ty) (mb b : Nat) : Prop where
  sz : sb < W.heap.size
  c1 : W.cell? ⟨sb,1,none⟩ = some (.map (some mb))
  ty : TyL W lo b t
  look : ∀ wz,Below W.heap.size W wz → (Instr.lookup 112 (.map (some mb)) (.string NM) false).run Try.prog wz = .ok (ptr b) wz
section
variable (W : World) (lo sb : Nat) (SG NM : ByteArray) (t : Wf.Ty) (mb b : Nat) (HA : At W lo sb NM t mb b) (w : World) (hW : Below W.heap.size W w)
  (hs : ∀ wz,Calls Try.prog 85 #[.agg #[.string SG, .string ⟨#[64]⟩, .string NM]] wz fun e w' => e = .returned (.int .u8 (0 : Nat)) ∧ Below wz.heap.size wz w')
include HA hW hs
end
end Go.Proofs.Ytidjpalnmnehmaa


namespace Go.Proofs.Ytidjpalnmnehmaa
open Go.ChangeShapes Go.WideShapes Go.ChangeAt Go.RowKit Go.Lib
set_option linter.unusedVariables false
set_option linter.unusedSimpArgs false
structure KOk (x : Wf.Sc) (k : Wf.K) : Prop where
  len : k.text.length ≤ 12
  ref : Wf.hasRef x k = true
section
variable {w wr : World} {rb vb base q : Nat} {a : Option Addr} {c : Nat} {l : List Wf.V} {es : List (List Value)}
theorem owns_beside {w w' : World} {b rb : Nat} {e : TypeId} {size : Nat} {v : Value} {n : Nat} {xs : List Value} (h : w.ownsRow b e size v n xs) (hb : Beside rb w w') (hr : rb < b) : w'.ownsRow b e size v n xs:=by
  obtain ⟨h1,h2 | ⟨g,cap,cur,h3,h4,h5,h6⟩⟩:=h
  · exact ⟨h1, .inl h2⟩
  · refine ⟨h1, .inr ⟨g,cap,cur,h3,h4, ?_,h6⟩⟩
    rw [hb.block g (Array.getElem?_eq_some_iff.1 h5).1 (by omega)];exact h5
theorem Beside.frozen {rb : Nat} {w w' : World} (h : Beside rb w w') {p : Addr} (hp : p.block < w.heap.size) (hr : p.block ≠ rb) : w'.frozen? p = w.frozen? p:=World.frozen?_of_block (w:=w) (h.block p.block hp hr)
end

structure Fix (w wr : World) (SG BS NM : ByteArray) : Prop where
  sz : w.heap.size + 2 ≤ wr.heap.size
  k0 : wr.cell? ⟨w.heap.size,0,none⟩ = some (.string SG)
  k1 : wr.cell? ⟨w.heap.size,1,none⟩ = some (.string BS)
  k2 : wr.cell? ⟨w.heap.size,2,none⟩ = some (.string NM)
  r0 : wr.cell? ⟨w.heap.size + 1,0,none⟩ = some (.int .u8 0)
  r1 : wr.cell? ⟨w.heap.size + 1,1,none⟩ = some (.string ⟨#[]⟩)
  r2 : wr.cell? ⟨w.heap.size + 1,2,none⟩ = some (.int .i64 0)
  r3 : wr.cell? ⟨w.heap.size + 1,3,none⟩ = some (.slice none 0 0)
  f0 : wr.frozen? ⟨w.heap.size + 1,0,none⟩ = false
  f1 : wr.frozen? ⟨w.heap.size + 1,1,none⟩ = false
  f2 : wr.frozen? ⟨w.heap.size + 1,2,none⟩ = false
  f3 : wr.frozen? ⟨w.heap.size + 1,3,none⟩ = false
theorem Fix.same {w wr w2 : World} {SG BS NM : ByteArray} (h : Fix w wr SG BS NM) (hs : wr.heap.size ≤ w2.heap.size) (h0 : w2.heap[w.heap.size]? = wr.heap[w.heap.size]?) (h1 : w2.heap[w.heap.size + 1]? = wr.heap[w.heap.size + 1]?) : Fix w w2 SG BS NM:=by
  have cc:=fun o => World.cell?_of_block (w:=wr) (w':=w2) (a:=⟨w.heap.size,o,none⟩) h0
  have cd:=fun o => World.cell?_of_block (w:=wr) (w':=w2) (a:=⟨w.heap.size + 1,o,none⟩) h1
  have cf:=fun o => World.frozen?_of_block (w:=wr) (w':=w2) (a:=⟨w.heap.size + 1,o,none⟩) h1
  exact ⟨Nat.le_trans h.sz hs,(cc 0).trans h.k0,(cc 1).trans h.k1,(cc 2).trans h.k2,(cd 0).trans h.r0,(cd 1).trans h.r1,(cd 2).trans h.r2,(cd 3).trans h.r3,(cf 0).trans h.f0,(cf 1).trans h.f1,(cf 2).trans h.f2,(cf 3).trans h.f3⟩
theorem Fix.step {w wr w2 : World} {SG BS NM : ByteArray} {rb : Nat} (h : Fix w wr SG BS NM) (hr : rb < w.heap.size) (hb : Beside rb wr w2) : Fix w w2 SG BS NM :=
  h.same hb.size (hb.block _ (by have:=h.sz;omega) (by omega)) (hb.block _ (by have:=h.sz;omega) (by omega))
theorem Fix.low {w wr w2 : World} {SG BS NM : ByteArray} {B : Nat} (h : Fix w wr SG BS NM) (hB : w.heap.size + 2 ≤ B) (hb : Below B wr w2) : Fix w w2 SG BS NM :=
  h.same hb.size (hb.block _ (by omega)) (hb.block _ (by omega))
def textAt (w : World) (rb : Nat) : Nat:=match w.cell? ⟨rb,1,none⟩ with
  | some (.string s) => s.size
  | _ => 0
theorem Sn.size {W : World} {rb sb : Nat} {s : List UInt8} {bad : Bool} (h : Sn W rb sb s bad) : textAt W rb = s.length:=by
  unfold textAt
  rw [h.c1]
  simp [ByteArray.size]
theorem VC.cells4 {W : World} {P : Nat → Prop} {v : Wf.V} {cs : List Value} (h : VC W P v cs) : ∃ (q2 g2 n2 c2 : Nat) (T2 : ByteArray) (a2 : Option Addr),cs = [.int .u8 q2, .string T2, .int .i64 g2, .slice a2 n2 c2]:=by
  obtain ⟨a,c,h,_⟩:=h.form
  exact ⟨_,_,_,_,_,_,h⟩
theorem Sn.beside {W W' : World} {rb sb b : Nat} {s : List UInt8} {bad : Bool} (h : Sn W rb sb s bad) (hb : Beside b W W') (hn : rb ≠ b) : Sn W' rb sb s bad :=
  ⟨Nat.lt_of_lt_of_le h.lt hb.size,(hb.cell (p:=⟨rb,0,none⟩) h.lt hn).trans h.c0,(hb.cell (p:=⟨rb,1,none⟩) h.lt hn).trans h.c1,(hb.cell (p:=⟨rb,2,none⟩) h.lt hn).trans h.c2,(hb.frozen (p:=⟨rb,1,none⟩) h.lt hn).trans h.f1,(hb.frozen (p:=⟨rb,2,none⟩) h.lt hn).trans h.f2⟩
theorem Beside.on {rb b : Nat} {w w3 w4 : World} (h : Beside rb w w3) (hb : Beside b w3 w4) (hn : w.heap.size ≤ b) : Beside rb w w4 :=
  ⟨hb.os.trans h.os,hb.tape.trans h.tape,hb.output.trans h.output,Nat.le_trans h.size hb.size,fun k hk hr => (hb.block k (Nat.lt_of_lt_of_le hk h.size) (by omega)).trans (h.block k hk hr)⟩
section
variable (x : Wf.Sc) (rb sb : Nat) (W : World) (n : Nat) (k : Wf.K) (s : List UInt8) (w : World)
end

theorem LVs.snoc {W : World} {P : Nat → Prop} {u : Wf.V} {b : Nat} (hu : LV W P u b) : ∀ {l : List Wf.V} {bs : List Nat},LVs W P l bs → LVs W P (l ++ [u]) (bs ++ [b]):=by
  intro l
  induction l with
  | nil =>
    intro bs h
    obtain rfl:=h.none
    simp only [List.nil_append,LVs]
    exact ⟨b,[],rfl,hu,rfl⟩
  | cons v l ih =>
    intro bs h
    simp only [LVs] at h
    obtain ⟨b',bs',rfl,h1,h2⟩:=h
    simp only [List.cons_append,LVs]
    exact ⟨b',_,rfl,h1,ih h2⟩
structure KB (w wr : World) (vb base : Nat) (a : Option Addr) (m c : Nat) (l : List Wf.V) (bs : List Nat) : Prop where
  lt : vb < base
  le : w.heap.size ≤ vb
  sz : base ≤ wr.heap.size
  v3 : wr.cell? ⟨vb,3,none⟩ = some (.slice a m c)
  f3 : wr.frozen? ⟨vb,3,none⟩ = false
  own : wr.ownsRow base 54 1 (.slice a m c) m (bs.map ptr)
  hl : bs.length = m
  vals : LVs wr (fun y => base ≤ y ∧ some y ≠ (Value.slice a m c).ownBlock) l bs
theorem KB.step {w wr w2 : World} {vb base m c : Nat} {a : Option Addr} {l : List Wf.V} {bs : List Nat} (h : KB w wr vb base a m c l bs) (hb : Below wr.heap.size wr w2) : KB w w2 vb base a m c l bs:=by
  have hv : vb < wr.heap.size:=Nat.lt_of_lt_of_le h.lt h.sz
  exact ⟨h.lt,h.le,Nat.le_trans h.sz hb.size,(hb.cell (p:=⟨vb,3,none⟩) hv).trans h.v3,(hb.frozen (p:=⟨vb,3,none⟩) hv).trans h.f3,owns_below h.own hb,h.hl,LVs.keep (fun y hy hlt => ⟨hy,hb.block y hlt⟩) hb.size _ _ h.vals⟩
theorem KB.put {w wr : World} {vb base m c : Nat} {a : Option Addr} {l : List Wf.V} {bs : List Nat} (h : KB w wr vb base a m c l bs) {wx w4 : World} (hx : Below wr.heap.size wr wx) (hg : wx.grownBy w4 (Value.slice a m c).ownBlock) {g cap b : Nat} {u : Wf.V}
    (ho : w4.ownsRow base 54 1 (.slice (some ⟨g,0,none⟩) (m + 1) cap) (m + 1) (bs.map ptr ++ [ptr b])) (hat : (Value.slice a m c).ownBlock = some g ∨ g = wx.heap.size) (hv : LV wx (fun y => wr.heap.size ≤ y) u b) :
    KB w (w4.setCell ⟨vb,3,none⟩ (.slice (some ⟨g,0,none⟩) (m + 1) cap)) vb base (some ⟨g,0,none⟩) (m + 1) cap (l ++ [u]) (bs ++ [b]):=by
  have hs:=h.step hx
  have hlo:=owns_lt hs.own
  have hlo0:=owns_lt h.own
  have hB : Below base wx w4:=below_grown2 hg (fun g hgk => (hlo g hgk).1) hs.sz
  have hss : (w4.setCell ⟨vb,3,none⟩ (.slice (some ⟨g,0,none⟩) (m + 1) cap)).heap.size = w4.heap.size:=by simp
  have c3:=(hB.cell (p:=⟨vb,3,none⟩) h.lt).trans hs.v3
  have hloc : (Value.slice (some ⟨g,0,none⟩) (m + 1) cap).ownBlock = (Value.slice a m c).ownBlock ∨ (Value.slice (some ⟨g,0,none⟩) (m + 1) cap).ownBlock = some wx.heap.size:=by
    rcases hat with hat | hat
    · exact .inl hat.symm
    · exact .inr (by rw [← hat];rfl)
  have hl:=h.lt
  have hkeep : ∀ y,base ≤ y → y < wx.heap.size → some y ≠ (Value.slice a m c).ownBlock → some y ≠ (Value.slice (some ⟨g,0,none⟩) (m + 1) cap).ownBlock ∧ (w4.setCell ⟨vb,3,none⟩ (.slice (some ⟨g,0,none⟩) (m + 1) cap)).heap[y]? = wx.heap[y]?:=fun y hy1 hy2 hy3 => by
    obtain ⟨e1,e2⟩:=apart_step hg hloc hy2 hy3
    refine ⟨e2, ?_⟩
    rw [Below.heap_setCell w4 ⟨vb,3,none⟩ _ _ (by show y ≠ vb;omega)]
    exact e1
  refine ⟨h.lt,h.le,by rw [hss];exact Nat.le_trans hs.sz hB.size,World.cell?_setCell_same w4 _ _ c3, ?_, ?_,by rw [List.length_append,h.hl];rfl,LVs.snoc ?_ ?_⟩
  · have:=(hB.frozen (p:=⟨vb,3,none⟩) h.lt).trans hs.f3
    simpa using this
  · rw [List.map_append]
    exact ownsRow_setCell_below ho h.lt _
  · exact LV.keep (fun y hp hlt => by
      have hb1 : base ≤ y:=Nat.le_trans h.sz hp
      have hb3 : some y ≠ (Value.slice a m c).ownBlock:=fun he => by
        have h5:=(hlo0 y he.symm).2
        have h6 : wr.heap.size ≤ y:=hp
        omega
      obtain ⟨e1,e2⟩:=hkeep y hb1 hlt hb3
      exact ⟨⟨hb1,e1⟩,e2⟩) (by rw [hss];exact hB.size) _ _ hv
  · exact LVs.keep (fun y hp hlt => by
      obtain ⟨e1,e2⟩:=hkeep y hp.1 hlt hp.2
      exact ⟨⟨hp.1,e1⟩,e2⟩) (by rw [hss];exact hB.size) _ _ hs.vals
structure VBk (v : Value) (w wr : World) (rb vb : Nat) (KT T1 : ByteArray) : Prop where
  bl : Below w.heap.size w wr
  lt : vb < wr.heap.size
  rlt : rb < wr.heap.size
  r0 : wr.cell? ⟨rb,0,none⟩ = some v
  v0 : wr.cell? ⟨vb,0,none⟩ = some (.string KT)
  v1 : wr.cell? ⟨vb,1,none⟩ = some (.string T1)
theorem VBk.step {v : Value} {w wr w2 : World} {rb vb : Nat} {KT T1 : ByteArray} {B : Nat} (h : VBk v w wr rb vb KT T1) (hB : Below w.heap.size w w2) (hb : Below B wr w2) (h1 : rb < B) (h2 : vb < B) : VBk v w w2 rb vb KT T1 :=
  ⟨hB,Nat.lt_of_lt_of_le h.lt hb.size,Nat.lt_of_lt_of_le h.rlt hb.size,(hb.cell (p:=⟨rb,0,none⟩) h1).trans h.r0,(hb.cell (p:=⟨vb,0,none⟩) h2).trans h.v0,(hb.cell (p:=⟨vb,1,none⟩) h2).trans h.v1⟩
theorem VBk.put {v : Value} {w wx w4 : World} {rb vb base : Nat} {KT T1 : ByteArray} (h : VBk v w wx rb vb KT T1) (hb : Below base wx w4) (h0 : w.heap.size ≤ vb) (h1 : vb < base) (h2 : rb < base) (o : Nat) (ho : 2 ≤ o) (val : Value) : VBk v w (w4.setCell ⟨vb,o,none⟩ val) rb vb KT T1:=by
  have hs : (w4.setCell ⟨vb,o,none⟩ val).heap.size = w4.heap.size:=by simp
  refine ⟨(h.bl.trans (hb.mono (by omega))).setCell (p:=⟨vb,o,none⟩) h0 _,by rw [hs];exact Nat.lt_of_lt_of_le h.lt hb.size,by rw [hs];exact Nat.lt_of_lt_of_le h.rlt hb.size, ?_, ?_, ?_⟩
  · exact (World.cell?_setCell_other w4 _ _ _ (by simp <;> omega)).trans ((hb.cell (p:=⟨rb,0,none⟩) h2).trans h.r0)
  · exact (World.cell?_setCell_other w4 _ _ _ (by simp <;> omega)).trans ((hb.cell (p:=⟨vb,0,none⟩) h1).trans h.v0)
  · exact (World.cell?_setCell_other w4 _ _ _ (by simp <;> omega)).trans ((hb.cell (p:=⟨vb,1,none⟩) h1).trans h.v1)
theorem info_ptrV : (Try.prog.info? 54).map (fun i => (i.zero,i.size,i.bytes)) = some (some (.pointer none),1,8):=by kernel_rfl

def LR (x : Wf.Sc) (v : Value) (W : World) (n : Nat) (k : Wf.K) : Prop:=∀ (S : ByteArray) (w : World),S.size ≤ 1048576 → Below W.heap.size W w → Calls Try.prog 31 #[.agg #[v], .string S,tx k.text, .int .i64 n] w fun e w' => LrOut (Wf.parse x n k S.data.toList) w e w' ∧ Below w.heap.size w w'
def strN : Value → Nat
  | .string s => s.size
  | _ => 0
theorem KB.list {v : Value} {w wr : World} {vb base m c : Nat} {a : Option Addr} {l : List Wf.V} {bs : List Nat} {rb : Nat} {KT : ByteArray} (h : KB w wr vb base a m c l bs) (hv : VBk v w wr rb vb KT ⟨#[]⟩) (h2 : wr.cell? ⟨vb,2,none⟩ = some (.slice none 0 0)) (hk : KT.data.toList.head? = some 91) : LV wr (fun y => w.heap.size ≤ y) (.mk 91 [] 0 l) vb:=by
  have hbl : (bs.map ptr).length = m:=by rw [List.length_map,h.hl]
  obtain ⟨b,hb,hrow⟩:=RowAt.of_owns (xs:=bs.map ptr) (by rw [hbl];exact h.own)
  have h1:=h.lt
  have h3:=h.le
  exact LV.mk (kd:=KT.data.toList) (t:=[]) (tb:=0) (kb:=b) (bs:=bs) (by decide) h3 hv.lt hv.v0 hv.v1 h2 h.v3 (row_nil _ _) (.inl rfl) hrow (.inr (by omega)) ⟨hk,rfl⟩ (LVs.keep (fun y hp hlt => ⟨by have:=hp.1;omega,rfl⟩) (Nat.le_refl _) _ _ h.vals)
theorem start_list (w : World) (v : Value) (KT : ByteArray) (W1 : World) (hW1 : (w.alloc (.cells #[v] 65)).alloc (.cells #[.string KT, .string ⟨#[]⟩, .slice none 0 0, .slice none 0 0] 69) = W1) :
    VBk v w W1 w.heap.size (w.heap.size + 1) KT ⟨#[]⟩ ∧ KB w W1 (w.heap.size + 1) (w.heap.size + 1 + 1) none 0 0 [] [] ∧ W1.cell? ⟨w.heap.size + 1,2,none⟩ = some (.slice none 0 0):=by
  have hB : Below w.heap.size w W1:=by
    rw [← hW1]
    exact (((Below.refl _ _).alloc (Nat.le_refl _) _).alloc (by simp) _)
  subst hW1
  refine ⟨⟨hB, ?_, ?_, ?_, ?_, ?_⟩,⟨?_, ?_, ?_, ?_, ?_,World.ownsRow_nil _ _ _ _,rfl,by simp only [LVs]⟩, ?_⟩
  all_goals first | (simp [go_sem];done) | (simp [go_sem];omega) | omega
theorem one_ptr (b : Nat) : ∀ u ∈ [ptr b],u.oneCell' = true:=by
  intro u hu
  rw [List.mem_singleton.1 hu]
  rfl
section
variable (x : Wf.Sc) (v : Value) (W : World) (n : Nat) (k : Wf.K) (S : ByteArray) (D : Int) (w : World)
set_option maxRecDepth 20000 in
set_option maxHeartbeats 1000000 in
theorem l4list_items (hS : S.size ≤ 1048576) (hD : D = (n : Int) + 1) (hn : n ≤ 1000) (hh : S.data.toList.head? ≠ some 93) (IH : LR x v W n k) (hW : Below W.heap.size W w) : Calls Try.prog 45 #[.agg #[v], .string S,tx (Wf.K.list k).text, .int .i64 D] w fun e w' => LrOut (Wf.parse x (n + 1) (.list k) (91 :: S.data.toList)) w e w' ∧ Below w.heap.size w w':=by
  have HP:=hid (Wf.parse_list_items x n k hh)
  obtain ⟨KT,hKT⟩ : ∃ KT : ByteArray,(⟨(Wf.K.list k).text.toArray⟩ : ByteArray) = KT:=⟨_,rfl⟩
  obtain ⟨K1,hK1⟩ : ∃ K1 : ByteArray,(⟨k.text.toArray⟩ : ByteArray) = K1:=⟨_,rfl⟩
  have hkl : KT.data.toList = 91 :: k.text:=by rw [← hKT];rfl
  have hks : 1 ≤ KT.size:=by rw [← size_list,hkl];simp
  have hkx : KT.extract 1 KT.size = K1:=by rw [← hK1,eq_list,suf_list,hkl];rfl
  have kx : ∀ wz,(Instr.slice 9 (.string KT) (some (.int .i64 1)) none none).run Try.prog wz = .ok (.string K1) wz:=fun wz => by
    have h:=sl_suf KT 1 hks wz
    rw [hkx] at h
    exact h
  have HKH:=hid (show KT.data.toList.head? = some 91 by rw [hkl];rfl)
  have hIH2 : ∀ (S : ByteArray) (w : World),S.size ≤ 1048576 → Below W.heap.size W w → Calls Try.prog 31 #[.agg #[v], .string S, .string K1, .int .i64 n] w fun e w' => LrOut (Wf.parse x n k S.data.toList) w e w' ∧ Below w.heap.size w w':=by rw [← hK1];exact IH
  have HRD:=hid hIH2
  have HW:=hid hW
  have kd : IntKind.i64.wrap (D - 1) = (n : Int):=by rw [hD,Int.add_sub_cancel];exact IntWalk.i64_in _ (by omega)
  have ST:=hid fun W1 h => start_list w v KT W1 h
  have hg : S.toList.isEmpty = true ∨ (S.toList.isEmpty = false ∧ 0 < S.size ∧ ∃ b : Nat,(∀ h,(S[0]'h).toNat = b) ∧ ((b : Int) == 93) = false):=by
    by_cases h0 : S.size = 0
    · left
      rw [ByteArray.toList_eq,List.isEmpty_iff]
      exact List.eq_nil_of_length_eq_zero (by rw [size_list];exact h0)
    · right
      obtain ⟨c,hc,e1⟩:=byte_at S 0 (by omega)
      refine ⟨?_,by omega,c.toNat,e1, ?_⟩
      · rw [ByteArray.toList_eq,List.isEmpty_eq_false_iff]
        intro h
        rw [h] at hc;simp at hc
      · rw [beq_eq_false_iff_ne]
        intro h
        apply hh
        rw [List.head?_eq_getElem?,hc]
        exact congrArg some (UInt8.toNat_inj.1 (by show c.toNat = 93;omega))
  rw [tx,hKT]
  clear hh hKT hK1 hkl hkx hIH2 IH hW hD
  rcases hg with hg1 | ⟨hg1,hg2,b0,e1,hb93⟩
  all_goals
    go_enter Try.func45,Try.ntmps45
    go_wp2_with fail
    obtain ⟨vb0,kb0,t20⟩:=ST.out _ rfl
    have VB0:=hid vb0
    have KB0:=hid kb0
    have T20:=hid t20
    clear vb0 kb0 t20
    go_loopw [1] (fun s1 wr => ∃ (C : ByteArray) (a : Option Addr) (m c : Nat) (l : List Wf.V) (bs : List Nat),s1 = .string C ∧ C.size ≤ S.size ∧ m ≤ 20 ∧ Hid (VBk v w wr w.heap.size (w.heap.size + 1) KT ⟨#[]⟩ ∧ KB w wr (w.heap.size + 1) (w.heap.size + 1 + 1) a m c l bs ∧ wr.cell? ⟨w.heap.size + 1,2,none⟩ = some (.slice none 0 0) ∧ Wf.itemsL (Wf.parse x n k) [] S.data.toList = Wf.itemsL (Wf.parse x n k) l C.data.toList)) (fun s1 _ => strN s1)
    case atStart => exact ⟨S,none,0,0,[],[],rfl,Nat.le_refl _,Nat.zero_le _,hid ⟨VB0.out,KB0.out,T20.out,rfl⟩⟩
    case round =>
      obtain ⟨C,a,m,c,l,bs,rfl,hCS,hm20,hh⟩:=hrel
      have hv3:=hh.out.2.1.v3
      have hf3:=hh.out.2.1.f3
      have hr0:=hh.out.1.r0
      have hlv:=hh.out.1.lt
      have hlr:=hh.out.1.rlt
      have hsz:=hh.out.2.1.sz
      have HLL:=hid (show l.length = m by rw [← hh.out.2.1.vals.len,hh.out.2.1.hl])
      have HST:=hid (Wf.itemsL_step (fun s v r h => Wf.parse_lt (v:=v) (r:=r) h) l C.data.toList (p:=Wf.parse x n k))
      by_cases hlt : m < 20
      · have BW:=hid (HW.out.trans (hh.out.1.bl.mono HW.out.size))
        have HR:=hid (HRD.out C wr.drew (by omega) (BW.out.trans ⟨rfl,rfl,rfl,Nat.le_refl _,fun _ _ => rfl⟩))
        go_wp2_with fail
        cases hp : Wf.parse x n k C.data.toList with
        | none =>
          have HRES:=hid (show Wf.parse x (n + 1) (.list k) (91 :: S.data.toList) = none by rw [HP.out,hh.out.2.2.2,HST.out,hp];rfl)
          have HO:=hid fun (e : Ending) (w' : World) (h : LrOut (Wf.parse x n k C.data.toList) wr.drew e w') => (by unfold LrOut at h;rw [hp] at h;exact h : ∃ (p : Option Addr) (r : ByteArray),e = .returned (.tuple #[.pointer p, .string r, .bool false]))
          clear hp
          go_region_held3 (fun w' => w'.cell? ⟨w.heap.size,0,none⟩ = some v) (first | exact j0 | go_keep) ((go_at_call 31;refine HR.out.mono ?_;rintro e w3 ⟨ho,hb3⟩;obtain ⟨p3,r3,rfl⟩:=HO.out _ _ ho;have HB3:=hid (Below.drew (Below.refl wr.heap.size wr) |>.trans hb3);have j0:=(HB3.out.cell (p:=⟨w.heap.size,0,none⟩) hlr).trans hr0;clear ho hb3))
          all_goals (go_wp2_with fail)
          all_goals exact bodyPost_ret (v:=.tuple #[.pointer none, .string C, .bool false]) (by simp [results,Try.results45,go_sem, *]) rfl ⟨LrOut.no HRES.out ⟨_,_,rfl⟩,hh.out.1.bl.trans (HB3.out.mono hh.out.1.bl.size)⟩
        | some y =>
          obtain ⟨u,rr⟩:=y
          obtain ⟨RR,hRR⟩ : ∃ RR : ByteArray,(⟨rr.toArray⟩ : ByteArray) = RR:=⟨_,rfl⟩
          have HRR:=hid hRR
          have HLT:=hid (show rr.length < C.size by rw [← size_list];exact Wf.parse_lt (v:=u) (r:=rr) hp)
          have HO:=hid fun (e : Ending) (w' : World) (h : LrOut (Wf.parse x n k C.data.toList) wr.drew e w') => (by unfold LrOut at h;rw [hp] at h;dsimp only at h;rw [tx,hRR] at h;exact h : ∃ b,e = .returned (.tuple #[ptr b, .string RR, .bool true]) ∧ LV w' (fun z => wr.drew.heap.size ≤ z) u b)
          have HS2:=hid (show Wf.itemsL (Wf.parse x n k) l C.data.toList = _ by rw [HST.out,hp])
          obtain ⟨i0,hi0,hz0,hz1,hz2⟩:=info_parts info_ptrV
          have HI0:=hid hi0
          have HZ0:=hid hz0
          have HZ1:=hid hz1
          have HZ2:=hid hz2
          clear hi0 hz0 hz1 hz2 hp
          cases rr with
          | nil =>
            have hre : RR.toList.isEmpty = true:=by rw [← hRR,ByteArray.toList_eq];rfl
            have hre2 : RR.toList = []:=List.isEmpty_iff.1 hre
            have HRES:=hid (show Wf.parse x (n + 1) (.list k) (91 :: S.data.toList) = none by rw [HP.out,hh.out.2.2.2,HS2.out];rfl)
            clear hRR
            go_region_held3 (fun w' => w'.cell? ⟨w.heap.size,0,none⟩ = some v) (first | exact j0 | go_keep) ((go_at_call 31;refine HR.out.mono ?_;rintro e w3 ⟨ho,hb3⟩;obtain ⟨pb,rfl,hlv3⟩:=HO.out _ _ ho;have HLV3:=hid hlv3;have HB3:=hid (Below.drew (Below.refl wr.heap.size wr) |>.trans hb3);have j0:=(HB3.out.cell (p:=⟨w.heap.size,0,none⟩) hlr).trans hr0;have j3:=(HB3.out.cell (p:=⟨w.heap.size + 1,3,none⟩) hlv).trans hv3;have jf:=(HB3.out.frozen (p:=⟨w.heap.size + 1,3,none⟩) hlv).trans hf3;have hw3:=Nat.lt_of_lt_of_le hlv HB3.out.size;have HOWN:=hid (owns_below hh.out.2.1.own HB3.out);clear ho hb3 hlv3))
            all_goals (go_wp2_with fail)
            all_goals exact bodyPost_ret (v:=.tuple #[.pointer none, .string C, .bool false]) (by simp [results,Try.results45,go_sem, *]) rfl ⟨LrOut.no HRES.out ⟨_,_,rfl⟩,hh.out.1.bl.trans (HB3.out.mono hh.out.1.bl.size)⟩
          | cons b0 q =>
            have hre : RR.toList.isEmpty = false:=by rw [← hRR,ByteArray.toList_eq];rfl
            have hre2 : RR.toList ≠ []:=by rw [← hRR,ByteArray.toList_eq];exact List.cons_ne_nil _ _
            have hrs : 0 < RR.size:=by rw [← hRR];simp [ByteArray.size]
            have hr1 : 1 ≤ RR.size:=hrs
            obtain ⟨b,hb⟩ : ∃ b,b0.toNat = b:=⟨_,rfl⟩
            have e2 : ∀ h,(RR[0]'h).toNat = b:=fun h => by subst hRR;rw [← hb];rfl
            obtain ⟨Q1,hQ1⟩ : ∃ Q1 : ByteArray,(⟨q.toArray⟩ : ByteArray) = Q1:=⟨_,rfl⟩
            have hqx : RR.extract 1 RR.size = Q1:=by rw [← hQ1,eq_list,suf_list,← hRR];rfl
            have HQ1:=hid (show Q1.data.toList = q by rw [← hQ1])
            have hqs : Q1.size < C.size:=by have:=HLT.out;rw [← size_list,HQ1.out];simp at this;omega
            by_cases h44 : b = 44
            · subst h44
              have hb44 : b0 = 44:=UInt8.toNat_inj.1 (by rw [hb];rfl)
              have HE:=hid (show Wf.itemsL (Wf.parse x n k) l C.data.toList = Wf.itemsL (Wf.parse x n k) (l ++ [u]) q by rw [HS2.out,hb44];rfl)
              clear hRR hb hQ1 hb44
              go_region_held3 (fun w' => w'.cell? ⟨w.heap.size,0,none⟩ = some v) (first | exact j0 | go_keep) ((go_at_call 31;refine HR.out.mono ?_;rintro e w3 ⟨ho,hb3⟩;obtain ⟨pb,rfl,hlv3⟩:=HO.out _ _ ho;have HLV3:=hid hlv3;have HB3:=hid (Below.drew (Below.refl wr.heap.size wr) |>.trans hb3);have j0:=(HB3.out.cell (p:=⟨w.heap.size,0,none⟩) hlr).trans hr0;have j3:=(HB3.out.cell (p:=⟨w.heap.size + 1,3,none⟩) hlv).trans hv3;have jf:=(HB3.out.frozen (p:=⟨w.heap.size + 1,3,none⟩) hlv).trans hf3;have hw3:=Nat.lt_of_lt_of_le hlv HB3.out.size;have HOWN:=hid (owns_below hh.out.2.1.own HB3.out);clear ho hb3 hlv3))
              all_goals (go_wp2_with (at_builtin;refine wpList_append_lies _ rfl (.tmp 66) (.tmp 68) 67 rfl (w.heap.size + 1 + 1) 54 i0 (.pointer none) 1 8 Try.underlying67 HI0.out HZ0.out HZ1.out HZ2.out rfl (by decide) (.slice a m c) m _ (by rfl) (HOWN.out.alloc _) ⟨w3.heap.size,0,none⟩ 1 1 [ptr pb] (by rfl) rfl (World.news_of_block (MapKept.heap_alloc w3 (.cells #[ptr pb] 54)).1) (one_ptr _) (by decide) (by unfold maxLen;omega) (by omega) (by simp;omega) _ rfl ?_;intro g cap w4 hown4 hgrow4 hat4 hlt4;have B4:=hid (below_grown2 (base:=w.heap.size + 1 + 1) hgrow4 (fun g hg => (owns_lt HOWN.out g hg).1) (by simp;omega));have u3 : w4.cell? ⟨w.heap.size + 1,3,none⟩ = some (.slice a m c):=((B4.out.cell (p:=⟨w.heap.size + 1,3,none⟩) (Nat.lt_succ_self _)).trans ((World.cell?_alloc_lt w3 _ ⟨w.heap.size + 1,3,none⟩ hw3).trans j3));have uf : w4.frozen? ⟨w.heap.size + 1,3,none⟩ = false:=((B4.out.frozen (p:=⟨w.heap.size + 1,3,none⟩) (Nat.lt_succ_self _)).trans ((((Below.refl w3.heap.size w3).alloc (Nat.le_refl _) _).frozen (p:=⟨w.heap.size + 1,3,none⟩) hw3).trans jf));have hlt4v : w.heap.size + 1 < w4.heap.size:=Nat.lt_of_lt_of_le hw3 (Nat.le_trans (by simp) B4.out.size);have HOWN4:=hid hown4;have HG4:=hid hgrow4;have HAT4:=hid hat4;clear hown4 hgrow4 hat4))
              have B3X:=hid (HB3.out.trans (((Below.refl w3.heap.size w3).alloc (Nat.le_refl _) (.cells #[ptr pb] 54)).mono HB3.out.size))
              have KBN:=hid (hh.out.2.1.put B3X.out HG4.out HOWN4.out HAT4.out (LV.below (W:=w3) HLV3.out ((Below.refl _ _).alloc (Nat.le_refl _) _)))
              have VBN:=hid ((hh.out.1.step (hh.out.1.bl.trans (B3X.out.mono hh.out.1.bl.size)) B3X.out hlr hlv).put B4.out (by omega) (by omega) (by omega) 3 (by omega) (.slice (some ⟨g,0,none⟩) (m + 1) cap))
              have C2N:=hid (show (w4.setCell ⟨w.heap.size + 1,3,none⟩ (.slice (some ⟨g,0,none⟩) (m + 1) cap)).cell? ⟨w.heap.size + 1,2,none⟩ = some (.slice none 0 0) from (World.cell?_setCell_other w4 _ _ _ (by simp)).trans ((B4.out.cell (p:=⟨w.heap.size + 1,2,none⟩) (Nat.lt_succ_self _)).trans ((B3X.out.cell (p:=⟨w.heap.size + 1,2,none⟩) hlv).trans hh.out.2.2.1)))
              all_goals go_roundw
              all_goals first
              | exact ⟨Q1,_,m + 1,cap,_,_,rfl,by omega,by omega,hid ⟨VBN.out,KBN.out,C2N.out,by rw [hh.out.2.2.2,HE.out,HQ1.out]⟩⟩
              | (simp only [strN];omega)
            · by_cases h93 : b = 93
              · subst h93
                have hb93 : b0 = 93:=UInt8.toNat_inj.1 (by rw [hb];rfl)
                have HRES:=hid (show Wf.parse x (n + 1) (.list k) (91 :: S.data.toList) = some (.mk 91 [] 0 (l ++ [u]),q) by
                  have h9 : l.length + 1 ≤ 20:=by rw [HLL.out];omega
                  rw [HP.out,hh.out.2.2.2,HS2.out,hb93]
                  show Option.map _ (if l.length + 1 ≤ 20 then some (l ++ [u],q) else none) = _
                  rw [if_pos h9]
                  rfl)
                clear hRR hb hQ1 hb93 h44
                go_region_held3 (fun w' => w'.cell? ⟨w.heap.size,0,none⟩ = some v) (first | exact j0 | go_keep) ((go_at_call 31;refine HR.out.mono ?_;rintro e w3 ⟨ho,hb3⟩;obtain ⟨pb,rfl,hlv3⟩:=HO.out _ _ ho;have HLV3:=hid hlv3;have HB3:=hid (Below.drew (Below.refl wr.heap.size wr) |>.trans hb3);have j0:=(HB3.out.cell (p:=⟨w.heap.size,0,none⟩) hlr).trans hr0;have j3:=(HB3.out.cell (p:=⟨w.heap.size + 1,3,none⟩) hlv).trans hv3;have jf:=(HB3.out.frozen (p:=⟨w.heap.size + 1,3,none⟩) hlv).trans hf3;have hw3:=Nat.lt_of_lt_of_le hlv HB3.out.size;have HOWN:=hid (owns_below hh.out.2.1.own HB3.out);clear ho hb3 hlv3))
                all_goals (go_wp2_with (at_builtin;refine wpList_append_lies _ rfl (.tmp 66) (.tmp 68) 67 rfl (w.heap.size + 1 + 1) 54 i0 (.pointer none) 1 8 Try.underlying67 HI0.out HZ0.out HZ1.out HZ2.out rfl (by decide) (.slice a m c) m _ (by rfl) (HOWN.out.alloc _) ⟨w3.heap.size,0,none⟩ 1 1 [ptr pb] (by rfl) rfl (World.news_of_block (MapKept.heap_alloc w3 (.cells #[ptr pb] 54)).1) (one_ptr _) (by decide) (by unfold maxLen;omega) (by omega) (by simp;omega) _ rfl ?_;intro g cap w4 hown4 hgrow4 hat4 hlt4;have B4:=hid (below_grown2 (base:=w.heap.size + 1 + 1) hgrow4 (fun g hg => (owns_lt HOWN.out g hg).1) (by simp;omega));have u3 : w4.cell? ⟨w.heap.size + 1,3,none⟩ = some (.slice a m c):=((B4.out.cell (p:=⟨w.heap.size + 1,3,none⟩) (Nat.lt_succ_self _)).trans ((World.cell?_alloc_lt w3 _ ⟨w.heap.size + 1,3,none⟩ hw3).trans j3));have uf : w4.frozen? ⟨w.heap.size + 1,3,none⟩ = false:=((B4.out.frozen (p:=⟨w.heap.size + 1,3,none⟩) (Nat.lt_succ_self _)).trans ((((Below.refl w3.heap.size w3).alloc (Nat.le_refl _) _).frozen (p:=⟨w.heap.size + 1,3,none⟩) hw3).trans jf));have hlt4v : w.heap.size + 1 < w4.heap.size:=Nat.lt_of_lt_of_le hw3 (Nat.le_trans (by simp) B4.out.size);have HOWN4:=hid hown4;have HG4:=hid hgrow4;have HAT4:=hid hat4;clear hown4 hgrow4 hat4))
                have B3X:=hid (HB3.out.trans (((Below.refl w3.heap.size w3).alloc (Nat.le_refl _) (.cells #[ptr pb] 54)).mono HB3.out.size))
                have KBN:=hid (hh.out.2.1.put B3X.out HG4.out HOWN4.out HAT4.out (LV.below (W:=w3) HLV3.out ((Below.refl _ _).alloc (Nat.le_refl _) _)))
                have VBN:=hid ((hh.out.1.step (hh.out.1.bl.trans (B3X.out.mono hh.out.1.bl.size)) B3X.out hlr hlv).put B4.out (by omega) (by omega) (by omega) 3 (by omega) (.slice (some ⟨g,0,none⟩) (m + 1) cap))
                have C2N:=hid (show (w4.setCell ⟨w.heap.size + 1,3,none⟩ (.slice (some ⟨g,0,none⟩) (m + 1) cap)).cell? ⟨w.heap.size + 1,2,none⟩ = some (.slice none 0 0) from (World.cell?_setCell_other w4 _ _ _ (by simp)).trans ((B4.out.cell (p:=⟨w.heap.size + 1,2,none⟩) (Nat.lt_succ_self _)).trans ((B3X.out.cell (p:=⟨w.heap.size + 1,2,none⟩) hlv).trans hh.out.2.2.1)))
                all_goals exact bodyPost_ret (v:=.tuple #[ptr (w.heap.size + 1), .string Q1, .bool true]) (by simp [results,Try.results45,go_sem, *]) rfl ⟨LrOut.yes HRES.out ⟨w.heap.size + 1,by rw [← HQ1.out],KBN.out.list VBN.out C2N.out HKH.out⟩,VBN.out.bl⟩
              · have m1 : ((b : Int) != 44) = true:=by rw [bne_iff_ne];omega
                have m2 : ((b : Int) != 93) = true:=by rw [bne_iff_ne];omega
                have HRES:=hid (show Wf.parse x (n + 1) (.list k) (91 :: S.data.toList) = none by
                  rw [HP.out,hh.out.2.2.2,HS2.out]
                  dsimp only
                  split
                  · rename_i heq;rw [List.cons.injEq] at heq;exact absurd (by rw [← hb,heq.1];rfl) h44
                  · rename_i heq;rw [List.cons.injEq] at heq;exact absurd (by rw [← hb,heq.1];rfl) h93
                  · rfl)
                clear hRR hb hQ1 h44 h93
                go_region_held3 (fun w' => w'.cell? ⟨w.heap.size,0,none⟩ = some v) (first | exact j0 | go_keep) ((go_at_call 31;refine HR.out.mono ?_;rintro e w3 ⟨ho,hb3⟩;obtain ⟨pb,rfl,hlv3⟩:=HO.out _ _ ho;have HLV3:=hid hlv3;have HB3:=hid (Below.drew (Below.refl wr.heap.size wr) |>.trans hb3);have j0:=(HB3.out.cell (p:=⟨w.heap.size,0,none⟩) hlr).trans hr0;have j3:=(HB3.out.cell (p:=⟨w.heap.size + 1,3,none⟩) hlv).trans hv3;have jf:=(HB3.out.frozen (p:=⟨w.heap.size + 1,3,none⟩) hlv).trans hf3;have hw3:=Nat.lt_of_lt_of_le hlv HB3.out.size;have HOWN:=hid (owns_below hh.out.2.1.own HB3.out);clear ho hb3 hlv3))
                all_goals (go_wp2_with fail)
                all_goals exact bodyPost_ret (v:=.tuple #[.pointer none, .string C, .bool false]) (by simp [results,Try.results45,go_sem, *]) rfl ⟨LrOut.no HRES.out ⟨_,_,rfl⟩,hh.out.1.bl.trans (HB3.out.mono hh.out.1.bl.size)⟩
      · have hm : m = 20:=by omega
        subst hm
        have HRES:=hid (show Wf.parse x (n + 1) (.list k) (91 :: S.data.toList) = none by rw [HP.out,hh.out.2.2.2,Wf.itemsL_full (fun s v r h => Wf.parse_lt (v:=v) (r:=r) h) (by rw [HLL.out];exact Nat.le_refl _)];rfl)
        go_wp2_with fail
        exact bodyPost_ret (v:=.tuple #[.pointer none, .string C, .bool false]) (by simp [results,Try.results45,go_sem, *]) rfl ⟨LrOut.no HRES.out ⟨_,_,rfl⟩,hh.out.1.bl⟩
set_option maxRecDepth 20000 in
set_option maxHeartbeats 1000000 in
theorem l4list_nil (q : List UInt8) (hS : S.data.toList = 93 :: q) : Calls Try.prog 45 #[.agg #[v], .string S,tx (Wf.K.list k).text, .int .i64 D] w fun e w' => LrOut (Wf.parse x (n + 1) (.list k) (91 :: S.data.toList)) w e w' ∧ Below w.heap.size w w':=by
  have HP:=hid (show Wf.parse x (n + 1) (.list k) (91 :: S.data.toList) = some (.mk 91 [] 0 [],q) by rw [hS];exact Wf.parse_list_nil x n k q)
  obtain ⟨KT,hKT⟩ : ∃ KT : ByteArray,(⟨(Wf.K.list k).text.toArray⟩ : ByteArray) = KT:=⟨_,rfl⟩
  have HKH:=hid (show KT.data.toList.head? = some 91 by rw [← hKT];rfl)
  have hss : 1 ≤ S.size:=by rw [← size_list,hS];simp
  have hs0 : 0 < S.size:=hss
  obtain ⟨Q1,hQ1⟩ : ∃ Q1 : ByteArray,(⟨q.toArray⟩ : ByteArray) = Q1:=⟨_,rfl⟩
  have kx : ∀ wz,(Instr.slice 9 (.string S) (some (.int .i64 1)) none none).run Try.prog wz = .ok (.string Q1) wz:=fun wz => by
    have h:=sl_suf S 1 hss wz
    have he : S.extract 1 S.size = Q1:=by rw [← hQ1,eq_list,suf_list,hS];rfl
    rw [he] at h
    exact h
  have HQ1:=hid hQ1
  have e1 : ∀ h,(S[0]'h).toNat = 93:=fun h => by
    obtain ⟨c,hc,e⟩:=byte_at S 0 hs0
    rw [hS] at hc
    simp at hc
    rw [e h,← hc]
    rfl
  have hse : S.toList.isEmpty = false:=by rw [ByteArray.toList_eq,hS];rfl
  have ST:=hid fun W1 h => start_list w v KT W1 h
  rw [tx,hKT]
  clear hKT hQ1 hS
  go_enter Try.func45,Try.ntmps45
  go_wp2_with fail
  obtain ⟨vb0,kb0,t20⟩:=ST.out _ rfl
  have VB0:=hid vb0
  have KB0:=hid kb0
  have T20:=hid t20
  clear vb0 kb0 t20
  go_quiet (fail)
  all_goals (go_wp2_with fail)
  all_goals exact bodyPost_ret (v:=.tuple #[ptr (w.heap.size + 1), .string Q1, .bool true]) (by simp [results,Try.results45,go_sem, *]) rfl ⟨LrOut.yes HP.out ⟨w.heap.size + 1,by rw [← HQ1.out],LV.below (KB0.out.list VB0.out T20.out HKH.out) ⟨rfl,rfl,rfl,Nat.le_refl _,fun _ _ => rfl⟩⟩,VB0.out.bl.trans ⟨rfl,rfl,rfl,Nat.le_refl _,fun _ _ => rfl⟩⟩
theorem l4list (hS : S.size ≤ 1048576) (hD : D = (n : Int) + 1) (hn : n ≤ 1000) (IH : LR x v W n k) (hW : Below W.heap.size W w) : Calls Try.prog 45 #[.agg #[v], .string S,tx (Wf.K.list k).text, .int .i64 D] w fun e w' => LrOut (Wf.parse x (n + 1) (.list k) (91 :: S.data.toList)) w e w' ∧ Below w.heap.size w w':=by
  by_cases h : S.data.toList.head? = some 93
  · cases hl : S.data.toList with
    | nil => rw [hl] at h;simp at h
    | cons a q =>
      rw [hl] at h
      simp at h
      subst h
      have:=l4list_nil x v n k S D w q hl
      rw [hl] at this
      exact this
  · exact l4list_items x v W n k S D w hS hD hn h IH hW
end

structure RB (w wr : World) (vb base : Nat) (ta : Option Addr) (mt tc : Nat) (a : Option Addr) (m c : Nat) (gs : List Nat) (l : List Wf.V) (bs : List Nat) : Prop where
  lt : vb < base
  le : w.heap.size ≤ vb
  sz : base ≤ wr.heap.size
  v2 : wr.cell? ⟨vb,2,none⟩ = some (.slice ta mt tc)
  f2 : wr.frozen? ⟨vb,2,none⟩ = false
  v3 : wr.cell? ⟨vb,3,none⟩ = some (.slice a m c)
  f3 : wr.frozen? ⟨vb,3,none⟩ = false
  ownT : wr.ownsRow base 3 1 (.slice ta mt tc) mt (gs.map ix)
  ownK : wr.ownsRow base 54 1 (.slice a m c) m (bs.map ptr)
  apart : ∀ y,(Value.slice ta mt tc).ownBlock = some y → (Value.slice a m c).ownBlock = some y → False
  hg : gs.length = mt
  hl : bs.length = m
  vals : LVs wr (fun y => base ≤ y ∧ some y ≠ (Value.slice a m c).ownBlock ∧ some y ≠ (Value.slice ta mt tc).ownBlock) l bs
section
variable {w wr : World} {vb base mt tc m c : Nat} {ta a : Option Addr} {gs : List Nat} {l : List Wf.V} {bs : List Nat}
theorem RB.step (h : RB w wr vb base ta mt tc a m c gs l bs) {w2 : World} (hb : Below wr.heap.size wr w2) : RB w w2 vb base ta mt tc a m c gs l bs:=by
  have hv : vb < wr.heap.size:=Nat.lt_of_lt_of_le h.lt h.sz
  exact ⟨h.lt,h.le,Nat.le_trans h.sz hb.size,(hb.cell (p:=⟨vb,2,none⟩) hv).trans h.v2,(hb.frozen (p:=⟨vb,2,none⟩) hv).trans h.f2,(hb.cell (p:=⟨vb,3,none⟩) hv).trans h.v3,(hb.frozen (p:=⟨vb,3,none⟩) hv).trans h.f3,owns_below h.ownT hb,owns_below h.ownK hb,h.apart,h.hg,h.hl,LVs.keep (fun y hy hlt => ⟨hy,hb.block y hlt⟩) hb.size _ _ h.vals⟩
theorem owns_grown {wx w4 : World} {e : TypeId} {size n : Nat} {v v' : Value} {xs : List Value} (h : wx.ownsRow base e size v n xs) (hg : wx.grownBy w4 v'.ownBlock) (ha : ∀ y,v.ownBlock = some y → some y ≠ v'.ownBlock) : w4.ownsRow base e size v n xs:=by
  obtain ⟨h1,h2 | ⟨g,cap,cur,rfl,h4,h5,h6⟩⟩:=h
  · exact ⟨h1, .inl h2⟩
  · refine ⟨h1, .inr ⟨g,cap,cur,rfl,h4, ?_,h6⟩⟩
    rw [hg.block g (Array.getElem?_eq_some_iff.1 h5).1 (ha g rfl)]
    exact h5
theorem RB.putT (h : RB w wr vb base ta mt tc a m c gs l bs) {wx w4 : World} (hx : Below wr.heap.size wr wx) (hg : wx.grownBy w4 (Value.slice ta mt tc).ownBlock) {g cap g0 : Nat}
    (ho : w4.ownsRow base 3 1 (.slice (some ⟨g,0,none⟩) (mt + 1) cap) (mt + 1) (gs.map ix ++ [ix g0])) (hat : (Value.slice ta mt tc).ownBlock = some g ∨ g = wx.heap.size) :
    RB w (w4.setCell ⟨vb,2,none⟩ (.slice (some ⟨g,0,none⟩) (mt + 1) cap)) vb base (some ⟨g,0,none⟩) (mt + 1) cap a m c (gs ++ [g0]) l bs ∧
    (∀ y,base ≤ y → y < wx.heap.size → some y ≠ (Value.slice a m c).ownBlock → some y ≠ (Value.slice ta mt tc).ownBlock → some y ≠ (Value.slice (some ⟨g,0,none⟩) (mt + 1) cap).ownBlock ∧ (w4.setCell ⟨vb,2,none⟩ (.slice (some ⟨g,0,none⟩) (mt + 1) cap)).heap[y]? = wx.heap[y]?):=by
  have hs:=h.step hx
  have hlo:=owns_lt hs.ownT
  have hB : Below base wx w4:=below_grown2 hg (fun g hgk => (hlo g hgk).1) hs.sz
  have hss : (w4.setCell ⟨vb,2,none⟩ (.slice (some ⟨g,0,none⟩) (mt + 1) cap)).heap.size = w4.heap.size:=by simp
  have hloc : (Value.slice (some ⟨g,0,none⟩) (mt + 1) cap).ownBlock = (Value.slice ta mt tc).ownBlock ∨ (Value.slice (some ⟨g,0,none⟩) (mt + 1) cap).ownBlock = some wx.heap.size:=by
    rcases hat with hat | hat
    · exact .inl hat.symm
    · exact .inr (by rw [← hat];rfl)
  have hl:=h.lt
  have hkeep : ∀ y,base ≤ y → y < wx.heap.size → some y ≠ (Value.slice ta mt tc).ownBlock → some y ≠ (Value.slice (some ⟨g,0,none⟩) (mt + 1) cap).ownBlock ∧ (w4.setCell ⟨vb,2,none⟩ (.slice (some ⟨g,0,none⟩) (mt + 1) cap)).heap[y]? = wx.heap[y]?:=fun y hy1 hy2 hy3 => by
    obtain ⟨e1,e2⟩:=apart_step hg hloc hy2 hy3
    refine ⟨e2, ?_⟩
    rw [Below.heap_setCell w4 ⟨vb,2,none⟩ _ _ (by show y ≠ vb;omega)]
    exact e1
  have hap : ∀ y,(Value.slice a m c).ownBlock = some y → some y ≠ (Value.slice ta mt tc).ownBlock:=fun y h1 h2 => h.apart y h2.symm h1
  refine ⟨⟨h.lt,h.le,by rw [hss];exact Nat.le_trans hs.sz hB.size,World.cell?_setCell_same w4 _ _ ((hB.cell (p:=⟨vb,2,none⟩) h.lt).trans hs.v2), ?_,(World.cell?_setCell_other w4 _ _ _ (by simp)).trans ((hB.cell (p:=⟨vb,3,none⟩) h.lt).trans hs.v3), ?_, ?_,ownsRow_setCell_below (owns_grown hs.ownK hg hap) h.lt _, ?_,by rw [List.length_append,h.hg];rfl,h.hl, ?_⟩,fun y h1 h2 _ h4 => hkeep y h1 h2 h4⟩
  · have:=(hB.frozen (p:=⟨vb,2,none⟩) h.lt).trans hs.f2
    simpa using this
  · have:=(hB.frozen (p:=⟨vb,3,none⟩) h.lt).trans hs.f3
    simpa using this
  · rw [List.map_append]
    exact ownsRow_setCell_below ho h.lt _
  · intro y h1 h2
    have hk:=owns_lt hs.ownK y h2
    rcases hloc with h3 | h3
    · rw [h3] at h1;exact h.apart y h1 h2
    · rw [h3] at h1;have:=Option.some.inj h1;omega
  · exact LVs.keep (fun y hp hlt => by
      obtain ⟨e1,e2⟩:=hkeep y hp.1 hlt hp.2.2
      exact ⟨⟨hp.1,hp.2.1,e1⟩,e2⟩) (by rw [hss];exact hB.size) _ _ hs.vals
theorem RB.putK (h : RB w wr vb base ta mt tc a m c gs l bs) {wx w4 : World} (hx : Below wr.heap.size wr wx) (hg : wx.grownBy w4 (Value.slice a m c).ownBlock) {g cap b : Nat} {u : Wf.V}
    (ho : w4.ownsRow base 54 1 (.slice (some ⟨g,0,none⟩) (m + 1) cap) (m + 1) (bs.map ptr ++ [ptr b])) (hat : (Value.slice a m c).ownBlock = some g ∨ g = wx.heap.size)
    (hv : LV wx (fun y => base ≤ y ∧ some y ≠ (Value.slice a m c).ownBlock ∧ some y ≠ (Value.slice ta mt tc).ownBlock) u b) :
    RB w (w4.setCell ⟨vb,3,none⟩ (.slice (some ⟨g,0,none⟩) (m + 1) cap)) vb base ta mt tc (some ⟨g,0,none⟩) (m + 1) cap gs (l ++ [u]) (bs ++ [b]):=by
  have hs:=h.step hx
  have hlo:=owns_lt hs.ownK
  have hB : Below base wx w4:=below_grown2 hg (fun g hgk => (hlo g hgk).1) hs.sz
  have hss : (w4.setCell ⟨vb,3,none⟩ (.slice (some ⟨g,0,none⟩) (m + 1) cap)).heap.size = w4.heap.size:=by simp
  have hloc : (Value.slice (some ⟨g,0,none⟩) (m + 1) cap).ownBlock = (Value.slice a m c).ownBlock ∨ (Value.slice (some ⟨g,0,none⟩) (m + 1) cap).ownBlock = some wx.heap.size:=by
    rcases hat with hat | hat
    · exact .inl hat.symm
    · exact .inr (by rw [← hat];rfl)
  have hl:=h.lt
  have hkeep : ∀ y,base ≤ y → y < wx.heap.size → some y ≠ (Value.slice a m c).ownBlock → some y ≠ (Value.slice (some ⟨g,0,none⟩) (m + 1) cap).ownBlock ∧ (w4.setCell ⟨vb,3,none⟩ (.slice (some ⟨g,0,none⟩) (m + 1) cap)).heap[y]? = wx.heap[y]?:=fun y hy1 hy2 hy3 => by
    obtain ⟨e1,e2⟩:=apart_step hg hloc hy2 hy3
    refine ⟨e2, ?_⟩
    rw [Below.heap_setCell w4 ⟨vb,3,none⟩ _ _ (by show y ≠ vb;omega)]
    exact e1
  have hap : ∀ y,(Value.slice ta mt tc).ownBlock = some y → some y ≠ (Value.slice a m c).ownBlock:=fun y h1 h2 => h.apart y h1 h2.symm
  have hall : ∀ {v : Wf.V} {b : Nat},LV wx (fun y => base ≤ y ∧ some y ≠ (Value.slice a m c).ownBlock ∧ some y ≠ (Value.slice ta mt tc).ownBlock) v b → LV (w4.setCell ⟨vb,3,none⟩ (.slice (some ⟨g,0,none⟩) (m + 1) cap)) (fun y => base ≤ y ∧ some y ≠ (Value.slice (some ⟨g,0,none⟩) (m + 1) cap).ownBlock ∧ some y ≠ (Value.slice ta mt tc).ownBlock) v b:=fun hv => LV.keep (fun y hp hlt => by
      obtain ⟨e1,e2⟩:=hkeep y hp.1 hlt hp.2.1
      exact ⟨⟨hp.1,e1,hp.2.2⟩,e2⟩) (by rw [hss];exact hB.size) _ _ hv
  refine ⟨h.lt,h.le,by rw [hss];exact Nat.le_trans hs.sz hB.size,(World.cell?_setCell_other w4 _ _ _ (by simp)).trans ((hB.cell (p:=⟨vb,2,none⟩) h.lt).trans hs.v2), ?_,World.cell?_setCell_same w4 _ _ ((hB.cell (p:=⟨vb,3,none⟩) h.lt).trans hs.v3), ?_,ownsRow_setCell_below (owns_grown hs.ownT hg hap) h.lt _, ?_, ?_,h.hg,by rw [List.length_append,h.hl];rfl,LVs.snoc (hall hv) ?_⟩
  · have:=(hB.frozen (p:=⟨vb,2,none⟩) h.lt).trans hs.f2
    simpa using this
  · have:=(hB.frozen (p:=⟨vb,3,none⟩) h.lt).trans hs.f3
    simpa using this
  · rw [List.map_append]
    exact ownsRow_setCell_below ho h.lt _
  · intro y h1 h2
    have hk:=owns_lt hs.ownT y h1
    rcases hloc with h3 | h3
    · rw [h3] at h2;exact h.apart y h1 h2
    · rw [h3] at h2;have:=Option.some.inj h2;omega
  · exact LVs.keep (fun y hp hlt => by
      obtain ⟨e1,e2⟩:=hkeep y hp.1 hlt hp.2.1
      exact ⟨⟨hp.1,e1,hp.2.2⟩,e2⟩) (by rw [hss];exact hB.size) _ _ hs.vals
end
theorem one_int (g : Nat) : ∀ u ∈ [ix g],u.oneCell' = true:=by
  intro u hu
  rw [List.mem_singleton.1 hu]
  rfl
def fl (gs : List Nat) (us : List Wf.V) : List Wf.V:=List.zipWith (fun g u => Wf.V.mk 61 [] g [u]) gs us
theorem fl_snoc {gs : List Nat} {us : List Wf.V} (h : gs.length = us.length) (g : Nat) (u : Wf.V) : fl (gs ++ [g]) (us ++ [u]) = fl gs us ++ [.mk 61 [] g [u]]:=by
  unfold fl
  rw [List.zipWith_append h]
  rfl
theorem fl_tags : ∀ {gs : List Nat} {us : List Wf.V},gs.length = us.length → (fl gs us).map Wf.V.tag = gs:=by
  intro gs
  induction gs with
  | nil => intro us _;rfl
  | cons g gs ih =>
    intro us h
    cases us with
    | nil => simp at h
    | cons u us =>
      simp only [fl,List.zipWith_cons_cons,List.map_cons]
      rw [show (List.zipWith (fun g u => Wf.V.mk 61 [] g [u]) gs us).map Wf.V.tag = gs from ih (by simpa using h)]
      rfl
theorem fl_lvs {W : World} {P : Nat → Prop} : ∀ {gs : List Nat} {us : List Wf.V} {bs : List Nat},gs.length = us.length → LVs W P us bs → LVs W P (fl gs us) bs:=by
  intro gs
  induction gs with
  | nil =>
    intro us bs h hv
    cases us with
    | nil => exact hv
    | cons u us => simp at h
  | cons g gs ih =>
    intro us bs h hv
    cases us with
    | nil => simp at h
    | cons u us =>
      simp only [LVs] at hv
      obtain ⟨b,bs',rfl,h1,h2⟩:=hv
      simp only [fl,List.zipWith_cons_cons,LVs]
      exact ⟨b,bs',rfl,LV.field.2 h1,ih (by simpa using h) h2⟩
def lastG (gs : List Nat) : Nat:=gs.getLast?.getD 0
theorem lastG_snoc (gs : List Nat) (g : Nat) : lastG (gs ++ [g]) = g:=by simp [lastG]
theorem lastG_get {gs : List Nat} {i : Nat} (h : gs.length = i + 1) : lastG gs = gs[i]'(by omega):=by
  unfold lastG
  have e : gs.length - 1 = i:=by omega
  rw [List.getLast?_eq_getElem?,e,List.getElem?_eq_getElem (by omega)]
  rfl
theorem tok_no {t : Wf.Ty} {p : Wf.K → Wf.Reads} {s : List UInt8} (h : tagF t s = none) : Wf.fieldTok t p s = none:=by
  unfold tagF at h
  cases hp : Wf.plainN (s.takeWhile Wf.isDig) 200 with
  | none => exact Wf.fieldTok_no t p (by rw [Wf.numTok,hp];rfl)
  | some g =>
    rw [hp] at h
    exact Wf.fieldTok_tag t p (g:=g) (r:=s.dropWhile Wf.isDig) (by rw [Wf.numTok,hp];rfl) h
theorem tok_eq {t : Wf.Ty} {p : Wf.K → Wf.Reads} {s : List UInt8} (h : (s.dropWhile Wf.isDig).head? ≠ some 61) : Wf.fieldTok t p s = none:=by
  cases hp : Wf.plainN (s.takeWhile Wf.isDig) 200 with
  | none => exact Wf.fieldTok_no t p (by rw [Wf.numTok,hp];rfl)
  | some g => exact Wf.fieldTok_eq t p (g:=g) (r:=s.dropWhile Wf.isDig) (by rw [Wf.numTok,hp];rfl) h
theorem tok_yes {t : Wf.Ty} {p : Wf.K → Wf.Reads} {s q : List UInt8} {f : Wf.Fd} (h : tagF t s = some f) (hq : s.dropWhile Wf.isDig = 61 :: q) : Wf.fieldTok t p s = (p f.kind q).map fun y => (f,y.1,y.2):=by
  unfold tagF at h
  cases hp : Wf.plainN (s.takeWhile Wf.isDig) 200 with
  | none => rw [hp] at h;cases h
  | some g =>
    rw [hp] at h
    exact Wf.fieldTok_some t p (g:=g) (r:=q) (by rw [Wf.numTok,hp,hq];rfl) h
theorem tagF_mem {t : Wf.Ty} {s : List UInt8} {f : Wf.Fd} (h : tagF t s = some f) : f ∈ t.fields:=by
  unfold tagF at h
  cases hp : Wf.plainN (s.takeWhile Wf.isDig) 200 with
  | none => rw [hp] at h;cases h
  | some g => rw [hp] at h;exact (Wf.field_mem h).1
structure TYc (wr : World) (b q n c : Nat) (N : ByteArray) (fa : Option Addr) : Prop where
  lt : b < wr.heap.size
  t0 : wr.cell? ⟨b,0,none⟩ = some (.int .u8 q)
  t1 : wr.cell? ⟨b,1,none⟩ = some (.string N)
  t2 : wr.cell? ⟨b,2,none⟩ = some (.slice fa n c)
theorem TYc.step {wr w2 : World} {b q n c B : Nat} {N : ByteArray} {fa : Option Addr} (h : TYc wr b q n c N fa) (hb : Below B wr w2) (hB : b < B) : TYc w2 b q n c N fa :=
  ⟨Nat.lt_of_lt_of_le h.lt hb.size,(hb.cell (p:=⟨b,0,none⟩) hB).trans h.t0,(hb.cell (p:=⟨b,1,none⟩) hB).trans h.t1,(hb.cell (p:=⟨b,2,none⟩) hB).trans h.t2⟩
theorem start_lrec (w : World) (v : Value) (q n c : Nat) (N KT : ByteArray) (fa : Option Addr) (W1 : World) (hW1 : ((w.alloc (.cells #[v] 65)).alloc (.cells #[.int .u8 q, .string N, .slice fa n c] 78)).alloc (.cells #[.string KT, .string ⟨#[82]⟩, .slice none 0 0, .slice none 0 0] 69) = W1) :
    VBk v w W1 w.heap.size (w.heap.size + 1 + 1) KT ⟨#[82]⟩ ∧ RB w W1 (w.heap.size + 1 + 1) (w.heap.size + 1 + 1 + 1) none 0 0 none 0 0 [] [] [] ∧ TYc W1 (w.heap.size + 1) q n c N fa:=by
  have hB : Below w.heap.size w W1:=by
    rw [← hW1]
    exact ((((Below.refl _ _).alloc (Nat.le_refl _) _).alloc (by simp) _).alloc (by simp;omega) _)
  subst hW1
  refine ⟨⟨hB, ?_, ?_, ?_, ?_, ?_⟩,⟨?_, ?_, ?_, ?_, ?_, ?_, ?_,World.ownsRow_nil _ _ _ _,World.ownsRow_nil _ _ _ _, ?_,rfl,rfl,by simp only [LVs]⟩,⟨?_, ?_, ?_, ?_⟩⟩
  all_goals first | (simp [go_sem];done) | (simp [go_sem];omega) | omega | (intro y h;cases h)
theorem RB.record {v : Value} {w wr : World} {vb base m mt tc c : Nat} {ta a : Option Addr} {gs : List Nat} {us : List Wf.V} {bs : List Nat} {rb : Nat} {KT : ByteArray} (h : RB w wr vb base ta mt tc a m c gs us bs) (hgl : gs.length = us.length) (hv : VBk v w wr rb vb KT ⟨#[82]⟩) (hk : KT.data.toList.head? = some 64) : LV wr (fun y => w.heap.size ≤ y) (.mk 82 [] 0 (fl gs us)) vb:=by
  have hbl : (bs.map ptr).length = m:=by rw [List.length_map,h.hl]
  have hgm : (gs.map ix).length = mt:=by rw [List.length_map,h.hg]
  obtain ⟨b,hb,hrow⟩:=RowAt.of_owns (xs:=bs.map ptr) (by rw [hbl];exact h.ownK)
  obtain ⟨b2,hb2,hrow2⟩:=RowAt.of_owns (xs:=gs.map ix) (by rw [hgm];exact h.ownT)
  have h1:=h.lt
  have h3:=h.le
  have ht : tagsOf 82 0 (fl gs us) = gs:=by unfold tagsOf;rw [if_pos rfl,fl_tags hgl]
  exact LV.mk (kd:=KT.data.toList) (t:=[82]) (tb:=b2) (kb:=b) (bs:=bs) (by decide) h3 hv.lt hv.v0 hv.v1 h.v2 h.v3 (by rw [ht];exact hrow2) (.inr (by omega)) hrow (.inr (by omega)) ⟨hk,rfl⟩ (fl_lvs hgl (LVs.keep (fun y hp hlt => ⟨by have:=hp.1;omega,rfl⟩) (Nat.le_refl _) _ _ h.vals))
end Go.Proofs.Ytidjpalnmnehmaa
