/- Packed by pack.py: Ea. -/
import Derived.Shelf.Strings.SlTrimAscii
import Derived.Shelf.Strings.Prefix
import Derived.Shelf.Strings.Cut
import Derived.Shelf.Strings.Search3
import Derived.Shelf.Strings.Split
import Derived.Shelf.Strings.SplitShaped
import Derived.Shelf.Strings.Shaped
import Derived.Shelf.Small.Wraps
import Derived.Shelf.Strings.OnBuilder
import Derived.WalkKit
import Derived.Lib.UnsafeStr
import Derived.Lib.Hide
import Derived.ProofKit
import Derived.OpenShut
import Derived.BigQuiet
import Derived.WalkSpells
import Derived.KernelRfl
import Derived.Below
import Derived.Lib.SlTrimSet
import Derived.Deep.QuietTactic
import Derived.Deep.RegionWith
import Derived.Deep.RegionHeld3
import Derived.IntWalk
import Derived.Deep.DeepCutAuto
import Derived.Lib.Split
import Derived.Lib.IndexMore
import Derived.Lib.CountLaws
import Derived.Lib.SplitLaws
import Derived.Deep.AppendLies
import Derived.Deep.RegionLaw
import Derived.Maps.Own
import Derived.Maps.OwnOps
import Derived.Maps.OwnSet
import Derived.Maps.Views
import Derived.StringKeys
import Derived.Maps.AppendAt
import Derived.Deep.CutRange
import Derived.Deep.RegionHeldLaw
import Derived.WalkSmall
import Derived.Lib.PathFns
import Derived.Deep.WholeRow
import Derived.Test.YtidjpalnmnehmaaRows
import Derived.Test.YtidjpalnmnehmaaF0
import Derived.Test.YtidjpalnmnehmaaF1
import Derived.Test.YtidjpalnmnehmaaF2
import Derived.Test.YtidjpalnmnehmaaF3
import Derived.Test.YtidjpalnmnehmaaF4
import Derived.Test.YtidjpalnmnehmaaF5
import Derived.Test.YtidjpalnmnehmaaF6
import Derived.Test.YtidjpalnmnehmaaF7
import Derived.Test.YtidjpalnmnehmaaF8
import Derived.Test.YtidjpalnmnehmaaF9
import Derived.Test.YtidjpalnmnehmaaF10
import Derived.Test.YtidjpalnmnehmaaF11
import Derived.Test.YtidjpalnmnehmaaF12
import Derived.Test.YtidjpalnmnehmaaF13
import Derived.Test.YtidjpalnmnehmaaF14
import Derived.Test.YtidjpalnmnehmaaF15
import Derived.Test.YtidjpalnmnehmaaF16
import Derived.Test.YtidjpalnmnehmaaF17
import Derived.Test.YtidjpalnmnehmaaF18
import Derived.Test.YtidjpalnmnehmaaF19
import Derived.Test.YtidjpalnmnehmaaF20
import Derived.Test.YtidjpalnmnehmaaF21
import Derived.Test.YtidjpalnmnehmaaF22
import Derived.Test.YtidjpalnmnehmaaF23
import Derived.Test.YtidjpalnmnehmaaF24
import Derived.Test.YtidjpalnmnehmaaF26
import Derived.Test.YtidjpalnmnehmaaF27
import Derived.Test.YtidjpalnmnehmaaF30
import Derived.Test.YtidjpalnmnehmaaF33
import Derived.Test.YtidjpalnmnehmaaF34
import Derived.Test.YtidjpalnmnehmaaF40
import Derived.Test.YtidjpalnmnehmaaF42
namespace Go.Proofs.Ytidjpalnmnehmaa
open Go.ChangeShapes Go.WideShapes Go.ChangeAt Go.RowKit Go.Lib
set_option linter.unusedVariables false
set_option linter.unusedSimpArgs false
theorem TyB.off {w wr w2 : World} {s tb vb q : Nat} {KT T1 : ByteArray} {fv : Value} (h : TyB w wr tb vb KT T1 q fv) (hb : Beside s wr w2) (n1 : tb ≠ s) (n2 : vb ≠ s) : TyB w w2 tb vb KT T1 q fv:=by
  exact ⟨h.tle,h.vle,Nat.lt_of_lt_of_le h.tlt hb.size,Nat.lt_of_lt_of_le h.vlt hb.size,h.ne,(hb.cell (p:=⟨tb,0,none⟩) h.tlt n1).trans h.t0,(hb.cell (p:=⟨tb,2,none⟩) h.tlt n1).trans h.t2,(hb.cell (p:=⟨vb,0,none⟩) h.vlt n2).trans h.v0,(hb.cell (p:=⟨vb,1,none⟩) h.vlt n2).trans h.v1,(hb.cell (p:=⟨vb,2,none⟩) h.vlt n2).trans h.v2,(hb.cell (p:=⟨vb,3,none⟩) h.vlt n2).trans h.v3,(hb.frozen (p:=⟨vb,2,none⟩) h.vlt n2).trans h.f2,(hb.frozen (p:=⟨vb,3,none⟩) h.vlt n2).trans h.f3⟩
structure BoxAt (w wr : World) (rb tb vb fx : Nat) (f : Wf.Fd) (KT T1 : ByteArray) (q : Nat) (fv : Value) (k1 : Nat) : Prop where
  ty : TyB w wr tb vb KT T1 q fv
  bs : Beside rb w wr
  rd : Rd wr rb k1
  le : w.heap.size ≤ fx
  lt : fx < wr.heap.size
  nv : fx ≠ vb
  c0 : wr.cell? ⟨fx,0,none⟩ = some (.int .i64 f.tag)
  c2 : wr.cell? ⟨fx,2,none⟩ = some (tx f.kind.text)
theorem box_new {w w3 : World} {rb tb vb q k1 : Nat} {KT T1 : ByteArray} {fv : Value} {f : Wf.Fd} {A B : ByteArray} (h : TyB w w3 tb vb KT T1 q fv) (hb : Beside rb w w3) (hr : Rd w3 rb k1) (hr0 : rb < w.heap.size) : BoxAt w (w3.alloc (.cells #[.int .i64 f.tag, .string A,tx f.kind.text, .string B] 85)) rb tb vb w3.heap.size f KT T1 q fv k1:=by
  have hB:=(Below.refl w3.heap.size w3).alloc (Nat.le_refl _) (.cells #[.int .i64 f.tag, .string A,tx f.kind.text, .string B] 85)
  have hv:=h.vlt
  exact ⟨h.beside hr0 (Beside.of_below hB (Nat.le_refl _)),hb.alloc _,hr.below hB hr.lt,hb.size,by simp,by omega,by simp [go_sem],by simp [go_sem]⟩
theorem box_set {w w4 : World} {rb tb vb fx q k1 : Nat} {KT T1 : ByteArray} {fv : Value} {f : Wf.Fd} {A B a0 a2 : Value} (h : TyB w w4 tb vb KT T1 q fv) (hb : Beside rb w w4) (hr : Rd w4 rb k1) (hr0 : rb < w.heap.size) (hl : w.heap.size ≤ fx) (hx : fx < w4.heap.size) (hv : fx ≠ vb) (ht : fx ≠ tb) (c0 : w4.cell? ⟨fx,0,none⟩ = some a0) (c2 : w4.cell? ⟨fx,2,none⟩ = some a2) :
    BoxAt w ((((w4.setCell ⟨fx,0,none⟩ (.int .i64 f.tag)).setCell ⟨fx,1,none⟩ A).setCell ⟨fx,2,none⟩ (tx f.kind.text)).setCell ⟨fx,3,none⟩ B) rb tb vb fx f KT T1 q fv k1:=by
  have hB : Below w.heap.size w4 ((((w4.setCell ⟨fx,0,none⟩ (.int .i64 f.tag)).setCell ⟨fx,1,none⟩ A).setCell ⟨fx,2,none⟩ (tx f.kind.text)).setCell ⟨fx,3,none⟩ B):=((((Below.refl _ w4).setCell hl _).setCell hl _).setCell hl _).setCell hl _
  have hS : Beside fx w4 ((((w4.setCell ⟨fx,0,none⟩ (.int .i64 f.tag)).setCell ⟨fx,1,none⟩ A).setCell ⟨fx,2,none⟩ (tx f.kind.text)).setCell ⟨fx,3,none⟩ B):=(((Beside.set fx w4 0 _).trans (Beside.set fx _ 1 _)).trans (Beside.set fx _ 2 _)).trans (Beside.set fx _ 3 _)
  refine ⟨h.off hS ht.symm hv.symm,beside_low hb hB (Nat.le_refl _),hr.below hB hr0,hl,by simpa using hx,hv, ?_, ?_⟩
  · rw [World.cell?_setCell_other _ _ _ _ (by simp),World.cell?_setCell_other _ _ _ _ (by simp),World.cell?_setCell_other _ _ _ _ (by simp)]
    exact World.cell?_setCell_same _ _ _ c0
  · rw [World.cell?_setCell_other _ _ _ _ (by simp)]
    exact World.cell?_setCell_same _ _ _ ((World.cell?_setCell_other _ _ _ _ (by simp)).trans ((World.cell?_setCell_other _ _ _ _ (by simp)).trans c2))
theorem uni_close {w w7 : World} {rb vb zb k p G s6 : Nat} {KT : ByteArray} {y : Wf.V} (R0 : rb < w.heap.size) (hk : KT.data.toList.head? = some 64) (hb : Beside rb w w7) (hrd : Rd w7 rb k) (hv : w.heap.size ≤ vb) (hvl : vb < s6) (hz : w.heap.size ≤ zb) (hzl : zb < s6) (hs6 : s6 ≤ w7.heap.size) (hzv : zb ≠ vb)
    (c0 : w7.cell? ⟨vb,0,none⟩ = some (.string KT)) (c1 : w7.cell? ⟨vb,1,none⟩ = some (.string ⟨#[85]⟩)) (c2 : w7.cell? ⟨vb,2,none⟩ = some (.slice (some ⟨zb,0,none⟩) 1 1)) (c3 : w7.cell? ⟨vb,3,none⟩ = some (.slice none 0 0)) (cz : w7.cell? ⟨zb,0,none⟩ = some (.int .i64 G)) (fz : w7.frozen? ⟨zb,0,none⟩ = false) (hy : LV w7 (fun z => s6 ≤ z) y p) :
    LV ((w7.setCell ⟨vb,3,none⟩ (.slice (some ⟨w7.heap.size,0,none⟩) 1 1)).alloc (.cells #[ptr p] 54)) (fun z => w.heap.size ≤ z) (.mk 85 [] G [y]) vb ∧ Rd ((w7.setCell ⟨vb,3,none⟩ (.slice (some ⟨w7.heap.size,0,none⟩) 1 1)).alloc (.cells #[ptr p] 54)) rb k ∧ Beside rb w ((w7.setCell ⟨vb,3,none⟩ (.slice (some ⟨w7.heap.size,0,none⟩) 1 1)).alloc (.cells #[ptr p] 54)):=by
  obtain ⟨W5,hW5⟩ : ∃ W5,w7.setCell ⟨vb,3,none⟩ (.slice (some ⟨w7.heap.size,0,none⟩) 1 1) = W5:=⟨_,rfl⟩
  have hs : W5.heap.size = w7.heap.size:=by rw [← hW5];simp
  have cc:=fun (b j : Nat) u (hj : b ≠ vb ∨ j ≠ 3) (c : w7.cell? ⟨b,j,none⟩ = some u) => (show W5.cell? ⟨b,j,none⟩ = some u by rw [← hW5];exact (World.cell?_setCell_other w7 ⟨vb,3,none⟩ ⟨b,j,none⟩ (.slice (some ⟨w7.heap.size,0,none⟩) 1 1) (by simp;omega)).trans c)
  have c3' : W5.cell? ⟨vb,3,none⟩ = some (.slice (some ⟨W5.heap.size,0,none⟩) 1 1):=by rw [hs,← hW5];exact World.cell?_setCell_same _ _ _ c3
  have fz' : W5.frozen? ⟨zb,0,none⟩ = false:=by rw [← hW5];simpa using fz
  have hB : Below w.heap.size w7 W5:=by rw [← hW5];exact (Below.refl _ w7).setCell hv _
  have hblk : ∀ b,b ≠ vb → W5.heap[b]? = w7.heap[b]?:=fun b hb => by rw [← hW5];exact Below.heap_setCell _ _ _ _ hb
  rw [hW5]
  have hB6:=hB.alloc (by rw [hs];exact hb.size) (.cells #[ptr p] 54)
  have aa:=fun (b j : Nat) u (hlt : b < W5.heap.size) (c : W5.cell? ⟨b,j,none⟩ = some u) => (World.cell?_alloc_lt W5 (.cells #[ptr p] 54) ⟨b,j,none⟩ hlt).trans c
  have hv5 : vb < W5.heap.size:=by omega
  have hz5 : zb < W5.heap.size:=by omega
  have hA:=(Below.refl W5.heap.size W5).alloc (Nat.le_refl _) (.cells #[ptr p] 54)
  refine ⟨LV.uni hv hz (by rw [hs];exact hb.size) (by simp;omega) (by simp;omega) (by simp) hk (aa vb 0 _ hv5 (cc vb 0 _ (.inr (by decide)) c0)) (aa vb 1 _ hv5 (cc vb 1 _ (.inr (by decide)) c1)) (aa vb 2 _ hv5 (cc vb 2 _ (.inr (by decide)) c2)) (aa vb 3 _ hv5 c3') (aa zb 0 _ hz5 (cc zb 0 _ (.inl hzv) cz)) ((hA.frozen (p:=⟨zb,0,none⟩) hz5).trans fz') (by simp [go_sem]) (by simp [go_sem]) (LV.keep (fun b hp hlt => ⟨?_, ?_⟩) (by simp;omega) _ _ hy),hrd.below hB6 R0,beside_low hb hB6 (Nat.le_refl _)⟩
  · have h6 : s6 ≤ b:=hp
    omega
  · have h6 : s6 ≤ b:=hp
    rw [hA.block b (by omega)]
    exact hblk b (by omega)
structure UniMid (w W6 : World) (rb vb zb fx : Nat) (f : Wf.Fd) (KT : ByteArray) (k1 : Nat) : Prop where
  bs : Beside rb w W6
  rd : Rd W6 rb k1
  vle : w.heap.size ≤ vb
  vlt : vb < W6.heap.size
  zle : w.heap.size ≤ zb
  zlt : zb < W6.heap.size
  zv : zb ≠ vb
  v0 : W6.cell? ⟨vb,0,none⟩ = some (.string KT)
  v1 : W6.cell? ⟨vb,1,none⟩ = some (.string ⟨#[85]⟩)
  v2 : W6.cell? ⟨vb,2,none⟩ = some (.slice (some ⟨zb,0,none⟩) 1 1)
  v3 : W6.cell? ⟨vb,3,none⟩ = some (.slice none 0 0)
  f3 : W6.frozen? ⟨vb,3,none⟩ = false
  z0 : W6.cell? ⟨zb,0,none⟩ = some (.int .i64 f.tag)
  fz : W6.frozen? ⟨zb,0,none⟩ = false
  k2 : W6.cell? ⟨fx,2,none⟩ = some (tx f.kind.text)
theorem UniMid.beside {w W6 w7 : World} {rb vb zb fx k1 k2 : Nat} {f : Wf.Fd} {KT : ByteArray} (h : UniMid w W6 rb vb zb fx f KT k1) (R0 : rb < w.heap.size) (hb : Beside rb W6 w7) (hr : Rd w7 rb k2) (hf : fx < W6.heap.size) (hfr : fx ≠ rb) : UniMid w w7 rb vb zb fx f KT k2:=by
  have n1 : vb ≠ rb:=by have:=h.vle;omega
  have n2 : zb ≠ rb:=by have:=h.zle;omega
  exact ⟨h.bs.trans hb,hr,h.vle,Nat.lt_of_lt_of_le h.vlt hb.size,h.zle,Nat.lt_of_lt_of_le h.zlt hb.size,h.zv,(hb.cell (p:=⟨vb,0,none⟩) h.vlt n1).trans h.v0,(hb.cell (p:=⟨vb,1,none⟩) h.vlt n1).trans h.v1,(hb.cell (p:=⟨vb,2,none⟩) h.vlt n1).trans h.v2,(hb.cell (p:=⟨vb,3,none⟩) h.vlt n1).trans h.v3,(hb.frozen (p:=⟨vb,3,none⟩) h.vlt n1).trans h.f3,(hb.cell (p:=⟨zb,0,none⟩) h.zlt n2).trans h.z0,(hb.frozen (p:=⟨zb,0,none⟩) h.zlt n2).trans h.fz,(hb.cell (p:=⟨fx,2,none⟩) hf hfr).trans h.k2⟩
theorem uni_mid {w wb : World} {rb tb vb fx k1 : Nat} {f : Wf.Fd} {KT : ByteArray} {fv : Value} (h : BoxAt w wb rb tb vb fx f KT ⟨#[85]⟩ 85 fv k1) (R0 : rb < w.heap.size) : UniMid w ((wb.setCell ⟨vb,2,none⟩ (.slice (some ⟨wb.heap.size,0,none⟩) 1 1)).alloc (.cells #[.int .i64 f.tag] 3)) rb vb wb.heap.size fx f KT k1:=by
  have hl:=h.ty.vlt
  have hv:=h.ty.vle
  have hx:=h.lt
  have hnv:=h.nv
  obtain ⟨W5,hW5⟩ : ∃ W5,wb.setCell ⟨vb,2,none⟩ (.slice (some ⟨wb.heap.size,0,none⟩) 1 1) = W5:=⟨_,rfl⟩
  have hs : W5.heap.size = wb.heap.size:=by rw [← hW5];simp
  have cc:=fun (b j : Nat) u (hj : b ≠ vb ∨ j ≠ 2) (c : wb.cell? ⟨b,j,none⟩ = some u) => (show W5.cell? ⟨b,j,none⟩ = some u by rw [← hW5];exact (World.cell?_setCell_other wb ⟨vb,2,none⟩ ⟨b,j,none⟩ (.slice (some ⟨wb.heap.size,0,none⟩) 1 1) (by simp;omega)).trans c)
  have c2 : W5.cell? ⟨vb,2,none⟩ = some (.slice (some ⟨W5.heap.size,0,none⟩) 1 1):=by rw [hs,← hW5];exact World.cell?_setCell_same _ _ _ h.ty.v2
  have f3 : W5.frozen? ⟨vb,3,none⟩ = false:=by rw [← hW5];simpa using h.ty.f3
  have hB : Below w.heap.size wb W5:=by rw [← hW5];exact (Below.refl _ wb).setCell hv _
  rw [hW5,← hs]
  have hB6:=hB.alloc (by rw [hs];exact h.bs.size) (.cells #[.int .i64 (f.tag : Int)] 3)
  have hA:=(Below.refl W5.heap.size W5).alloc (Nat.le_refl _) (.cells #[.int .i64 (f.tag : Int)] 3)
  have aa:=fun (b j : Nat) u (hlt : b < W5.heap.size) (c : W5.cell? ⟨b,j,none⟩ = some u) => (hA.cell (p:=⟨b,j,none⟩) hlt).trans c
  have hv5 : vb < W5.heap.size:=by omega
  exact ⟨beside_low h.bs hB6 (Nat.le_refl _),h.rd.below hB6 R0,hv,by simp;omega,by rw [hs];exact h.bs.size,by simp,by omega,aa vb 0 _ hv5 (cc vb 0 _ (.inr (by decide)) h.ty.v0),aa vb 1 _ hv5 (cc vb 1 _ (.inr (by decide)) h.ty.v1),aa vb 2 _ hv5 c2,aa vb 3 _ hv5 (cc vb 3 _ (.inr (by decide)) h.ty.v3),(hA.frozen (p:=⟨vb,3,none⟩) hv5).trans f3,by simp [go_sem],by simp [go_sem],aa fx 2 _ (by omega) (cc fx 2 _ (.inl hnv) h.c2)⟩
section
variable (x : Wf.Sc) (v : Value) (rb lo bsc : Nat) (d : Int)
set_option maxRecDepth 20000 in
set_option maxHeartbeats 8000000 in
theorem dt_uni (hx : Wf.ScOk x) (nm : List UInt8) (hnm : (Wf.K.ref nm).text.length ≤ 1000000) (t : Wf.Ty) (hf : x.find nm = some t) (h85 : t.sort = 85) (hd1 : -1000 ≤ d) (hd2 : d ≤ 1000) (C B N : Nat) (IH : ∀ f ∈ t.fields,(0 < d ∨ t.fields.head? = some f) → DrV x v rb lo bsc (d - 1) f.kind C B N) : DtV x v rb lo bsc d nm (C + 1) (B + 6) (N + 1):=fun w k0 H hk0 hsp hlo => by
  have R0:=H.lt
  have hto:=hx.tys t (Wf.find_mem hf).1
  have h69 : t.sort ≠ 69:=by rw [h85];decide
  have hn1 : 1 ≤ t.fields.length:=List.length_pos_iff.2 (hto.some (by rw [h85];decide))
  have hr:=ref_draw x v rb lo bsc hx nm hnm t hf hn1 w hsp hlo
  obtain ⟨n,hn⟩ : ∃ n,t.fields.length = n:=⟨_,rfl⟩
  have hn8 : n ≤ 8:=by have:=hto.len;omega
  obtain ⟨KT,hKT⟩ : ∃ KT : ByteArray,(⟨(Wf.K.ref nm).text.toArray⟩ : ByteArray) = KT:=⟨_,rfl⟩
  obtain ⟨N0,hN⟩ : ∃ N : ByteArray,(⟨t.name.toArray⟩ : ByteArray) = N:=⟨_,rfl⟩
  have HKH:=hid (show KT.data.toList.head? = some 64 by rw [← hKT];rfl)
  rw [hn,h85,tx,tx,hKT,hN] at hr
  have HREF:=hid hr
  rw [hn] at hn1
  have kc1:=fun W (a : Addr) (c : Nat) (h : W.cell? a = some (.int .u8 85)) => (show (convert 22 9 (.slice (some a) 1 c)).run Try.prog W = .ok (.string ⟨#[85]⟩) W from run_convert_one (P:=Try.prog) 22 9 5 Try.underlying22 Try.underlying5 Try.underlying9 W a c 85 h)
  have HFL:=hid fun (wz : World) (fb o i : Nat) (hfd : FdsAt rb wz fb o t) (hi : i < n) => (show ∃ f : Wf.Fd,f ∈ t.fields ∧ (i = 0 → t.fields.head? = some f) ∧ fb < wz.heap.size ∧ wz.cell? ⟨fb,o + i * 4,none⟩ = some (.int .i64 f.tag) ∧ wz.cell? ⟨fb,o + i * 4 + 1,none⟩ = some (tx f.name) ∧ wz.cell? ⟨fb,o + i * 4 + 2,none⟩ = some (tx f.kind.text) ∧ wz.cell? ⟨fb,o + i * 4 + 3,none⟩ = some (tx f.given) by
    have hil : i < t.fields.length:=by omega
    obtain ⟨g1,g2,g3,g4,g5⟩:=hfd.field hil h69
    exact ⟨t.fields[i],List.getElem_mem _,fun h => by subst h;rw [List.head?_eq_getElem?];exact List.getElem?_eq_getElem hil,g1,g2,g3,g4,g5⟩)
  have HIH:=hid IH
  have HSP:=hid hsp
  have HF:=hid hf
  have H85:=hid h85
  have HTO:=hid hto
  have kd : IntKind.i64.wrap (d - 1) = d - 1:=IntWalk.i64_in _ (by omega)
  rw [tx,hKT]
  clear hKT hN hsp hf hn h85 hto hx hr IH h69
  go_enter Try.func43,Try.ntmps43
  go_upto_region 8 with (go_at_call 52;refine HREF.out.mono ?_;rintro e w2 ⟨⟨fb,o,fc,rfl,hnc,hcm,hfd⟩,hb2⟩;have HFD:=hid hfd;have HB2:=hid hb2;have hl2:=hb2.size;clear hfd hb2)
  obtain ⟨W3,hW3⟩ : ∃ W3,((w2.alloc (.cells #[.int .u8 85, .string N0, .slice (some ⟨fb,o,none⟩) n fc] 78)).alloc (.cells #[.int .u8 85] 5)).alloc (.cells #[.string KT, .string ⟨#[85]⟩, .slice none 0 0, .slice none 0 0] 69) = W3:=⟨_,rfl⟩
  rw [hW3]
  obtain ⟨tb0,hbl3⟩:=start_typed HB2.out KT N0 ⟨#[85]⟩ 85 (.slice (some ⟨fb,o,none⟩) n fc) W3 hW3
  clear hW3
  have TB:=hid tb0
  have B3:=hid (Beside.of_below (rb:=rb) hbl3 (Nat.le_refl _))
  have R3:=hid (H.below hbl3 R0)
  have t2:=tb0.t2
  have tlt:=tb0.tlt
  have vlt:=tb0.vlt
  have hw3:=hbl3.size
  have hrl:=R3.out.lt
  obtain ⟨f0,hf0,hf0h,hfbl,g0,g1,g2,g3⟩:=HFL.out W3 fb o 0 (HFD.out.beside B3.out) hn1
  have HF0:=hid hf0
  have HF0H:=hid (hf0h rfl)
  obtain ⟨A0,hA0⟩ : ∃ A : ByteArray,(⟨f0.name.toArray⟩ : ByteArray) = A:=⟨_,rfl⟩
  obtain ⟨K0,hK0⟩ : ∃ A : ByteArray,(⟨f0.kind.text.toArray⟩ : ByteArray) = A:=⟨_,rfl⟩
  obtain ⟨B0,hB0⟩ : ∃ A : ByteArray,(⟨f0.given.toArray⟩ : ByteArray) = A:=⟨_,rfl⟩
  have HK0:=hid (show tx f0.kind.text = .string K0 by rw [tx,hK0])
  simp only [tx,hA0,hK0,hB0,Nat.zero_mul,Nat.add_zero] at g0 g1 g2 g3
  clear tb0 hbl3 hf0 hf0h hA0 hK0 hB0
  by_cases hd : 0 < d
  · have hdd : decide ((0 : Int) < d) = true:=decide_eq_true hd
    have HBA:=hid (box_new (f:=f0) (A:=A0) (B:=B0) TB.out B3.out R3.out R0)
    go_upto_region 10 with fail
    obtain ⟨WA,hWA⟩ : ∃ WA,W3.alloc (.cells #[.int .i64 f0.tag, .string A0, .string K0, .string B0] 85) = WA:=⟨_,rfl⟩
    have HBA2:=hid (show BoxAt w WA rb w2.heap.size (w2.heap.size + 1 + 1) W3.heap.size f0 KT ⟨#[85]⟩ 85 (.slice (some ⟨fb,o,none⟩) n fc) k0 by
      have h:=HBA.out
      rw [HK0.out,hWA] at h
      exact h)
    have ff1:=hid (show ∀ j,WA.frozen? ⟨W3.heap.size,j,none⟩ = false by intro j;rw [← hWA];simp [go_sem])
    have ff2:=hid (show WA.cell? ⟨W3.heap.size,1,none⟩ = some (.string A0) ∧ WA.cell? ⟨W3.heap.size,3,none⟩ = some (.string B0) by constructor <;> (rw [← hWA];simp [go_sem]))
    rw [hWA]
    clear hWA HBA g0 g1 g2 g3
    have at2:=HBA2.out.ty.t2
    have atl:=HBA2.out.ty.tlt
    have xla:=HBA2.out.lt
    have RA:=HBA2.out.rd.lt
    have nxr : W3.heap.size ≠ rb:=by omega
    have nxv : W3.heap.size ≠ w2.heap.size + 1 + 1:=by omega
    have nxt : W3.heap.size ≠ w2.heap.size:=by omega
    go_cut [] (fun wx => ∃ f : Wf.Fd,Hid (f ∈ t.fields ∧ BoxAt w wx rb w2.heap.size (w2.heap.size + 1 + 1) W3.heap.size f KT ⟨#[85]⟩ 85 (.slice (some ⟨fb,o,none⟩) n fc) (k0 + 1)))
    case first =>
      go_region_law ((try go_simp);go_at_call 10;refine (pick rb k0 n WA.drew (HBA2.out.rd.below (Below.drew (Below.refl _ _)) RA) (by omega) (by omega)).mono ?_;rintro e w4 ⟨i,rfl,hi,_,hr4,hb4⟩;obtain ⟨hi0,hi1⟩:=hi (by omega);obtain ⟨i',rfl⟩:=Int.eq_ofNat_of_zero_le hi0;have hin : i' < n:=(by omega);have BE4:=hid ((Beside.drew (Beside.refl rb WA)).trans hb4);obtain ⟨f,hfm,_,hfb4,e0,e1,e2,e3⟩:=HFL.out w4 fb o i' (HFD.out.beside (HBA2.out.bs.trans BE4.out)) hin;obtain ⟨A1,hA1⟩ : ∃ A : ByteArray,(⟨f.name.toArray⟩ : ByteArray) = A:=⟨_,rfl⟩;obtain ⟨K1,hK1⟩ : ∃ A : ByteArray,(⟨f.kind.text.toArray⟩ : ByteArray) = A:=⟨_,rfl⟩;obtain ⟨B1,hB1⟩ : ∃ A : ByteArray,(⟨f.given.toArray⟩ : ByteArray) = A:=⟨_,rfl⟩;have HK1:=hid (show tx f.kind.text = .string K1 from (by rw [tx,hK1]));simp only [tx,hA1,hK1,hB1] at e1 e2 e3;have HFM:=hid hfm;have TB4:=hid (HBA2.out.ty.beside R0 BE4.out);have t24:=TB4.out.t2;have tl4:=TB4.out.tlt;have xl4 : W3.heap.size < w4.heap.size:=Nat.lt_of_lt_of_le xla BE4.out.size;have x0:=(BE4.out.cell (p:=⟨W3.heap.size,0,none⟩) xla nxr).trans HBA2.out.c0;have x1:=(BE4.out.cell (p:=⟨W3.heap.size,1,none⟩) xla nxr).trans ff2.out.1;have x2:=(BE4.out.cell (p:=⟨W3.heap.size,2,none⟩) xla nxr).trans HBA2.out.c2;have x3:=(BE4.out.cell (p:=⟨W3.heap.size,3,none⟩) xla nxr).trans ff2.out.2;have y0:=(BE4.out.frozen (p:=⟨W3.heap.size,0,none⟩) xla nxr).trans (ff1.out 0);have y1:=(BE4.out.frozen (p:=⟨W3.heap.size,1,none⟩) xla nxr).trans (ff1.out 1);have y2:=(BE4.out.frozen (p:=⟨W3.heap.size,2,none⟩) xla nxr).trans (ff1.out 2);have y3:=(BE4.out.frozen (p:=⟨W3.heap.size,3,none⟩) xla nxr).trans (ff1.out 3);have R4:=hid hr4;clear hr4 hb4 hfm hi hA1 hK1 hB1)
      all_goals (go_wp2_with fail;go_meet)
      all_goals exact ⟨f,hid ⟨HFM.out,by rw [← HK1.out];exact box_set TB4.out (HBA2.out.bs.trans BE4.out) R4.out R0 (by omega) xl4 nxv nxt x0 x2⟩⟩
    case rest =>
      obtain ⟨f,hcc⟩:=hcut
      obtain ⟨Wb,hWb⟩ : ∃ Wb,Wb = wc:=⟨_,rfl⟩
      subst hWb
      have HFM:=hid hcc.out.1
      have HBX:=hid hcc.out.2
      clear hcc at2 atl xla nxt nxv
      have c0b:=HBX.out.c0
      have U6:=hid (uni_mid HBX.out R0)
      have v2b:=HBX.out.ty.v2
      have f2b:=HBX.out.ty.f2
      have vlb:=HBX.out.ty.vlt
      have xlb:=HBX.out.lt
      have xl6:=hid (show W3.heap.size < ((Wb.setCell ⟨w2.heap.size + 1 + 1,2,none⟩ (.slice (some ⟨Wb.heap.size,0,none⟩) 1 1)).alloc (.cells #[.int .i64 f.tag] 3)).heap.size by have:=U6.out.zlt;omega)
      have xr6:=hid (show W3.heap.size ≠ rb by omega)
      obtain ⟨FK,hFK⟩ : ∃ FK : ByteArray,(⟨f.kind.text.toArray⟩ : ByteArray) = FK:=⟨_,rfl⟩
      have HC:=hid fun (wz : World) (kz : Nat) (hr : Rd wz rb kz) (hc : kz + C ≤ 900000) (hs : ScSp wz lo bsc v x) => (by
        have h:=HIH.out f HFM.out (.inl hd) wz kz hr hc hs hlo
        rw [tx,hFK] at h
        exact h)
      have k2c:=U6.out.k2
      rw [tx,hFK] at k2c
      clear hFK
      go_wp2_with (go_at_call 29;refine (HC.out _ (k0 + 1) U6.out.rd (by omega) (HSP.out.beside U6.out.bs hlo)).mono ?_;rintro e w7 ⟨u,p,rfl,ht,hpl,hlv,hr7,hb7⟩;have U7:=hid (U6.out.beside R0 hb7 hr7 xl6.out xr6.out);have v37:=U7.out.v3;have f37:=U7.out.f3;have vl7:=U7.out.vlt;have HT:=hid ht;have HPL:=hid hpl;have HLV:=hid hlv;have HS7:=hid hb7.size;clear ht hpl hlv hr7 hb7)
      obtain ⟨h5,h6,h7⟩:=uni_close R0 HKH.out U7.out.bs U7.out.rd U7.out.vle U6.out.vlt U7.out.zle U6.out.zlt HS7.out U7.out.zv U7.out.v0 U7.out.v1 U7.out.v2 U7.out.v3 U7.out.z0 U7.out.fz HLV.out
      have hfo:=HTO.out.fds f HFM.out
      have h8 : (Wf.dec f.tag).length ≤ 3:=Wf.dec_len f.tag 2 (by have:=hfo.tag2;omega)
      go_ret
      exact ⟨.mk 85 [] f.tag [u],_,rfl,⟨t,HF.out, .inr (.inl ⟨by rw [H85.out];decide,H85.out,f,u,field_self HTO.out HFM.out,hfo.tag2,HT.out,rfl⟩)⟩,by have:=HPL.out;rw [Wf.print_uni];simp;omega,h5,h6.mono (by omega),h7⟩
  · have hdd : decide ((0 : Int) < d) = false:=decide_eq_false hd
    have HBA:=hid (box_new (f:=f0) (A:=A0) (B:=B0) TB.out B3.out R3.out R0)
    go_upto_region 11 with fail
    obtain ⟨Wb,hWA⟩ : ∃ WA,W3.alloc (.cells #[.int .i64 f0.tag, .string A0, .string K0, .string B0] 85) = WA:=⟨_,rfl⟩
    have HBX:=hid (show BoxAt w Wb rb w2.heap.size (w2.heap.size + 1 + 1) W3.heap.size f0 KT ⟨#[85]⟩ 85 (.slice (some ⟨fb,o,none⟩) n fc) k0 by
      have h:=HBA.out
      rw [HK0.out,hWA] at h
      exact h)
    rw [hWA]
    clear hWA HBA g0 g1 g2 g3
    obtain ⟨f,hfe⟩ : ∃ f,f = f0:=⟨_,rfl⟩
    subst hfe
    have HFM:=HF0
    have c0b:=HBX.out.c0
    have U6:=hid (uni_mid HBX.out R0)
    have v2b:=HBX.out.ty.v2
    have f2b:=HBX.out.ty.f2
    have vlb:=HBX.out.ty.vlt
    have xlb:=HBX.out.lt
    have xl6:=hid (show W3.heap.size < ((Wb.setCell ⟨w2.heap.size + 1 + 1,2,none⟩ (.slice (some ⟨Wb.heap.size,0,none⟩) 1 1)).alloc (.cells #[.int .i64 f.tag] 3)).heap.size by have:=U6.out.zlt;omega)
    have xr6:=hid (show W3.heap.size ≠ rb by omega)
    obtain ⟨FK,hFK⟩ : ∃ FK : ByteArray,(⟨f.kind.text.toArray⟩ : ByteArray) = FK:=⟨_,rfl⟩
    have HC:=hid fun (wz : World) (kz : Nat) (hr : Rd wz rb kz) (hc : kz + C ≤ 900000) (hs : ScSp wz lo bsc v x) => (by
      have h:=HIH.out f HFM.out (.inr HF0H.out) wz kz hr hc hs hlo
      rw [tx,hFK] at h
      exact h)
    have k2c:=U6.out.k2
    rw [tx,hFK] at k2c
    clear hFK
    go_wp2_with (go_at_call 29;refine (HC.out _ k0 U6.out.rd (by omega) (HSP.out.beside U6.out.bs hlo)).mono ?_;rintro e w7 ⟨u,p,rfl,ht,hpl,hlv,hr7,hb7⟩;have U7:=hid (U6.out.beside R0 hb7 hr7 xl6.out xr6.out);have v37:=U7.out.v3;have f37:=U7.out.f3;have vl7:=U7.out.vlt;have HT:=hid ht;have HPL:=hid hpl;have HLV:=hid hlv;have HS7:=hid hb7.size;clear ht hpl hlv hr7 hb7)
    obtain ⟨h5,h6,h7⟩:=uni_close R0 HKH.out U7.out.bs U7.out.rd U7.out.vle U6.out.vlt U7.out.zle U6.out.zlt HS7.out U7.out.zv U7.out.v0 U7.out.v1 U7.out.v2 U7.out.v3 U7.out.z0 U7.out.fz HLV.out
    have hfo:=HTO.out.fds f HFM.out
    have h8 : (Wf.dec f.tag).length ≤ 3:=Wf.dec_len f.tag 2 (by have:=hfo.tag2;omega)
    go_ret
    exact ⟨.mk 85 [] f.tag [u],_,rfl,⟨t,HF.out, .inr (.inl ⟨by rw [H85.out];decide,H85.out,f,u,field_self HTO.out HFM.out,hfo.tag2,HT.out,rfl⟩)⟩,by have:=HPL.out;rw [Wf.print_uni];simp;omega,h5,h6.mono (by omega),h7⟩
end
end Go.Proofs.Ytidjpalnmnehmaa
