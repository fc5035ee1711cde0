/- Packed by pack.py: Vx Vy Vz Wa. -/
import Derived.Shelf.Strings.SlTrimAscii
import Derived.Shelf.Strings.Prefix
import Derived.Shelf.Strings.Cut
import Derived.Shelf.Strings.Search3
import Derived.Shelf.Strings.Split
import Derived.Shelf.Strings.SplitShaped
import Derived.Shelf.Strings.Shaped
import Derived.Shelf.Small.Wraps
import Derived.Shelf.Strings.OnBuilder
import Derived.WalkKit
import Derived.Lib.UnsafeStr
import Derived.Lib.Hide
import Derived.ProofKit
import Derived.OpenShut
import Derived.BigQuiet
import Derived.WalkSpells
import Derived.KernelRfl
import Derived.Below
import Derived.Lib.SlTrimSet
import Derived.Deep.QuietTactic
import Derived.Deep.RegionWith
import Derived.Deep.RegionHeld3
import Derived.IntWalk
import Derived.Deep.DeepCutAuto
import Derived.Lib.Split
import Derived.Lib.IndexMore
import Derived.Lib.CountLaws
import Derived.Lib.SplitLaws
import Derived.Deep.AppendLies
import Derived.Deep.RegionLaw
import Derived.Maps.Own
import Derived.Maps.OwnOps
import Derived.Maps.OwnSet
import Derived.Maps.Views
import Derived.StringKeys
import Derived.Maps.AppendAt
import Derived.Deep.CutRange
import Derived.Deep.RegionHeldLaw
import Derived.WalkSmall
import Derived.Lib.PathFns
import Derived.Deep.WholeRow
import Derived.Test.YtidjpalnmnehmaaRows
import Derived.Test.YtidjpalnmnehmaaF0
import Derived.Test.YtidjpalnmnehmaaF1
import Derived.Test.YtidjpalnmnehmaaF2
import Derived.Test.YtidjpalnmnehmaaF3
import Derived.Test.YtidjpalnmnehmaaF4
import Derived.Test.YtidjpalnmnehmaaF5
import Derived.Test.YtidjpalnmnehmaaF6
import Derived.Test.YtidjpalnmnehmaaF7
import Derived.Test.YtidjpalnmnehmaaF8
import Derived.Test.YtidjpalnmnehmaaF9
import Derived.Test.YtidjpalnmnehmaaF10
import Derived.Test.YtidjpalnmnehmaaF11
import Derived.Test.YtidjpalnmnehmaaF12
import Derived.Test.YtidjpalnmnehmaaF13
import Derived.Test.YtidjpalnmnehmaaF14
import Derived.Test.YtidjpalnmnehmaaF15
import Derived.Test.YtidjpalnmnehmaaF16
import Derived.Test.YtidjpalnmnehmaaF17
import Derived.Test.YtidjpalnmnehmaaF18
import Derived.Test.YtidjpalnmnehmaaF19
import Derived.Test.YtidjpalnmnehmaaF20
import Derived.Test.YtidjpalnmnehmaaF21
import Derived.Test.YtidjpalnmnehmaaF22
import Derived.Test.YtidjpalnmnehmaaF23
import Derived.Test.YtidjpalnmnehmaaF24
import Derived.Test.YtidjpalnmnehmaaF30
namespace Go.Proofs.Ytidjpalnmnehmaa
open Go.ChangeShapes Go.WideShapes Go.ChangeAt Go.RowKit Go.Lib
set_option linter.unusedVariables false
set_option linter.unusedSimpArgs false
theorem KOk.list {x : Wf.Sc} {k : Wf.K} (h : KOk x (.list k)) : KOk x k:=⟨by have:=h.len;simp [Wf.K.text] at this;omega,h.ref⟩
theorem KOk.opt {x : Wf.Sc} {k : Wf.K} (h : KOk x (.opt k)) : KOk x k:=⟨by have:=h.len;simp [Wf.K.text] at this;omega,h.ref⟩
theorem KOk.fld {x : Wf.Sc} (hx : Wf.ScOk x) {t : Wf.Ty} (ht : t ∈ x) (h69 : t.sort ≠ 69) {f : Wf.Fd} (hf : f ∈ t.fields) : KOk x f.kind:=⟨fd_kind ((hx.tys t ht).fds f hf),hx.refs t ht h69 f hf⟩

def RvOut (x : Wf.Sc) (k : Wf.K) (s : List UInt8) (w : World) (e : Ending) (w' : World) : Prop:=match Wf.valIn x k s with
  | some v => ∃ cs,e = .returned (.tuple #[.agg cs.toArray, .bool true]) ∧ VC w' (fun b => w.heap.size ≤ b) v cs
  | none => e = .returned (.tuple #[.agg #[.int .u8 0, .string ⟨#[]⟩, .int .i64 0, .slice none 0 0], .bool false])
theorem RvOut.no {x : Wf.Sc} {k : Wf.K} {s : List UInt8} {w w' : World} {e : Ending} (h : Wf.valIn x k s = none) (he : e = .returned (.tuple #[.agg #[.int .u8 0, .string ⟨#[]⟩, .int .i64 0, .slice none 0 0], .bool false])) : RvOut x k s w e w':=by
  unfold RvOut;rw [h];exact he
theorem RvOut.yes {x : Wf.Sc} {k : Wf.K} {s : List UInt8} {w w' : World} {e : Ending} {v : Wf.V} {cs : List Value} (h : Wf.valIn x k s = some v) (he : e = .returned (.tuple #[.agg cs.toArray, .bool true])) (hv : VC w' (fun b => w.heap.size ≤ b) v cs) : RvOut x k s w e w':=by
  unfold RvOut;rw [h];exact ⟨cs,he,hv⟩
section
variable (x : Wf.Sc) (k : Wf.K) (sb : Nat) (s : List UInt8) (W w : World)
end

def valOf (l kt s : List UInt8) : Option ((Wf.Sc × Wf.K) × Wf.V):=match kindOf l kt with
  | some y => (match Wf.valIn y.1 y.2 s with
    | some v => some (y,v)
    | none => none)
  | none => none
def GivOut (l kt s : List UInt8) (lo : Nat) (e : Ending) (w' : World) : Prop:=match valOf l kt s with
  | some y => ∃ sb cs,e = .returned (.tuple #[ptr sb,kV y.1.2, .agg cs.toArray, .bool true]) ∧ ScL w' lo sb y.1.1 ∧ VC w' (fun b => lo ≤ b) y.2 cs
  | none => ∃ p a b c,e = .returned (.tuple #[.pointer p, .agg #[.string a, .string b, .string c], .agg #[.int .u8 0, .string ⟨#[]⟩, .int .i64 0, .slice none 0 0], .bool false])
theorem GivOut.no {l kt s : List UInt8} {lo : Nat} {e : Ending} {w' : World} (h : valOf l kt s = none) (he : ∃ p a b c,e = .returned (.tuple #[.pointer p, .agg #[.string a, .string b, .string c], .agg #[.int .u8 0, .string ⟨#[]⟩, .int .i64 0, .slice none 0 0], .bool false])) : GivOut l kt s lo e w':=by
  unfold GivOut;rw [h];exact he
theorem GivOut.yes {l kt s : List UInt8} {lo : Nat} {e : Ending} {w' : World} {y : (Wf.Sc × Wf.K) × Wf.V} (h : valOf l kt s = some y) (he : ∃ sb cs,e = .returned (.tuple #[ptr sb,kV y.1.2, .agg cs.toArray, .bool true]) ∧ ScL w' lo sb y.1.1 ∧ VC w' (fun b => lo ≤ b) y.2 cs) : GivOut l kt s lo e w':=by
  unfold GivOut;rw [h];exact he
theorem kindOf_ok {l kt : List UInt8} {y : Wf.Sc × Wf.K} (h : kindOf l kt = some y) : Wf.ScOk y.1 ∧ KOk y.1 y.2:=by
  obtain ⟨h1,h2,h3,h4,h5⟩:=kindOf_text h
  exact ⟨Wf.schemaOf_ok h1,⟨by rw [h4];exact h5,h3⟩⟩
structure ZeroK (wr : World) (b : Nat) : Prop where
  lt : b < wr.heap.size
  r0 : wr.cell? ⟨b,0,none⟩ = some (.string ⟨#[]⟩)
  r1 : wr.cell? ⟨b,1,none⟩ = some (.string ⟨#[]⟩)
  r2 : wr.cell? ⟨b,2,none⟩ = some (.string ⟨#[]⟩)
  f0 : wr.frozen? ⟨b,0,none⟩ = false
  f1 : wr.frozen? ⟨b,1,none⟩ = false
  f2 : wr.frozen? ⟨b,2,none⟩ = false
theorem ZeroK.below {wr w2 : World} {b B : Nat} (h : ZeroK wr b) (hb : Below B wr w2) (hr : b < B) : ZeroK w2 b:=by
  have h1:=hb.block b hr
  have cd:=fun o => World.cell?_of_block (w:=wr) (w':=w2) (a:=⟨b,o,none⟩) h1
  have cf:=fun o => World.frozen?_of_block (w:=wr) (w':=w2) (a:=⟨b,o,none⟩) h1
  exact ⟨Nat.lt_of_lt_of_le h.lt hb.size,(cd 0).trans h.r0,(cd 1).trans h.r1,(cd 2).trans h.r2,(cf 0).trans h.f0,(cf 1).trans h.f1,(cf 2).trans h.f2⟩
structure Over (B : Nat) (w w' : World) : Prop where
  size : w.heap.size ≤ w'.heap.size
  block : ∀ k,B ≤ k → k < w.heap.size → w'.heap[k]? = w.heap[k]?
theorem Over.refl (B : Nat) (w : World) : Over B w w:=⟨Nat.le_refl _,fun _ _ _ => rfl⟩
theorem Over.drew {B : Nat} {w w' : World} (h : Over B w w') : Over B w w'.drew:=⟨h.size,h.block⟩
theorem Over.setCell {B : Nat} {w w' : World} (h : Over B w w') {p : Addr} (hp : p.block < B) (v : Value) : Over B w (w'.setCell p v):=by
  have hs : (w'.setCell p v).heap.size = w'.heap.size:=by simp
  refine ⟨by rw [hs];exact h.size,fun k hk hl => (Below.heap_setCell w' p v k (by omega)).trans (h.block k hk hl)⟩
theorem Over.alloc {B : Nat} {w w' : World} (h : Over B w w') (o : Obj) : Over B w (w'.alloc o):=by
  have hb:=(Below.refl w'.heap.size w').alloc (Nat.le_refl _) o
  exact ⟨Nat.le_trans h.size hb.size,fun k hk hl => (hb.block k (Nat.lt_of_lt_of_le hl h.size)).trans (h.block k hk hl)⟩
theorem Over.below {B : Nat} {w w1 w2 : World} (h : Over B w1 w2) (hb : Below w.heap.size w w1) : ∀ k,B ≤ k → k < w.heap.size → w2.heap[k]? = w.heap[k]?:=fun k hk hl => (h.block k hk (Nat.lt_of_lt_of_le hl hb.size)).trans (hb.block k hl)

def vOkB (l kt s : List UInt8) : Bool:=(valOf l kt s).isSome
theorem GivOut.form {l kt s : List UInt8} {lo : Nat} {e : Ending} {w' : World} (h : GivOut l kt s lo e w') : ∃ (p : Option Addr) (a b c : ByteArray) (q g n d : Nat) (T : ByteArray) (sa : Option Addr),e = .returned (.tuple #[.pointer p, .agg #[.string a, .string b, .string c], .agg #[.int .u8 q, .string T, .int .i64 g, .slice sa n d], .bool (vOkB l kt s)]):=by
  unfold GivOut at h
  unfold vOkB
  cases hv : valOf l kt s with
  | none =>
    rw [hv] at h
    obtain ⟨p,a,b,c,rfl⟩:=h
    exact ⟨p,a,b,c,0,0,0,0,⟨#[]⟩,none,rfl⟩
  | some y =>
    rw [hv] at h
    obtain ⟨sb,cs,rfl,_,hvc⟩:=h
    obtain ⟨q,g,n,d,T,sa,rfl⟩:=hvc.cells4
    exact ⟨_,_,_,_,q,g,n,d,T,sa,rfl⟩
theorem valOf_some {l kt s : List UInt8} {y : (Wf.Sc × Wf.K) × Wf.V} (h : valOf l kt s = some y) : kindOf l kt = some y.1 ∧ Wf.valIn y.1.1 y.1.2 s = some y.2:=by
  unfold valOf at h
  cases hk : kindOf l kt with
  | none => rw [hk] at h;cases h
  | some z =>
    rw [hk] at h
    dsimp only at h
    cases hv : Wf.valIn z.1 z.2 s with
    | none => rw [hv] at h;cases h
    | some v =>
      rw [hv] at h
      simp only [Option.some.injEq] at h
      subst h
      exact ⟨rfl,hv⟩
end Go.Proofs.Ytidjpalnmnehmaa
