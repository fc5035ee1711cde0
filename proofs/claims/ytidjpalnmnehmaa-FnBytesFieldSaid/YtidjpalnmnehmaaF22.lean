/- Packed by pack.py: Iw Mp Is Iy Ih. -/
import Derived.Shelf.Strings.SlTrimAscii
import Derived.Shelf.Strings.Prefix
import Derived.Shelf.Strings.Cut
import Derived.Shelf.Strings.Search3
import Derived.Shelf.Strings.Split
import Derived.Shelf.Strings.SplitShaped
import Derived.Shelf.Strings.Shaped
import Derived.Shelf.Small.Wraps
import Derived.Shelf.Strings.OnBuilder
import Derived.Test.YtidjpalnmnehmaaF21
import Derived.Test.YtidjpalnmnehmaaF15
import Derived.Test.YtidjpalnmnehmaaF5
import Derived.Maps.Own
import Derived.Maps.OwnOps
import Derived.Maps.OwnSet
import Derived.Maps.Views
import Derived.StringKeys
namespace Go.Proofs.Ytidjpalnmnehmaa
open Go.ChangeShapes Go.WideShapes Go.ChangeAt Go.RowKit Go.Lib
set_option linter.unusedVariables false
set_option linter.unusedSimpArgs false
end Go.Proofs.Ytidjpalnmnehmaa

namespace Go.Proofs.Ytidjpalnmnehmaa
open Go.ChangeShapes Go.WideShapes Go.ChangeAt Go.RowKit Go.Lib
set_option linter.unusedVariables false
theorem keyed_tx : Go.Maps.Keyed Try.prog 9:=Go.Maps.Keyed.of_law (Go.WideMaps.string_law Try.underlying9)
theorem key_tx (s : ByteArray) (hs : s.size ≤ maxLen) : keyOf Try.prog 9 (.string s) = some (.string s.data.toList):=Go.WideMaps.keyOf_string_mk Try.underlying9 hs
theorem zero_ptr (w : World) : (zeroValue 117).run Try.prog w = .ok (.pointer none) w:=by kernel_rfl
def ptrO : Option Nat → Value
  | some b => ptr b
  | none => .pointer none
theorem MapIs.look {w : World} {mb n : Nat} {f : List UInt8 → Option Nat} (h : MapIs w mb n f) (s : ByteArray) (hs : s.size ≤ maxLen) :
    (Instr.lookup 112 (.map (some mb)) (.string s) false).run Try.prog w = .ok (ptrO (f s.data.toList)) w:=by
  obtain ⟨D,hD,hf⟩:=h
  obtain ⟨v,ps,hrun,hv⟩:=hD.lookup keyed_tx Try.underlying112 (zero_ptr w) (zd:=.nil) (zp:=[]) rfl (key_tx s hs)
  have hx:=hf s.data.toList
  rw [hrun]
  rcases ptrR_inv hv with ⟨b,rfl,hd⟩ | ⟨rfl,hd⟩
  · rw [hd] at hx
    cases hq : f s.data.toList with
    | none => rw [hq] at hx;simp at hx
    | some b' => rw [hq] at hx;simp at hx;have hx : b = b':=(by omega);rw [hx];rfl
  · rw [hd] at hx
    cases hq : f s.data.toList with
    | none => rfl
    | some b' => rw [hq] at hx;simp at hx
theorem MapIs.made (w : World) : MapIs (w.alloc (.map #[] 0)) w.heap.size 0 fun _ => none:=⟨.map [],World.ownsMap_made w _ _ _,fun nm => rfl⟩
theorem MapIs.kept {w w' : World} {mb n : Nat} {f : List UInt8 → Option Nat} (h : MapIs w mb n f) {row : Option Nat} (hg : w.grownBy w' row) (hne : some mb ≠ row) : MapIs w' mb n f:=by
  obtain ⟨D,hD,hf⟩:=h
  exact ⟨D,hD.kept hg hne,hf⟩
theorem MapIs.lt {w : World} {mb n : Nat} {f : List UInt8 → Option Nat} (h : MapIs w mb n f) : mb < w.heap.size:=by
  obtain ⟨D,hD,hf⟩:=h
  exact hD.lt
theorem MapIs.same {w w' : World} {mb n : Nat} {f : List UInt8 → Option Nat} (h : MapIs w mb n f) (hb : w'.heap[mb]? = w.heap[mb]?) : MapIs w' mb n f:=by
  obtain ⟨D,⟨es,clock,hb',F,hs,hD⟩,hf⟩:=h
  exact ⟨D,⟨es,clock,hb.trans hb',F,hs,hD⟩,hf⟩
theorem MapIs.below {w w' : World} {mb n : Nat} {f : List UInt8 → Option Nat} (h : MapIs w mb n f) (hb : Below w.heap.size w w') : MapIs w' mb n f:=h.same (hb.block mb h.lt)
def mapPut (f : List UInt8 → Option Nat) (nm : List UInt8) (b : Nat) : List UInt8 → Option Nat:=fun x => if x = nm then some b else f x
theorem MapIs.put {w : World} {mb n : Nat} {f : List UInt8 → Option Nat} (h : MapIs w mb n f) (hn : n < maxLen) (s : ByteArray) (hs : s.size ≤ maxLen) (b : Nat) :
    ∃ w',(Instr.mapUpdate 112 (.map (some mb)) (.string s) (ptr b)).run Try.prog w = .ok () w' ∧ MapIs w' mb (n + 1) (mapPut f s.data.toList b) ∧ w.grownBy w' (some mb):=by
  obtain ⟨D,hD,hf⟩:=h
  obtain ⟨w',hrun,h1,h2⟩:=hD.update keyed_tx Try.underlying112 hn (key_tx s hs) (val:=ptr b) (d:=.lit (.int .i64 b)) (ps:=[]) rfl
  refine ⟨w',hrun,⟨_,h1,fun nm => ?_⟩,h2⟩
  unfold mapPut
  by_cases hnm : nm = s.data.toList
  · rw [if_pos hnm,hnm]
    exact Go.Maps.atKey_put_same hD.isMap (show Go.WideAt.IsKeyLit (.string s.data.toList) from trivial) _ _
  · rw [if_neg hnm,Go.Maps.atKey_put_other (by intro e;exact hnm (by injection e)) _ _]
    exact hf nm
end Go.Proofs.Ytidjpalnmnehmaa

namespace Go.Proofs.Ytidjpalnmnehmaa
open Go.ChangeShapes Go.WideShapes Go.ChangeAt Go.RowKit Go.Lib
set_option linter.unusedVariables false
set_option linter.unusedSimpArgs false
def blkOf (x : List Wf.Ty) (bs : List Nat) (nm : List UInt8) : Option Nat:=((x.zip bs).find? (fun p => p.1.name == nm)).map (·.2)
theorem blkOf_some {x : List Wf.Ty} {bs : List Nat} (hl : bs.length = x.length) {nm : List UInt8} {t : Wf.Ty} (h : List.find? (fun t => t.name == nm) x = some t) : ∃ (i : Nat) (h1 : i < x.length) (h2 : i < bs.length),x[i] = t ∧ blkOf x bs nm = some bs[i]:=by
  induction x generalizing bs with
  | nil => simp at h
  | cons u x ih =>
    cases bs with
    | nil => simp at hl
    | cons b bs =>
      unfold blkOf
      rw [List.zip_cons_cons,List.find?_cons]
      rw [List.find?_cons] at h
      cases hu : u.name == nm with
      | true =>
        rw [hu] at h
        simp only [Option.some.injEq] at h
        exact ⟨0,by simp,by simp,by simpa using h,by simp [hu]⟩
      | false =>
        rw [hu] at h
        obtain ⟨i,h1,h2,h3,h4⟩:=ih (bs:=bs) (by simpa using hl) h
        refine ⟨i + 1,by simpa using h1,by simpa using h2,by simpa using h3, ?_⟩
        simp only [hu]
        unfold blkOf at h4
        rw [h4];rfl
theorem blkOf_none {x : List Wf.Ty} {bs : List Nat} {nm : List UInt8} (h : List.find? (fun t => t.name == nm) x = none) : blkOf x bs nm = none:=by
  unfold blkOf
  rw [List.find?_eq_none] at h
  rw [Option.map_eq_none_iff,List.find?_eq_none]
  intro p hp
  exact h p.1 (List.of_mem_zip hp).1
theorem blkOf_put {x : List Wf.Ty} {bs : List Nat} (hl : bs.length = x.length) {t : Wf.Ty} {b : Nat} (h : x.any (fun u => u.name == t.name) = false) : blkOf (x ++ [t]) (bs ++ [b]) = mapPut (blkOf x bs) t.name b:=by
  funext nm
  unfold blkOf mapPut
  rw [List.zip_append hl.symm,List.find?_append]
  by_cases hn : nm = t.name
  · subst hn
    rw [if_pos rfl]
    have : List.find? (fun p => p.1.name == t.name) (x.zip bs) = none:=by
      rw [List.find?_eq_none]
      intro p hp
      rw [List.any_eq_false] at h
      exact h p.1 (List.of_mem_zip hp).1
    rw [this]
    simp
  · rw [if_neg hn]
    have : List.find? (fun p : Wf.Ty × Nat => p.1.name == nm) ([t].zip [b]) = none:=by
      simp;exact fun e => hn e.symm
    rw [this,Option.or_none]
def ScL (w : World) (lo sb : Nat) (x : Wf.Sc) : Prop:=∃ mb n rb a c bs,lo ≤ sb ∧ lo ≤ mb ∧ lo ≤ rb ∧ sb < w.heap.size ∧ w.cell? ⟨sb,0,none⟩ = some (.slice a x.length c) ∧ w.cell? ⟨sb,1,none⟩ = some (.map (some mb)) ∧ RowAt w rb (.slice a x.length c) (bs.map ptr) ∧ MapIs w mb n (blkOf x bs) ∧ bs.length = x.length ∧ bs.Pairwise (· < ·) ∧ ∀ i (h1 : i < bs.length) (h2 : i < x.length),TyL w lo bs[i] x[i]
theorem ScL.keep {w w' : World} {lo sb : Nat} {x : Wf.Sc} (h : ScL w lo sb x) (hs : w.heap.size ≤ w'.heap.size) (hk : ∀ y,lo ≤ y → y < w.heap.size → w'.heap[y]? = w.heap[y]?) : ScL w' lo sb x:=by
  obtain ⟨mb,n,rb,a,c,bs,h1,h2,h2',h3,c0,c1,hr,hm,hl,hp,ht⟩:=h
  have cc:=fun o => World.cell?_of_block (w:=w) (w':=w') (a:=⟨sb,o,none⟩) (hk sb h1 h3)
  exact ⟨mb,n,rb,a,c,bs,h1,h2,h2',Nat.lt_of_lt_of_le h3 hs,(cc 0).trans c0,(cc 1).trans c1,hr.keep hs fun hx => hk rb h2' hx,hm.same (hk mb h2 hm.lt),hl,hp,fun i g1 g2 => (ht i g1 g2).keep hs hk⟩
theorem ScL.below {w w' : World} {lo sb : Nat} {x : Wf.Sc} (h : ScL w lo sb x) (hb : Below w.heap.size w w') : ScL w' lo sb x:=h.keep hb.size fun y _ hy => hb.block y hy
theorem ScL.lt {w : World} {lo sb : Nat} {x : Wf.Sc} (h : ScL w lo sb x) : sb < w.heap.size:=by obtain ⟨_,_,_,_,_,_,_,_,_,h3,_⟩:=h;exact h3
theorem ScL.mono {w : World} {lo lo' sb : Nat} {x : Wf.Sc} (h : ScL w lo sb x) (hl : lo' ≤ lo) : ScL w lo' sb x:=by
  obtain ⟨mb,n,rb,a,c,bs,h1,h2,h2',h3,c0,c1,hr,hm,hl',hp,ht⟩:=h
  exact ⟨mb,n,rb,a,c,bs,by omega,by omega,by omega,h3,c0,c1,hr,hm,hl',hp,fun i g1 g2 => (ht i g1 g2).mono hl⟩
theorem ScL.named {w : World} {lo sb : Nat} {x : Wf.Sc} (h : ScL w lo sb x) : ∃ mb,sb < w.heap.size ∧ w.cell? ⟨sb,1,none⟩ = some (.map (some mb)) ∧ ∀ s : ByteArray,s.size ≤ 1048576 →
    ((x.find s.data.toList = none ∧ ∀ wz,Below w.heap.size w wz → (Instr.lookup 112 (.map (some mb)) (.string s) false).run Try.prog wz = .ok (.pointer none) wz) ∨
     ∃ t b,x.find s.data.toList = some t ∧ TyL w lo b t ∧ ∀ wz,Below w.heap.size w wz → (Instr.lookup 112 (.map (some mb)) (.string s) false).run Try.prog wz = .ok (ptr b) wz):=by
  obtain ⟨mb,n,rb,a,c,bs,h1,h2,h2',h3,c0,c1,hr,hm,hl,hp,ht⟩:=h
  refine ⟨mb,h3,c1,fun s hs => ?_⟩
  have hlk:=fun wz (hb : Below w.heap.size w wz) => (hm.below hb).look s (by unfold maxLen;omega)
  cases hf : x.find s.data.toList with
  | none =>
    left
    refine ⟨rfl,fun wz hb => ?_⟩
    rw [hlk wz hb,blkOf_none hf];rfl
  | some t =>
    right
    obtain ⟨i,g1,g2,g3,g4⟩:=blkOf_some hl hf
    refine ⟨t,bs[i],rfl,by rw [← g3];exact ht i g2 g1,fun wz hb => ?_⟩
    rw [hlk wz hb,g4];rfl
theorem ScL.types {w : World} {lo sb : Nat} {x : Wf.Sc} (h : ScL w lo sb x) : ∃ rb a c,sb < w.heap.size ∧ w.cell? ⟨sb,0,none⟩ = some (.slice a x.length c) ∧ x.length ≤ c ∧ c ≤ maxLen ∧ ∀ i (h1 : i < x.length),∃ o b,a = some ⟨rb,o,none⟩ ∧ rb < w.heap.size ∧ w.cell? ⟨rb,o + i,none⟩ = some (ptr b) ∧ TyL w lo b x[i]:=by
  obtain ⟨mb,n,rb,a,c,bs,h1,h2,h2',h3,c0,c1,hr,hm,hl,hp,ht⟩:=h
  obtain ⟨a',cap,e1,e2,e3,e4⟩:=hr
  simp only [Value.slice.injEq] at e1
  obtain ⟨rfl,e1,rfl⟩:=e1
  refine ⟨rb,a,c,h3,c0,by omega,e3,fun i hi => ?_⟩
  have hib : i < bs.length:=by omega
  rcases e4 with e4 | ⟨o,g1,g2,g3⟩
  · rw [List.map_eq_nil_iff] at e4;rw [e4] at hib;simp at hib
  · have:=(g3 i (by rw [List.length_map];exact hib)).1
    rw [List.getElem_map] at this
    exact ⟨o,bs[i],g1,g2,this,ht i hib hi⟩

def TyP (w : World) (P : Nat → Prop) (b : Nat) (t : Wf.Ty) : Prop:=∃ fb a c line,P b ∧ P fb ∧ b < w.heap.size ∧ fb < w.heap.size ∧ w.cell? ⟨b,0,none⟩ = some (.int .u8 t.sort.toNat) ∧ w.cell? ⟨b,1,none⟩ = some (tx t.name) ∧ w.cell? ⟨b,2,none⟩ = some (.slice a t.fields.length c) ∧ w.heap[b]? = some (.cells line 121 (0,0)) ∧ RowK w fb (.slice a t.fields.length c) 6 (t.fields.map (fdC t.sort))
theorem TyP.keep {w w' : World} {P Q : Nat → Prop} {b : Nat} {t : Wf.Ty} (h : TyP w P b t) (hs : w.heap.size ≤ w'.heap.size) (hk : ∀ x,P x → x < w.heap.size → Q x ∧ w'.heap[x]? = w.heap[x]?) : TyP w' Q b t:=by
  obtain ⟨fb,a,c,line,h1,h2,h3,h4,c0,c1,c2,c3,hr⟩:=h
  have hb:=hk b h1 h3
  have hf:=hk fb h2 h4
  have cc:=fun o => World.cell?_of_block (w:=w) (w':=w') (a:=⟨b,o,none⟩) hb.2
  exact ⟨fb,a,c,line,hb.1,hf.1,Nat.lt_of_lt_of_le h3 hs,Nat.lt_of_lt_of_le h4 hs,(cc 0).trans c0,(cc 1).trans c1,(cc 2).trans c2,hb.2.trans c3,hr.keep hs fun hx => hf.2⟩
theorem TyP.below {w w' : World} {P : Nat → Prop} {b : Nat} {t : Wf.Ty} (h : TyP w P b t) (hb : Below w.heap.size w w') : TyP w' P b t:=h.keep hb.size fun x hp hx => ⟨hp,hb.block x hx⟩
theorem TyP.toL {w : World} {P : Nat → Prop} {lo b : Nat} {t : Wf.Ty} (h : TyP w P b t) (hP : ∀ y,P y → lo ≤ y) : TyL w lo b t:=by
  obtain ⟨fb,a,c,line,h1,h2,h3,h4,h5⟩:=h
  exact ⟨fb,a,c,line,hP b h1,hP fb h2,h3,h5⟩
theorem TyL.toP {w : World} {P : Nat → Prop} {lo b : Nat} {t : Wf.Ty} (h : TyL w lo b t) (hP : ∀ y,lo ≤ y → y < w.heap.size → P y) : TyP w P b t:=by
  obtain ⟨fb,a,c,line,h1,h2,h3,c0,c1,c2,c3,hr⟩:=h
  obtain ⟨a',cap,e1,e2,e3,e4⟩:=hr
  rcases e4 with e4 | ⟨o,e5,e6,e7⟩
  · exact ⟨b,a,c,line,hP b h1 h3,hP b h1 h3,h3,h3,c0,c1,c2,c3,a',cap,e1,e2,e3, .inl e4⟩
  · exact ⟨fb,a,c,line,hP b h1 h3,hP fb h2 e6,h3,e6,c0,c1,c2,c3,a',cap,e1,e2,e3, .inr ⟨o,e5,e6,e7⟩⟩
theorem TyP.lt {w : World} {P : Nat → Prop} {b : Nat} {t : Wf.Ty} (h : TyP w P b t) : b < w.heap.size:=by obtain ⟨_,_,_,_,_,_,h3,_⟩:=h;exact h3
structure SSt (w wr : World) (acc : List Wf.Ty) (bs : List Nat) (a : Option Addr) (c : Nat) : Prop where
  below : Below w.heap.size w wr
  size : w.heap.size + 2 ≤ wr.heap.size
  c0 : wr.cell? ⟨w.heap.size + 1,0,none⟩ = some (.slice a acc.length c)
  c1 : wr.cell? ⟨w.heap.size + 1,1,none⟩ = some (.map (some w.heap.size))
  f0 : wr.frozen? ⟨w.heap.size + 1,0,none⟩ = false
  own : wr.ownsRow (w.heap.size + 2) 117 1 (.slice a acc.length c) acc.length (bs.map ptr)
  map : MapIs wr w.heap.size acc.length (blkOf acc bs)
  len : bs.length = acc.length
  inc : bs.Pairwise (· < ·)
  tys : ∀ i (h1 : i < bs.length) (h2 : i < acc.length),TyP wr (fun y => w.heap.size + 2 ≤ y ∧ some y ≠ (Value.slice a acc.length c).ownBlock) bs[i] acc[i]
  l8 : acc.length ≤ 8
section
variable {w wr : World} {acc : List Wf.Ty} {bs : List Nat} {a : Option Addr} {c : Nat}
theorem SSt.step (h : SSt w wr acc bs a c) {w2 : World} (hb : Below wr.heap.size wr w2) : SSt w w2 acc bs a c:=by
  have hs:=h.size
  have ht : w.heap.size + 1 < wr.heap.size:=by omega
  refine ⟨h.below.trans (hb.mono (by omega)),Nat.le_trans hs hb.size, ?_, ?_, ?_,owns_below h.own hb,h.map.below hb,h.len,h.inc,fun i h1 h2 => (h.tys i h1 h2).below hb,h.l8⟩
  · exact (hb.cell (p:=⟨w.heap.size + 1,0,none⟩) ht).trans h.c0
  · exact (hb.cell (p:=⟨w.heap.size + 1,1,none⟩) ht).trans h.c1
  · exact (hb.frozen (p:=⟨w.heap.size + 1,0,none⟩) ht).trans h.f0
theorem SSt.start (w : World) : SSt w ((w.alloc (.map #[] 0)).alloc (.cells #[.slice none 0 0, .map (some w.heap.size)] 114)) [] [] none 0:=by
  refine ⟨((Below.refl _ _).alloc (Nat.le_refl _) _).alloc (by simp) _,by simp,by simp,by simp,by simp,World.ownsRow_nil _ _ _ _, ?_,rfl,List.Pairwise.nil,fun i h1 => by simp at h1,by simp⟩
  have:=(MapIs.made w).below ((Below.refl _ _).alloc (Nat.le_refl _) (.cells #[.slice none 0 0, .map (some w.heap.size)] 114))
  exact this
theorem SSt.done (h : SSt w wr acc bs a c) : ScL wr w.heap.size (w.heap.size + 1) acc:=by
  have hs:=h.size
  obtain ⟨rb,hrb,hrow⟩:=RowAt.of_owns (by have:=h.own;rw [show acc.length = (bs.map ptr).length by rw [List.length_map,h.len]] at this;exact this)
  rw [show (bs.map ptr).length = acc.length by rw [List.length_map,h.len]] at hrow
  exact ⟨w.heap.size,_,rb,a,c,bs,by omega,Nat.le_refl _,by omega,by omega,h.c0,h.c1,hrow,h.map,h.len,h.inc,fun i h1 h2 => (h.tys i h1 h2).toL fun y hy => by omega⟩
theorem SSt.put (h : SSt w wr acc bs a c) {wx w4 w5 : World} (hx : Below wr.heap.size wr wx) {tb : Nat} {t : Wf.Ty} (ht : TyL wx wr.heap.size tb t) {wy : World} (hy : Below wx.heap.size wx wy) (hg : wy.grownBy w4 (Value.slice a acc.length c).ownBlock) {a' : Option Addr} {c' : Nat} (ho : w4.ownsRow (w.heap.size + 2) 117 1 (.slice a' (acc.length + 1) c') (acc.length + 1) (bs.map ptr ++ [ptr tb]))
    (hloc : (Value.slice a' (acc.length + 1) c').ownBlock = (Value.slice a acc.length c).ownBlock ∨ (Value.slice a' (acc.length + 1) c').ownBlock = some wy.heap.size)
    (hm : MapIs w5 w.heap.size (acc.length + 1) (mapPut (blkOf acc bs) t.name tb)) (hg5 : (w4.setCell ⟨w.heap.size + 1,0,none⟩ (.slice a' (acc.length + 1) c')).grownBy w5 (some w.heap.size)) (hn : acc.any (fun u => u.name == t.name) = false) (h8 : acc.length < 8) :
    SSt w w5 (acc ++ [t]) (bs ++ [tb]) a' c':=by
  have hs:=h.step hx
  have hs2:=hs.step hy
  have hsz:=hs2.size
  have hxs:=hx.size
  have hys:=hy.size
  have hown:=owns_lt h.own
  have hown2:=owns_lt ho
  have hb4 : Below (w.heap.size + 2) wy w4:=below_grown2 hg (fun g hgk => (hown g hgk).1) hsz
  have hset : Below (w.heap.size + 1) w4 (w4.setCell ⟨w.heap.size + 1,0,none⟩ (.slice a' (acc.length + 1) c')):=Below.setCell (p:=⟨w.heap.size + 1,0,none⟩) (Below.refl _ _) (Nat.le_refl _) _
  have hss : (w4.setCell ⟨w.heap.size + 1,0,none⟩ (.slice a' (acc.length + 1) c')).heap.size = w4.heap.size:=by simp
  have h4s:=hb4.size
  have h5s : w4.heap.size ≤ w5.heap.size:=by have:=hg5.size;rw [hss] at this;exact this
  have c04 : w4.cell? ⟨w.heap.size + 1,0,none⟩ = some (.slice a acc.length c):=(hb4.cell (p:=⟨w.heap.size + 1,0,none⟩) (Nat.lt_succ_self _)).trans hs2.c0
  have blk : ∀ y,y < w4.heap.size → y ≠ w.heap.size → y ≠ w.heap.size + 1 → w5.heap[y]? = w4.heap[y]?:=fun y h1 h2 h3 => (hg5.block y (by rw [hss];exact h1) (by intro e;exact h2 (Option.some.inj e))).trans (Below.heap_setCell w4 ⟨w.heap.size + 1,0,none⟩ _ y h3)
  have far : ∀ o,w5.cell? ⟨w.heap.size + 1,o,none⟩ = (w4.setCell ⟨w.heap.size + 1,0,none⟩ (.slice a' (acc.length + 1) c')).cell? ⟨w.heap.size + 1,o,none⟩:=fun o => hg5.cell_far ⟨w.heap.size + 1,o,none⟩ (by rw [hss];show w.heap.size + 1 < w4.heap.size;omega) (by intro e;have:=Option.some.inj e;simp at this)
  have farf : w5.frozen? ⟨w.heap.size + 1,0,none⟩ = (w4.setCell ⟨w.heap.size + 1,0,none⟩ (.slice a' (acc.length + 1) c')).frozen? ⟨w.heap.size + 1,0,none⟩:=hg5.frozen_far ⟨w.heap.size + 1,0,none⟩ (by rw [hss];show w.heap.size + 1 < w4.heap.size;omega) (by intro e;have:=Option.some.inj e;simp at this)
  have hla : (acc ++ [t]).length = acc.length + 1:=by simp
  have keepT : ∀ {b u},TyP wy (fun y => w.heap.size + 2 ≤ y ∧ some y ≠ (Value.slice a acc.length c).ownBlock) b u → TyP w5 (fun y => w.heap.size + 2 ≤ y ∧ some y ≠ (Value.slice a' (acc.length + 1) c').ownBlock) b u:=fun {b u} hT => hT.keep (Nat.le_trans h4s h5s) fun y hp hlt => by
    refine ⟨⟨hp.1, ?_⟩, ?_⟩
    · rcases hloc with e | e
      · rw [e];exact hp.2
      · rw [e];intro e2;have:=Option.some.inj e2;omega
    · rw [blk y (by omega) (by omega) (by omega)];exact hg.block y hlt hp.2
  have hTn : TyP wy (fun y => w.heap.size + 2 ≤ y ∧ some y ≠ (Value.slice a acc.length c).ownBlock) tb t:=by
    refine ((ht.toP (P:=fun y => w.heap.size + 2 ≤ y ∧ some y ≠ (Value.slice a acc.length c).ownBlock) fun y h1 h2 => ⟨by have:=h.size;omega,fun e => ?_⟩)).below hy
    have:=(hown y e.symm).2
    omega
  have h5 : Below (w.heap.size + 2) w4 (w4.setCell ⟨w.heap.size + 1,0,none⟩ (.slice a' (acc.length + 1) c')) ∨ True:=.inr trivial
  refine ⟨?_, ?_, ?_, ?_, ?_, ?_, ?_, ?_, ?_, ?_, ?_⟩
  · refine ((hs2.below.trans (hb4.mono (by omega))).trans (hset.mono (by omega))).grown hg5 ?_ fun k hk => by rw [← Option.some.inj hk];exact Nat.le_refl _
    rw [hss];omega
  · omega
  · rw [hla,far 0];exact World.cell?_setCell_same w4 _ _ c04
  · rw [far 1];exact (World.cell?_setCell_other w4 _ _ _ (by simp)).trans ((hb4.cell (p:=⟨w.heap.size + 1,1,none⟩) (Nat.lt_succ_self _)).trans hs2.c1)
  · rw [farf]
    have:=(hb4.frozen (p:=⟨w.heap.size + 1,0,none⟩) (Nat.lt_succ_self _)).trans hs2.f0
    simpa using this
  · rw [hla,List.map_append,List.map_singleton]
    exact (ownsRow_setCell_below ho (by show w.heap.size + 1 < _;omega) _).kept hg5 (.inr fun e => by have:=(hown2 _ e).1;omega)
  · rw [hla,blkOf_put h.len hn];exact hm
  · rw [hla,List.length_append,h.len];rfl
  · rw [List.pairwise_append]
    refine ⟨h.inc,by simp,fun b hb b' hb' => ?_⟩
    obtain ⟨i,hi,rfl⟩:=List.mem_iff_getElem.1 hb
    rw [List.mem_singleton.1 hb']
    have:=(h.tys i hi (by rw [← h.len];exact hi)).lt
    have:=ht.le
    omega
  · intro i h1 h2
    rw [hla]
    by_cases hi : i < acc.length
    · have hib : i < bs.length:=by rw [h.len];exact hi
      rw [List.getElem_append_left hib,List.getElem_append_left hi]
      exact keepT (hs2.tys i hib hi)
    · have hie : i = acc.length:=by rw [hla] at h2;omega
      have e1 : (bs ++ [tb])[i] = tb:=by
        rw [List.getElem_append_right (by rw [h.len];omega)];simp
      have e2 : (acc ++ [t])[i] = t:=by
        rw [List.getElem_append_right (by omega)];simp
      rw [e1,e2]
      exact keepT hTn
  · rw [hla];omega
end

theorem TyL.first {w : World} {lo b : Nat} {t : Wf.Ty} (h : TyL w lo b t) (h69 : t.sort ≠ 69) {f : Wf.Fd} {fs : List Wf.Fd} (hf : t.fields = f :: fs) : ∃ fb o n c,fb < w.heap.size ∧ 0 < n ∧ n ≤ c ∧ c ≤ maxLen ∧ w.cell? ⟨b,2,none⟩ = some (.slice (some ⟨fb,o,none⟩) n c) ∧ w.cell? ⟨fb,o,none⟩ = some (.int .i64 f.tag) ∧ w.cell? ⟨fb,o + 2,none⟩ = some (tx f.kind.signs) ∧ w.cell? ⟨fb,o + 3,none⟩ = some (tx f.kind.base) ∧ w.cell? ⟨fb,o + 4,none⟩ = some (tx f.kind.name):=by
  obtain ⟨fb,a,c,line,_,_,_,_,_,c2,_,hr⟩:=h
  have hl : 0 < (t.fields.map (fdC t.sort)).length:=by rw [List.length_map,hf];simp
  obtain ⟨o,rfl,hfb,hn,hc,hcell⟩:=hr.get (i:=0) hl
  have e0 : (t.fields.map (fdC t.sort))[0]'hl = fdC t.sort f:=by simp [hf]
  rw [e0] at hcell
  have e1 : fdC t.sort f = [.int .i64 f.tag,tx f.name,tx f.kind.signs,tx f.kind.base,tx f.kind.name,tx f.given]:=by unfold fdC;rw [if_neg h69]
  rw [e1] at hcell
  have g:=fun j u hj hu => hcell j u hj hu
  simp only [Nat.zero_mul,Nat.add_zero] at g
  exact ⟨fb,o,t.fields.length,c,hfb,by rw [hf];simp,hn,hc,c2,g 0 _ (by decide) rfl,g 2 _ (by decide) rfl,g 3 _ (by decide) rfl,g 4 _ (by decide) rfl⟩
theorem TyL.sort {w : World} {lo b : Nat} {t : Wf.Ty} (h : TyL w lo b t) : b < w.heap.size ∧ w.cell? ⟨b,0,none⟩ = some (.int .u8 t.sort.toNat):=by
  obtain ⟨_,_,_,_,_,_,h3,c0,_⟩:=h
  exact ⟨h3,c0⟩
theorem ends_kind {x : Wf.Sc} {m : Nat} {t : Wf.Ty} {f : Wf.Fd} {fs : List Wf.Fd} (h : t.sort = 85) (hf : t.fields = f :: fs) : Wf.endsIn x (m + 1) t = match f.kind with | .ref nm => (match x.find nm with | none => true | some u => Wf.endsIn x m u) | _ => true:=by
  rw [Wf.endsIn,if_neg (by rw [h];decide),hf]
  obtain ⟨tag,name,kind,given⟩:=f
  cases kind <;> rfl
def EndSt (x : Wf.Sc) (W : World) (lo b : Nat) (u : Wf.Ty) (n : Nat) (E : Bool) : Prop:=TyL W lo b u ∧ E = Wf.endsIn x (9 - n) u ∧ u ∈ x
end Go.Proofs.Ytidjpalnmnehmaa
