/- Packed by pack.py: Xa PlainX Xb. -/
import Derived.Test.YtmdacedmjbiekaaGreatDoorR25
import Derived.Test.YtmdacedmjbiekaaGreatDoorR6
import Derived.Test.YtmdacedmjbiekaaGreatDoorR3
import Derived.Deep.RegionHeld3
namespace Go.Proofs.YtmdacedmjbiekaaGreatDoor
open Go.ChangeShapes Go.WideShapes Go.ChangeAt Go.RowKit Go.Lib
set_option linter.unusedVariables false
def tagsOf (what : UInt8) (tag : Nat) (kids : List Wf.V) : List Nat:=if what = 82 then kids.map Wf.V.tag else if what = 85 ∨ what = 69 then [tag] else []
def shapeR (what : UInt8) (text : List UInt8) (kd t : List UInt8) : Prop :=
  if what = 110 then kd.head? = some 110 ∧ t = text
  else if what = 116 then kd.head? = some 116 ∧ t = 39 :: (text ++ [39])
  else if what = 102 then kd.head? = some 102 ∧ t = text
  else if what = 91 then kd.head? = some 91 ∧ t = []
  else if what = 63 then kd.head? = some 63 ∧ t = []
  else if what = 82 then kd.head? = some 64 ∧ t = [82]
  else if what = 85 then kd.head? = some 64 ∧ t = [85]
  else if what = 69 then kd.head? = some 64 ∧ t = [69]
  else False
theorem RowAt.lts {w : World} {b : Nat} {v : Value} {xs : List Value} (h : RowAt w b v xs) : xs = [] ∨ b < w.heap.size:=by
  obtain ⟨a,cap,h1,h2,h3,h4 | ⟨o,h5,h6,h7⟩⟩:=h
  · exact .inl h4
  · exact .inr h6
mutual
def LV (W : World) (P : Nat → Prop) : Wf.V → Nat → Prop
  | .mk what text tag kids,b => (what = 61 ∧ LVs W P kids [b]) ∨ (what ≠ 61 ∧ P b ∧ b < W.heap.size ∧ ∃ (kd t : List UInt8) (tv kv : Value) (tb kb : Nat) (bs : List Nat),
      W.cell? ⟨b,0,none⟩ = some (tx kd) ∧ W.cell? ⟨b,1,none⟩ = some (tx t) ∧ W.cell? ⟨b,2,none⟩ = some tv ∧ W.cell? ⟨b,3,none⟩ = some kv ∧
      RowAt W tb tv ((tagsOf what tag kids).map ix) ∧ (tagsOf what tag kids = [] ∨ P tb) ∧ RowAt W kb kv (bs.map ptr) ∧ (bs = [] ∨ P kb) ∧ shapeR what text kd t ∧ LVs W P kids bs)
def LVs (W : World) (P : Nat → Prop) : List Wf.V → List Nat → Prop
  | [],bs => bs = []
  | v :: l,bs => ∃ b bs',bs = b :: bs' ∧ LV W P v b ∧ LVs W P l bs'
end
section
variable {W W' : World} {P Q : Nat → Prop}
mutual
theorem LV.keep (hk : ∀ b,P b → b < W.heap.size → Q b ∧ W'.heap[b]? = W.heap[b]?) (hs : W.heap.size ≤ W'.heap.size) : ∀ (v : Wf.V) (b : Nat),LV W P v b → LV W' Q v b
  | .mk what text tag kids,b,h => by
    simp only [LV] at h ⊢
    rcases h with ⟨h1,h2⟩ | ⟨h1,h2,h3,kd,t,tv,kv,tb,kb,bs,c0,c1,c2,c3,r1,r2,r3,r4,h4,h5⟩
    · exact .inl ⟨h1,LVs.keep hk hs kids [b] h2⟩
    · right
      have cc:=fun o => World.cell?_of_block (w:=W) (w':=W') (a:=⟨b,o,none⟩) (hk b h2 h3).2
      refine ⟨h1,(hk b h2 h3).1,Nat.lt_of_lt_of_le h3 hs,kd,t,tv,kv,tb,kb,bs,(cc 0).trans c0,(cc 1).trans c1,(cc 2).trans c2,(cc 3).trans c3, ?_, ?_, ?_, ?_,h4,LVs.keep hk hs kids bs h5⟩
      · rcases r2 with r2 | r2
        · rw [r2] at r1 ⊢
          obtain ⟨a,c,e1,e2,e3,_⟩:=r1
          exact ⟨a,c,e1,e2,e3, .inl rfl⟩
        · exact r1.keep hs fun hx => (hk tb r2 hx).2
      · rcases r2 with r2 | r2
        · exact .inl r2
        · rcases r1.lts with h0 | h0
          · exact .inl (List.map_eq_nil_iff.1 h0)
          · exact .inr (hk tb r2 h0).1
      · rcases r4 with r4 | r4
        · rw [r4] at r3 ⊢
          obtain ⟨a,c,e1,e2,e3,_⟩:=r3
          exact ⟨a,c,e1,e2,e3, .inl rfl⟩
        · exact r3.keep hs fun hx => (hk kb r4 hx).2
      · rcases r4 with r4 | r4
        · exact .inl r4
        · rcases r3.lts with h0 | h0
          · exact .inl (List.map_eq_nil_iff.1 h0)
          · exact .inr (hk kb r4 h0).1
theorem LVs.keep (hk : ∀ b,P b → b < W.heap.size → Q b ∧ W'.heap[b]? = W.heap[b]?) (hs : W.heap.size ≤ W'.heap.size) : ∀ (l : List Wf.V) (bs : List Nat),LVs W P l bs → LVs W' Q l bs
  | [],_,h => by simp only [LVs] at h ⊢;exact h
  | v :: l,bs,h => by
    simp only [LVs] at h ⊢
    obtain ⟨b,bs',h1,h2,h3⟩:=h
    exact ⟨b,bs',h1,LV.keep hk hs v b h2,LVs.keep hk hs l bs' h3⟩
end
theorem LV.mono {v : Wf.V} {b : Nat} (h : LV W P v b) (hk : ∀ b,P b → b < W.heap.size → Q b) : LV W Q v b:=LV.keep (fun b h1 h2 => ⟨hk b h1 h2,rfl⟩) (Nat.le_refl _) v b h
theorem LV.below {v : Wf.V} {b : Nat} (h : LV W P v b) (hb : Below W.heap.size W W') : LV W' P v b:=LV.keep (fun b h1 h2 => ⟨h1,hb.block b h2⟩) hb.size v b h
theorem LVs.len : ∀ {l : List Wf.V} {bs : List Nat},LVs W P l bs → bs.length = l.length:=by
  intro l
  induction l with
  | nil => intro bs h;simp only [LVs] at h;rw [h];rfl
  | cons v l ih =>
    intro bs h
    simp only [LVs] at h
    obtain ⟨b,bs',rfl,_,h⟩:=h
    simp [ih h]
theorem LVs.get : ∀ {l : List Wf.V} {bs : List Nat},LVs W P l bs → ∀ i (h1 : i < l.length) (h2 : i < bs.length),LV W P l[i] bs[i]:=by
  intro l
  induction l with
  | nil => intro bs _ i h1;simp at h1
  | cons v l ih =>
    intro bs h i h1 h2
    simp only [LVs] at h
    obtain ⟨b,bs',rfl,h3,h4⟩:=h
    cases i with
    | zero => exact h3
    | succ i => exact ih h4 i (by simpa using h1) (by simpa using h2)
theorem LVs.of : ∀ {l : List Wf.V} {bs : List Nat},bs.length = l.length → (∀ i (h1 : i < l.length) (h2 : i < bs.length),LV W P l[i] bs[i]) → LVs W P l bs:=by
  intro l
  induction l with
  | nil => intro bs hl _;simp only [LVs];exact List.eq_nil_of_length_eq_zero (by simpa using hl)
  | cons v l ih =>
    intro bs hl h
    cases bs with
    | nil => simp at hl
    | cons b bs =>
      simp only [LVs]
      exact ⟨b,bs,rfl,h 0 (by simp) (by simp),ih (by simpa using hl) fun i h1 h2 => h (i + 1) (by simpa using h1) (by simpa using h2)⟩
theorem LV.form {v : Wf.V} {b : Nat} (h : LV W P v b) (hw : v.what ≠ 61) : P b ∧ b < W.heap.size ∧ ∃ (kd t : List UInt8) (tv kv : Value) (tb kb : Nat) (bs : List Nat),
      W.cell? ⟨b,0,none⟩ = some (tx kd) ∧ W.cell? ⟨b,1,none⟩ = some (tx t) ∧ W.cell? ⟨b,2,none⟩ = some tv ∧ W.cell? ⟨b,3,none⟩ = some kv ∧
      RowAt W tb tv ((tagsOf v.what v.tag v.kids).map ix) ∧ RowAt W kb kv (bs.map ptr) ∧ shapeR v.what v.text kd t ∧ LVs W P v.kids bs:=by
  cases v with
  | mk what text tag kids =>
    simp only [LV] at h
    rcases h with ⟨h1,_⟩ | ⟨h1,h2,h3,kd,t,tv,kv,tb,kb,bs,c0,c1,c2,c3,r1,r2,r3,r4,h4,h5⟩
    · exact absurd h1 hw
    · exact ⟨h2,h3,kd,t,tv,kv,tb,kb,bs,c0,c1,c2,c3,r1,r3,h4,h5⟩
theorem LV.field {text : List UInt8} {tag : Nat} {u : Wf.V} {b : Nat} : LV W P (.mk 61 text tag [u]) b ↔ LV W P u b:=by
  simp only [LV,LVs]
  constructor
  · rintro (⟨_,b',bs',h1,h2,h3⟩ | ⟨h,_⟩)
    · simp only [List.cons.injEq] at h1
      rw [h1.1];exact h2
    · exact absurd rfl h
  · intro h
    exact .inl ⟨trivial,b,[],rfl,h,rfl⟩
theorem LV.mk {what : UInt8} {text kd t : List UInt8} {tag b tb kb : Nat} {tv kv : Value} {kids : List Wf.V} {bs : List Nat} (hw : what ≠ 61) (hp : P b) (hb : b < W.heap.size)
    (c0 : W.cell? ⟨b,0,none⟩ = some (tx kd)) (c1 : W.cell? ⟨b,1,none⟩ = some (tx t)) (c2 : W.cell? ⟨b,2,none⟩ = some tv) (c3 : W.cell? ⟨b,3,none⟩ = some kv)
    (r1 : RowAt W tb tv ((tagsOf what tag kids).map ix)) (r2 : tagsOf what tag kids = [] ∨ P tb) (r3 : RowAt W kb kv (bs.map ptr)) (r4 : bs = [] ∨ P kb) (hs : shapeR what text kd t) (hk : LVs W P kids bs) : LV W P (.mk what text tag kids) b:=by
  simp only [LV]
  exact .inr ⟨hw,hp,hb,kd,t,tv,kv,tb,kb,bs,c0,c1,c2,c3,r1,r2,r3,r4,hs,hk⟩
end
end Go.Proofs.YtmdacedmjbiekaaGreatDoor

namespace Wf
set_option linter.unusedVariables false
set_option linter.unusedSimpArgs false
theorem commas_app {l m : List Bs} (h : l ≠ []) (hm : m ≠ []) : commas (l ++ m) = commas l ++ 44 :: commas m:=by
  induction l with
  | nil => exact absurd rfl h
  | cons a l ih =>
    cases l with
    | nil =>
      rw [List.singleton_append,commas_cons a hm]
      rfl
    | cons b l =>
      rw [List.cons_append,commas_cons a (by simp),ih (by simp),commas_cons a (by simp)]
      simp
theorem commas_snoc {l : List Bs} (h : l ≠ []) (a : Bs) : commas (l ++ [a]) = commas l ++ 44 :: a:=by
  rw [commas_app h (by simp)]
  rfl
theorem commas_take {l : List Bs} (i : Nat) : (commas (l.take i)).length ≤ (commas l).length:=by
  by_cases h1 : l.take i = []
  · rw [h1];simp [commas]
  · by_cases h2 : l.drop i = []
    · have : l.take i = l:=by
        have:=List.take_append_drop i l
        rw [h2,List.append_nil] at this
        exact this
      rw [this]
      exact Nat.le_refl _
    · have:=congrArg (fun m => (commas m).length) (List.take_append_drop i l)
      simp only [commas_app h1 h2,List.length_append,List.length_cons] at this
      omega
theorem commas_step {l : List Bs} {i : Nat} (h : i < l.length) : commas (l.take (i + 1)) = if i = 0 then l[i] else commas (l.take i) ++ 44 :: l[i]:=by
  have e : l.take (i + 1) = l.take i ++ [l[i]]:=by rw [List.take_add_one,List.getElem?_eq_getElem h];rfl
  rw [e]
  by_cases h0 : i = 0
  · subst h0
    simp [commas]
  · rw [if_neg h0,commas_snoc]
    intro hn
    rw [List.take_eq_nil_iff] at hn
    rcases hn with hn | hn
    · exact h0 hn
    · rw [hn] at h;simp at h
theorem typed_ne {x : Sc} {n : Nat} {k : K} {v : V} (h : Typed x n k v) : v.what ≠ 61:=by
  cases n with
  | zero => exact h.elim
  | succ n =>
    cases k with
    | num => obtain ⟨m,_,rfl⟩:=h;simp [V.what]
    | txt => obtain ⟨b,_,_,rfl⟩:=h;simp [V.what]
    | flag => rcases h with rfl | rfl <;> simp [V.what]
    | list k => obtain ⟨l,_,_,rfl⟩:=h;simp [V.what]
    | opt k => rcases h with rfl | ⟨u,_,rfl⟩ <;> simp [V.what]
    | ref nm =>
      obtain ⟨t,_,h⟩:=h
      rcases h with ⟨_,f,_,_,rfl⟩ | ⟨_,_,f,u,_,_,_,rfl⟩ | ⟨_,_,l,_,_,rfl⟩ <;> simp [V.what]
end Wf

namespace Go.Proofs.YtmdacedmjbiekaaGreatDoor
open Go.ChangeShapes Go.WideShapes Go.ChangeAt Go.RowKit Go.Lib
set_option linter.unusedVariables false
set_option linter.unusedSimpArgs false
theorem count_parts (ps : List (List UInt8)) : ps.length ≤ (Wf.commas ps).length + 1:=by
  cases ps with
  | nil => simp
  | cons a l => have:=Wf.commas_length (a :: l) (by simp);omega
theorem kd_first {kd : List UInt8} {c : UInt8} (h : kd.head? = some c) : 0 < (⟨kd.toArray⟩ : ByteArray).size ∧ ∀ h,((⟨kd.toArray⟩ : ByteArray)[0]'h).toNat = c.toNat:=by
  cases kd with
  | nil => simp at h
  | cons a r =>
    simp at h
    subst h
    exact ⟨by simp [ByteArray.size],fun _ => rfl⟩
theorem RowAt.get {w : World} {b : Nat} {a : Option Addr} {n c : Nat} {xs : List Value} (h : RowAt w b (.slice a n c) xs) {i : Nat} (hi : i < xs.length) : ∃ o,a = Option.some ⟨b,o,none⟩ ∧ b < w.heap.size ∧ n ≤ c ∧ c ≤ maxLen ∧ w.cell? ⟨b,o + i,none⟩ = Option.some xs[i]:=by
  obtain ⟨a',c',h1,h2,h3,h4⟩:=h
  simp only [Value.slice.injEq] at h1
  obtain ⟨rfl,rfl,rfl⟩:=h1
  rcases h4 with h4 | ⟨o,g1,g2,g3⟩
  · rw [h4] at hi;simp at hi
  · exact ⟨o,g1,g2,h2,h3,(g3 i hi).1⟩
theorem RowAt.form {w : World} {b : Nat} {v : Value} {xs : List Value} (h : RowAt w b v xs) : ∃ a c,v = .slice a xs.length c ∧ xs.length ≤ c ∧ c ≤ maxLen:=by
  obtain ⟨a,c,h1,h2,h3,_⟩:=h
  exact ⟨a,c,h1,h2,h3⟩
set_option maxRecDepth 20000 in
set_option maxHeartbeats 2000000 in
theorem out_leaf (b q : Nat) (KD T : ByteArray) (w : World) (hlt : b < w.heap.size) (hs : 0 < KD.size) (e0 : ∀ h,(KD[0]'h).toNat = q) (hq : q = 110 ∨ q = 116 ∨ q = 102) (c0 : w.cell? ⟨b,0,none⟩ = some (.string KD)) (c1 : w.cell? ⟨b,1,none⟩ = some (.string T)) :
    Calls Tryz.prog 59 #[ptr b] w fun e w' => e = .returned (.string T) ∧ w = w':=by
  rcases hq with rfl | rfl | rfl
  all_goals
    go_enter Tryz.func59,Tryz.ntmps59
    go_wp2_with fail
    go_ret
    exact ⟨rfl,rfl⟩
set_option maxRecDepth 20000 in
set_option maxHeartbeats 2000000 in
theorem out_none (b c : Nat) (KD : ByteArray) (a : Option Addr) (w : World) (hlt : b < w.heap.size) (hs : 0 < KD.size) (e0 : ∀ h,(KD[0]'h).toNat = 63) (c0 : w.cell? ⟨b,0,none⟩ = some (.string KD)) (c3 : w.cell? ⟨b,3,none⟩ = some (.slice a 0 c)) :
    Calls Tryz.prog 59 #[ptr b] w fun e w' => e = .returned (tx [45]) ∧ w = w':=by
  go_enter Tryz.func59,Tryz.ntmps59
  go_wp2_with fail
  go_ret
  exact ⟨rfl,rfl⟩
set_option maxRecDepth 20000 in
set_option maxHeartbeats 2000000 in
theorem out_some (b kb o u c : Nat) (KD T : ByteArray) (w : World) (hlt : b < w.heap.size) (hs : 0 < KD.size) (e0 : ∀ h,(KD[0]'h).toNat = 63) (c0 : w.cell? ⟨b,0,none⟩ = some (.string KD)) (c3 : w.cell? ⟨b,3,none⟩ = some (.slice (some ⟨kb,o,none⟩) 1 c)) (hkb : kb < w.heap.size) (ck : w.cell? ⟨kb,o,none⟩ = some (ptr u)) (h1 : 1 ≤ c) (hc : c ≤ maxLen) (hT : T.size ≤ 2000000)
    (hk : ∀ wz,Below w.heap.size w wz → Calls Tryz.prog 59 #[ptr u] wz fun e w' => e = .returned (.string T) ∧ Below wz.heap.size wz w') :
    Calls Tryz.prog 59 #[ptr b] w fun e w' => e = .returned (tx (43 :: T.data.toList)) ∧ Below w.heap.size w w':=by
  have HK:=hid hk
  have HO:=hid (show (⟨#[43]⟩ : ByteArray) ++ T = ⟨(43 :: T.data.toList).toArray⟩ by rw [eq_list];simp)
  unfold maxLen at hc
  clear hk
  go_enter Tryz.func59,Tryz.ntmps59
  go_wp2_with (go_at_call 59;refine (HK.out _ (Below.refl _ _)).mono ?_;rintro e w2 ⟨rfl,hb2⟩;have HB2:=hid hb2;clear hb2)
  go_ret
  exact ⟨ret_str HO.out,HB2.out⟩
set_option maxRecDepth 20000 in
set_option maxHeartbeats 2000000 in
theorem out_list (b kb : Nat) (KD : ByteArray) (kv : Value) (bs : List Nat) (ps : List (List UInt8)) (w : World) (hlt : b < w.heap.size) (hs : 0 < KD.size) (e0 : ∀ h,(KD[0]'h).toNat = 91) (c0 : w.cell? ⟨b,0,none⟩ = some (.string KD)) (c3 : w.cell? ⟨b,3,none⟩ = some kv) (hrow : RowAt w kb kv (bs.map ptr)) (hl : bs.length = ps.length) (hsz : (Wf.commas ps).length ≤ 2000000)
    (hk : ∀ i (h1 : i < bs.length) (h2 : i < ps.length) wz,Below w.heap.size w wz → Calls Tryz.prog 59 #[ptr bs[i]] wz fun e w' => e = .returned (tx ps[i]) ∧ Below wz.heap.size wz w') :
    Calls Tryz.prog 59 #[ptr b] w fun e w' => e = .returned (tx (91 :: (Wf.commas ps ++ [93]))) ∧ Below w.heap.size w w':=by
  obtain ⟨a,c,rfl,hnc,hcm⟩:=hrow.form
  obtain ⟨m,hm⟩ : ∃ m,(bs.map ptr).length = m:=⟨_,rfl⟩
  have hbm : bs.length = m:=by rw [← hm,List.length_map]
  have hpm : ps.length = m:=by omega
  have hm6 : m ≤ 2000001:=by have:=count_parts ps;omega
  have HBM:=hid hbm
  have HPM:=hid hpm
  have HMM:=hid hm
  rw [hm] at c3 hrow hnc
  have HROW:=hid hrow
  have HK:=hid hk
  have HSZ:=hid hsz
  unfold maxLen at hcm
  clear hrow hk hl hsz hm hbm hpm
  go_enter Tryz.func59,Tryz.ntmps59
  go_wp2_with fail
  go_loopw [3,4] (fun s3 s4 wr => ∃ (i : Nat) (S : ByteArray),s3 = .string S ∧ s4 = .int .i64 i ∧ i ≤ m ∧ S.size ≤ 2000001 ∧ Hid (S.data.toList = 91 :: Wf.commas (ps.take i) ∧ Below w.heap.size w wr)) (fun _ s4 _ => m - (RowKit.intOf s4).toNat)
  case atStart => exact ⟨0,⟨#[91]⟩,rfl,rfl,Nat.zero_le _,by decide,hid ⟨rfl,Below.refl _ _⟩⟩
  case round =>
    obtain ⟨i,S,rfl,rfl,hi,hS,hh⟩:=hrel
    have hbw : b < wr.heap.size:=Nat.lt_of_lt_of_le hlt hh.out.2.size
    have y3:=(hh.out.2.cell (p:=⟨b,3,none⟩) hlt).trans c3
    by_cases hlt2 : i < m
    · have hib : i < bs.length:=by rw [HBM.out];exact hlt2
      have hip : i < ps.length:=by rw [HPM.out];exact hlt2
      obtain ⟨o,rfl,hkb,_,_,ck⟩:=HROW.out.get (i:=i) (by rw [HMM.out];exact hlt2)
      rw [List.getElem_map] at ck
      obtain ⟨u,hu⟩ : ∃ u,bs[i] = u:=⟨_,rfl⟩
      obtain ⟨T,hT⟩ : ∃ T : ByteArray,(⟨(ps[i]).toArray⟩ : ByteArray) = T:=⟨_,rfl⟩
      rw [hu] at ck
      have hkw : kb < wr.heap.size:=Nat.lt_of_lt_of_le hkb hh.out.2.size
      have yk:=(hh.out.2.cell (p:=⟨kb,o + i,none⟩) hkb).trans ck
      have HC:=hid (show Calls Tryz.prog 59 #[ptr u] wr fun e w' => e = .returned (.string T) ∧ Below wr.heap.size wr w' by
        have:=HK.out i hib hip wr hh.out.2
        rw [hu] at this
        simp only [tx,hT] at this
        exact this)
      have HSTEP:=hid (Wf.commas_step hip)
      have hTs : T.size ≤ 2000000:=by
        have h1:=Wf.commas_mem (List.getElem_mem hip)
        rw [← hT,← size_list]
        show (ps[i]).length ≤ _
        exact Nat.le_trans h1 HSZ.out
      have HTL:=hid (show T.data.toList = ps[i] by rw [← hT])
      have HTK:=hid (show (Wf.commas (ps.take (i + 1))).length ≤ 2000000 from Nat.le_trans (Wf.commas_take _) HSZ.out)
      have fin : ∀ S' : ByteArray,S'.data.toList = 91 :: Wf.commas (ps.take (i + 1)) → S'.size ≤ 2000001:=fun S' h => by
        have:=HTK.out
        rw [← size_list,h]
        simp only [List.length_cons]
        omega
      have FIN:=hid fin
      clear hu hT ck fin
      by_cases hi0 : i = 0
      · subst hi0
        rw [Nat.add_zero] at yk
        have HE:=hid (show (S ++ T).data.toList = 91 :: Wf.commas (ps.take (0 + 1)) by
          rw [HSTEP.out,if_pos rfl,ByteArray.data_append,Array.toList_append,hh.out.1,HTL.out];rfl)
        go_wp2_with (go_at_call 59;refine HC.out.mono ?_;rintro e w2 ⟨rfl,hb2⟩;have HB2:=hid hb2;clear hb2)
        go_roundw
        case rel => exact ⟨0 + 1,S ++ T,by rfl,by go_num,by omega,FIN.out _ HE.out,hid ⟨HE.out,hh.out.2.trans (HB2.out.mono hh.out.2.size)⟩⟩
        case measure => simp [RowKit.intOf];omega
      · have hip0 : 0 < i:=by omega
        have HE:=hid (show (S ++ ⟨#[44]⟩ ++ T).data.toList = 91 :: Wf.commas (ps.take (i + 1)) by
          rw [HSTEP.out,if_neg hi0,ByteArray.data_append,ByteArray.data_append,Array.toList_append,Array.toList_append,hh.out.1,HTL.out];simp)
        clear hi0
        go_wp2_with (go_at_call 59;refine HC.out.mono ?_;rintro e w2 ⟨rfl,hb2⟩;have HB2:=hid hb2;clear hb2)
        go_roundw
        case rel => exact ⟨i + 1,S ++ ⟨#[44]⟩ ++ T,by rfl,by go_num,by omega,FIN.out _ HE.out,hid ⟨HE.out,hh.out.2.trans (HB2.out.mono hh.out.2.size)⟩⟩
        case measure => simp [RowKit.intOf];omega
    · have him : i = m:=by omega
      subst him
      have HE:=hid (show S ++ (⟨#[93]⟩ : ByteArray) = ⟨(91 :: (Wf.commas ps ++ [93])).toArray⟩ by
        rw [eq_list,ByteArray.data_append,Array.toList_append,hh.out.1,List.take_of_length_le (by rw [HPM.out];exact Nat.le_refl _)];simp)
      go_wp2_with fail
      go_ret
      exact ⟨ret_str HE.out,hh.out.2⟩
end Go.Proofs.YtmdacedmjbiekaaGreatDoor
