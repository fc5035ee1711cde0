/- Packed by pack.py: Sx Ib Mr Xa Nm Xb Xc. -/
import Derived.Test.YtidjpalnmnehmaaF3
import Derived.Test.YtidjpalnmnehmaaF4
import Derived.Deep.RegionWith
import Derived.Test.YtidjpalnmnehmaaF0
import Derived.Test.YtidjpalnmnehmaaF1
import Derived.IntWalk
import Derived.Deep.RegionHeld3
namespace Go.Proofs.Ytidjpalnmnehmaa
open Go.ChangeShapes Go.WideShapes Go.ChangeAt Go.RowKit Go.Lib
set_option linter.unusedVariables false
def RowAt (w : World) (b : Nat) (v : Value) (xs : List Value) : Prop :=
  ∃ a cap,v = .slice a xs.length cap ∧ xs.length ≤ cap ∧ cap ≤ maxLen ∧ (xs = [] ∨ ∃ o,a = some ⟨b,o,none⟩ ∧ b < w.heap.size ∧ ∀ i (h : i < xs.length),w.cell? ⟨b,o + i,none⟩ = some xs[i] ∧ w.frozen? ⟨b,o + i,none⟩ = false)
theorem RowAt.keep {w w' : World} {b : Nat} {v : Value} {xs : List Value} (h : RowAt w b v xs) (hs : w.heap.size ≤ w'.heap.size) (hk : b < w.heap.size → w'.heap[b]? = w.heap[b]?) : RowAt w' b v xs:=by
  obtain ⟨a,cap,h1,h2,h3,h4⟩:=h
  refine ⟨a,cap,h1,h2,h3, ?_⟩
  rcases h4 with h4 | ⟨o,h5,h6,h7⟩
  · exact .inl h4
  · refine .inr ⟨o,h5,Nat.lt_of_lt_of_le h6 hs,fun i hi => ?_⟩
    have h8:=hk h6
    exact ⟨(World.cell?_of_block (w:=w) (a:=⟨b,o + i,none⟩) h8).trans (h7 i hi).1,(World.frozen?_of_block (w:=w) (a:=⟨b,o + i,none⟩) h8).trans (h7 i hi).2⟩
theorem RowAt.below {w w' : World} {b B : Nat} {v : Value} {xs : List Value} (h : RowAt w b v xs) (hb : Below B w w') (hB : b < w.heap.size → b < B) : RowAt w' b v xs:=h.keep hb.size fun hx => hb.block b (hB hx)
theorem RowAt.beside {w w' : World} {b rb : Nat} {v : Value} {xs : List Value} (h : RowAt w b v xs) (hb : Beside rb w w') (hB : b ≠ rb) : RowAt w' b v xs:=h.keep hb.size fun hx => hb.block b hx hB
theorem RowAt.drewN {w : World} {b : Nat} {v : Value} {xs : List Value} (h : RowAt w b v xs) (n : Nat) : RowAt (w.drewN n) b v xs:=h.keep (Nat.le_refl _) fun _ => rfl
theorem RowAt.of_owns {w : World} {base : Nat} {e : TypeId} {v : Value} {xs : List Value} (h : w.ownsRow base e 1 v xs.length xs) : ∃ b,base ≤ b ∧ RowAt w b v xs:=by
  obtain ⟨h1,h2 | ⟨g,cap,cur,h3,h4,h5,h6,h7,h8,h9⟩⟩:=h
  · refine ⟨base,Nat.le_refl _,none,0, ?_,by omega,by unfold maxLen;omega, .inl (List.eq_nil_of_length_eq_zero h2.2)⟩
    rw [h2.1,h2.2]
  · refine ⟨g,h4,_,cap,h3,h6,h7, .inr ⟨0,rfl,(Array.getElem?_eq_some_iff.1 h5).1,fun i hi => ?_⟩⟩
    have hx : (cur.toList.take (xs.length * 1))[i]? = xs[i]?:=by rw [h9]
    rw [List.getElem?_take,if_pos (by omega),List.getElem?_eq_getElem hi] at hx
    have hx2 : cur[i]? = some xs[i]:=by simpa using hx
    simp [World.cell?,World.frozen?,h5,hx2]
theorem wpList_append_cell {P : Program} (w : World) {ops : Array Oper} {rest : List Oper} {o : Oper} {a : Act} {Q : Exit → Act → World → Prop} (hgd : o.guard = none) (s x : Operand) (t : TypeId)
    (ho : o.op = .call { callee:=.builtin .append,args:=#[s,x],argTypes:=#[t,t] })
    (base : Nat) (e : TypeId) (z : Value) (bytes : Nat) (ht : P.underlying t = some (.slice e)) (hi : (P.info? e).map (fun i => (i.zero,i.size,i.bytes)) = some (some z,1,bytes)) (hz1 : z.cells.size = 1)
    (v : Value) (xs : List Value) (hs : a.eval s = v) (hown : w.ownsRow base e 1 v xs.length xs)
    (ad : Addr) (u : Value) (hx : a.eval x = .slice (some ad) 1 1) (hc : w.cell? ad = some u) (hu : u.oneCell' = true)
    (hn : (xs.length + 1) * bytes ≤ 140737488355328) (hn1 : xs.length + 1 ≤ 140737488355328) (hbase : base ≤ w.heap.size)
    (h : ∀ v' w',w'.ownsRow base e 1 v' (xs ++ [u]).length (xs ++ [u]) → Below base w w' → wpList P ops Q rest (a.put o.dst v') w') : wpList P ops Q (o :: rest) a w:=by
  obtain ⟨i0,hi0,hz0,hz2,hz3⟩:=info_parts hi
  refine wpList_append_one w hgd s x t ho base e i0 z 1 bytes ht hi0 hz0 hz2 hz3 hz1 (by decide) v xs.length _ hs hown ad [u] hx rfl ?_ ?_ hn hn1 hbase ?_
  · intro j u' hj
    match j,hj with
    | 0,hj => simp at hj;subst hj;simpa [Addr.add] using hc
  · intro u' hu';simp at hu';subst hu';exact hu
  · intro v' w' g1 g2
    refine h v' w' ?_ g2
    have e1 : (xs ++ [u]).length = xs.length + 1:=by simp
    rw [e1]
    exact g1
def digs (n : Nat) : List UInt8:=if n = 0 then [] else digs (n / 10) ++ [UInt8.ofNat (48 + n % 10)]
termination_by n
decreasing_by omega
def mk (n : Nat) : List UInt8:=109 :: digs n
def Marked (w : World) (b o k n i : Nat) : Prop:=b < w.heap.size ∧ ∀ j,j < n → ∃ s : ByteArray,w.cell? ⟨b,o + j,none⟩ = some (.string s) ∧ w.frozen? ⟨b,o + j,none⟩ = false ∧ (j < i → s = ⟨(mk (k + j)).toArray⟩)
theorem Marked.step {w w2 : World} {b o k n i : Nat} (h : Marked w b o k n i) (hb : Below w.heap.size w w2) (hi : i < n) : Marked (w2.setCell ⟨b,o + i,none⟩ (tx (mk (k + i)))) b o k n (i + 1):=by
  obtain ⟨h1,h2⟩:=h
  refine ⟨Nat.lt_of_lt_of_le (Nat.lt_of_lt_of_le h1 hb.size) (by simp),fun j hj => ?_⟩
  obtain ⟨s,h3,h4,h5⟩:=h2 j hj
  have h3' : w2.cell? ⟨b,o + j,none⟩ = some (.string s):=by rw [hb.cell (p:=⟨b,o + j,none⟩) h1];exact h3
  have h4' : w2.frozen? ⟨b,o + j,none⟩ = false:=by rw [hb.frozen (p:=⟨b,o + j,none⟩) h1];exact h4
  by_cases hji : j = i
  · subst hji
    exact ⟨_,World.cell?_setCell_same w2 _ _ h3',by simpa using h4',fun _ => rfl⟩
  · exact ⟨s,(World.cell?_setCell_other w2 _ _ _ (by first | (simp;done) | (simp;omega))).trans h3',by simpa using h4',fun hlt => h5 (by omega)⟩
end Go.Proofs.Ytidjpalnmnehmaa

namespace Go.Proofs.Ytidjpalnmnehmaa
open Go.ChangeShapes Go.WideShapes Go.ChangeAt Go.RowKit Go.Lib
set_option linter.unusedVariables false
set_option linter.unusedSimpArgs false
abbrev ix (g : Nat) : Value:=.int .i64 (g : Int)
def MarkedI (w : World) (b o k n i : Nat) : Prop:=b < w.heap.size ∧ ∀ j,j < n → ∃ s : Int,w.cell? ⟨b,o + j,none⟩ = some (.int .i64 s) ∧ w.frozen? ⟨b,o + j,none⟩ = false ∧ (j < i → s = ((k + j : Nat) : Int))
theorem MarkedI.step {w : World} {b o k n i : Nat} (h : MarkedI w b o k n i) (hi : i < n) : MarkedI (w.setCell ⟨b,o + i,none⟩ (.int .i64 ((k : Int) + i))) b o k n (i + 1):=by
  obtain ⟨h1,h2⟩:=h
  refine ⟨Nat.lt_of_lt_of_le h1 (by simp),fun j hj => ?_⟩
  obtain ⟨s,h3,h4,h5⟩:=h2 j hj
  by_cases hji : j = i
  · subst hji
    exact ⟨_,World.cell?_setCell_same w _ _ h3,by simpa using h4,fun _ => by simp⟩
  · exact ⟨s,(World.cell?_setCell_other w _ _ _ (by first | (simp;done) | (simp;omega))).trans h3,by simpa using h4,fun hlt => h5 (by omega)⟩
end Go.Proofs.Ytidjpalnmnehmaa

namespace Go.Proofs.Ytidjpalnmnehmaa
open Go.ChangeShapes Go.WideShapes Go.ChangeAt Go.RowKit Go.Lib
set_option linter.unusedVariables false
def RowK (w : World) (b : Nat) (v : Value) (k : Nat) (es : List (List Value)) : Prop :=
  ∃ a cap,v = .slice a es.length cap ∧ es.length ≤ cap ∧ cap ≤ maxLen ∧ (es = [] ∨ ∃ o,a = some ⟨b,o,none⟩ ∧ b < w.heap.size ∧ ∀ i (h : i < es.length) j u,j < k → es[i][j]? = some u → w.cell? ⟨b,o + i * k + j,none⟩ = some u)
theorem RowK.keep {w w' : World} {b k : Nat} {v : Value} {es : List (List Value)} (h : RowK w b v k es) (hs : w.heap.size ≤ w'.heap.size) (hk : b < w.heap.size → w'.heap[b]? = w.heap[b]?) : RowK w' b v k es:=by
  obtain ⟨a,cap,h1,h2,h3,h4⟩:=h
  refine ⟨a,cap,h1,h2,h3, ?_⟩
  rcases h4 with h4 | ⟨o,h5,h6,h7⟩
  · exact .inl h4
  · exact .inr ⟨o,h5,Nat.lt_of_lt_of_le h6 hs,fun i hi j u hj hu => (World.cell?_of_block (w:=w) (a:=⟨b,o + i * k + j,none⟩) (hk h6)).trans (h7 i hi j u hj hu)⟩
theorem RowK.below {w w' : World} {b k : Nat} {v : Value} {es : List (List Value)} (h : RowK w b v k es) (hb : Below w.heap.size w w') : RowK w' b v k es:=h.keep hb.size fun hx => hb.block b hx
theorem RowK.drewN {w : World} {b k : Nat} {v : Value} {es : List (List Value)} (h : RowK w b v k es) (n : Nat) : RowK (w.drewN n) b v k es:=h.keep (Nat.le_refl _) fun _ => rfl
theorem flat_get (k : Nat) : ∀ (es : List (List Value)),(∀ e ∈ es,e.length = k) → ∀ i (hi : i < es.length) j,j < k → es.flatten[i * k + j]? = es[i][j]?:=by
  intro es
  induction es with
  | nil => intro _ i hi;simp at hi
  | cons e es ih =>
    intro hk i hi j hj
    have he : e.length = k:=hk e (List.mem_cons_self ..)
    rw [List.flatten_cons]
    cases i with
    | zero =>
      rw [Nat.zero_mul,Nat.zero_add,List.getElem?_append_left (by omega)]
      rfl
    | succ i =>
      have e1 : (i + 1) * k + j = e.length + (i * k + j):=by rw [Nat.succ_mul,he];omega
      rw [e1,List.getElem?_append_right (by omega),Nat.add_sub_cancel_left]
      rw [ih (fun e' h' => hk e' (List.mem_cons_of_mem _ h')) i (by simpa using hi) j hj]
      rfl
theorem RowK.of_owns {w : World} {base k : Nat} {e : TypeId} {v : Value} {es : List (List Value)} (h : w.ownsRow base e k v es.length es.flatten) (hk : ∀ e ∈ es,e.length = k) : ∃ b,base ≤ b ∧ RowK w b v k es:=by
  obtain ⟨h1,h2 | ⟨g,cap,cur,h3,h4,h5,h6,h7,h8,h9⟩⟩:=h
  · refine ⟨base,Nat.le_refl _,none,0, ?_,by omega,by unfold maxLen;omega, .inl (List.eq_nil_of_length_eq_zero h2.2)⟩
    rw [h2.1,h2.2]
  · refine ⟨g,h4,_,cap,h3,h6,h7, .inr ⟨0,rfl,(Array.getElem?_eq_some_iff.1 h5).1,fun i hi j u hj hu => ?_⟩⟩
    have hlt : i * k + j < es.length * k:=by
      have : (i + 1) * k ≤ es.length * k:=Nat.mul_le_mul_right k hi
      rw [Nat.succ_mul] at this;omega
    have hx : (cur.toList.take (es.length * k))[i * k + j]? = es.flatten[i * k + j]?:=by rw [h9]
    rw [List.getElem?_take,if_pos hlt,flat_get k es hk i hi j hj,hu] at hx
    have hx2 : cur[i * k + j]? = some u:=by simpa using hx
    simp [World.cell?,h5,hx2]
def fdC (sort : UInt8) (f : Wf.Fd) : List Value :=
  if sort = 69 then [.int .i64 f.tag,tx f.name,tx [],tx [],tx [],tx []] else [.int .i64 f.tag,tx f.name,tx f.kind.signs,tx f.kind.base,tx f.kind.name,tx f.given]
theorem fdC_len (sort : UInt8) (f : Wf.Fd) : (fdC sort f).length = 6:=by unfold fdC;split <;> rfl
def TyAt (w : World) (b : Nat) (t : Wf.Ty) : Prop:=∃ fb v line,b < w.heap.size ∧ w.cell? ⟨b,0,none⟩ = some (.int .u8 t.sort.toNat) ∧ w.cell? ⟨b,1,none⟩ = some (tx t.name) ∧ w.cell? ⟨b,2,none⟩ = some v ∧ w.cell? ⟨b,3,none⟩ = some (.string line) ∧ RowK w fb v 6 (t.fields.map (fdC t.sort))
theorem TyAt.below {w w' : World} {b : Nat} {t : Wf.Ty} (h : TyAt w b t) (hb : Below w.heap.size w w') : TyAt w' b t:=by
  obtain ⟨fb,v,line,h0,h1,h2,h3,h4,h5⟩:=h
  refine ⟨fb,v,line,Nat.lt_of_lt_of_le h0 hb.size, ?_, ?_, ?_, ?_,h5.below hb⟩
  · exact (hb.cell (p:=⟨b,0,none⟩) h0).trans h1
  · exact (hb.cell (p:=⟨b,1,none⟩) h0).trans h2
  · exact (hb.cell (p:=⟨b,2,none⟩) h0).trans h3
  · exact (hb.cell (p:=⟨b,3,none⟩) h0).trans h4
abbrev ptr (b : Nat) : Value:=.pointer (some ⟨b,0,none⟩)
def ptrR : Value → Option (DataW Unit × List MemPlace)
  | .pointer (some ⟨b,0,none⟩) => some (.lit (.int .i64 b),[])
  | .pointer none => some (.nil,[])
  | _ => none
theorem ptrR_inv {v : Value} {d : DataW Unit} {ps : List MemPlace} (h : ptrR v = some (d,ps)) : (∃ b : Nat,v = ptr b ∧ d = .lit (.int .i64 b)) ∨ (v = .pointer none ∧ d = .nil):=by
  unfold ptrR at h
  split at h
  · rename_i b;cases h;exact .inl ⟨b,rfl,rfl⟩
  · cases h;exact .inr ⟨rfl,rfl⟩
  · cases h
def MapIs (w : World) (mb : Nat) (n : Nat) (f : List UInt8 → Option Nat) : Prop:=∃ D,w.ownsMap Try.prog 9 ptrR mb n D ∧
  ∀ nm,D.atKey (.string nm) .nil = match f nm with | some b => .lit (.int .i64 b) | none => .nil

def tagsOf (what : UInt8) (tag : Nat) (kids : List Wf.V) : List Nat:=if what = 82 then kids.map Wf.V.tag else if what = 85 ∨ what = 69 then [tag] else []
def shapeR (what : UInt8) (text : List UInt8) (kd t : List UInt8) : Prop :=
  if what = 110 then kd.head? = some 110 ∧ t = text
  else if what = 116 then kd.head? = some 116 ∧ t = 39 :: (text ++ [39])
  else if what = 102 then kd.head? = some 102 ∧ t = text
  else if what = 91 then kd.head? = some 91 ∧ t = []
  else if what = 63 then kd.head? = some 63 ∧ t = []
  else if what = 82 then kd.head? = some 64 ∧ t = [82]
  else if what = 85 then kd.head? = some 64 ∧ t = [85]
  else if what = 69 then kd.head? = some 64 ∧ t = [69]
  else False
theorem RowAt.lts {w : World} {b : Nat} {v : Value} {xs : List Value} (h : RowAt w b v xs) : xs = [] ∨ b < w.heap.size:=by
  obtain ⟨a,cap,h1,h2,h3,h4 | ⟨o,h5,h6,h7⟩⟩:=h
  · exact .inl h4
  · exact .inr h6
mutual
def LV (W : World) (P : Nat → Prop) : Wf.V → Nat → Prop
  | .mk what text tag kids,b => (what = 61 ∧ LVs W P kids [b]) ∨ (what ≠ 61 ∧ P b ∧ b < W.heap.size ∧ ∃ (kd t : List UInt8) (tv kv : Value) (tb kb : Nat) (bs : List Nat),
      W.cell? ⟨b,0,none⟩ = some (tx kd) ∧ W.cell? ⟨b,1,none⟩ = some (tx t) ∧ W.cell? ⟨b,2,none⟩ = some tv ∧ W.cell? ⟨b,3,none⟩ = some kv ∧
      RowAt W tb tv ((tagsOf what tag kids).map ix) ∧ (tagsOf what tag kids = [] ∨ P tb) ∧ RowAt W kb kv (bs.map ptr) ∧ (bs = [] ∨ P kb) ∧ shapeR what text kd t ∧ LVs W P kids bs)
def LVs (W : World) (P : Nat → Prop) : List Wf.V → List Nat → Prop
  | [],bs => bs = []
  | v :: l,bs => ∃ b bs',bs = b :: bs' ∧ LV W P v b ∧ LVs W P l bs'
end
section
variable {W W' : World} {P Q : Nat → Prop}
mutual
theorem LV.keep (hk : ∀ b,P b → b < W.heap.size → Q b ∧ W'.heap[b]? = W.heap[b]?) (hs : W.heap.size ≤ W'.heap.size) : ∀ (v : Wf.V) (b : Nat),LV W P v b → LV W' Q v b
  | .mk what text tag kids,b,h => by
    simp only [LV] at h ⊢
    rcases h with ⟨h1,h2⟩ | ⟨h1,h2,h3,kd,t,tv,kv,tb,kb,bs,c0,c1,c2,c3,r1,r2,r3,r4,h4,h5⟩
    · exact .inl ⟨h1,LVs.keep hk hs kids [b] h2⟩
    · right
      have cc:=fun o => World.cell?_of_block (w:=W) (w':=W') (a:=⟨b,o,none⟩) (hk b h2 h3).2
      refine ⟨h1,(hk b h2 h3).1,Nat.lt_of_lt_of_le h3 hs,kd,t,tv,kv,tb,kb,bs,(cc 0).trans c0,(cc 1).trans c1,(cc 2).trans c2,(cc 3).trans c3, ?_, ?_, ?_, ?_,h4,LVs.keep hk hs kids bs h5⟩
      · rcases r2 with r2 | r2
        · rw [r2] at r1 ⊢
          obtain ⟨a,c,e1,e2,e3,_⟩:=r1
          exact ⟨a,c,e1,e2,e3, .inl rfl⟩
        · exact r1.keep hs fun hx => (hk tb r2 hx).2
      · rcases r2 with r2 | r2
        · exact .inl r2
        · rcases r1.lts with h0 | h0
          · exact .inl (List.map_eq_nil_iff.1 h0)
          · exact .inr (hk tb r2 h0).1
      · rcases r4 with r4 | r4
        · rw [r4] at r3 ⊢
          obtain ⟨a,c,e1,e2,e3,_⟩:=r3
          exact ⟨a,c,e1,e2,e3, .inl rfl⟩
        · exact r3.keep hs fun hx => (hk kb r4 hx).2
      · rcases r4 with r4 | r4
        · exact .inl r4
        · rcases r3.lts with h0 | h0
          · exact .inl (List.map_eq_nil_iff.1 h0)
          · exact .inr (hk kb r4 h0).1
theorem LVs.keep (hk : ∀ b,P b → b < W.heap.size → Q b ∧ W'.heap[b]? = W.heap[b]?) (hs : W.heap.size ≤ W'.heap.size) : ∀ (l : List Wf.V) (bs : List Nat),LVs W P l bs → LVs W' Q l bs
  | [],_,h => by simp only [LVs] at h ⊢;exact h
  | v :: l,bs,h => by
    simp only [LVs] at h ⊢
    obtain ⟨b,bs',h1,h2,h3⟩:=h
    exact ⟨b,bs',h1,LV.keep hk hs v b h2,LVs.keep hk hs l bs' h3⟩
end
theorem LV.mono {v : Wf.V} {b : Nat} (h : LV W P v b) (hk : ∀ b,P b → b < W.heap.size → Q b) : LV W Q v b:=LV.keep (fun b h1 h2 => ⟨hk b h1 h2,rfl⟩) (Nat.le_refl _) v b h
theorem LV.below {v : Wf.V} {b : Nat} (h : LV W P v b) (hb : Below W.heap.size W W') : LV W' P v b:=LV.keep (fun b h1 h2 => ⟨h1,hb.block b h2⟩) hb.size v b h
theorem LVs.len : ∀ {l : List Wf.V} {bs : List Nat},LVs W P l bs → bs.length = l.length:=by
  intro l
  induction l with
  | nil => intro bs h;simp only [LVs] at h;rw [h];rfl
  | cons v l ih =>
    intro bs h
    simp only [LVs] at h
    obtain ⟨b,bs',rfl,_,h⟩:=h
    simp [ih h]
theorem LVs.get : ∀ {l : List Wf.V} {bs : List Nat},LVs W P l bs → ∀ i (h1 : i < l.length) (h2 : i < bs.length),LV W P l[i] bs[i]:=by
  intro l
  induction l with
  | nil => intro bs _ i h1;simp at h1
  | cons v l ih =>
    intro bs h i h1 h2
    simp only [LVs] at h
    obtain ⟨b,bs',rfl,h3,h4⟩:=h
    cases i with
    | zero => exact h3
    | succ i => exact ih h4 i (by simpa using h1) (by simpa using h2)
theorem LVs.of : ∀ {l : List Wf.V} {bs : List Nat},bs.length = l.length → (∀ i (h1 : i < l.length) (h2 : i < bs.length),LV W P l[i] bs[i]) → LVs W P l bs:=by
  intro l
  induction l with
  | nil => intro bs hl _;simp only [LVs];exact List.eq_nil_of_length_eq_zero (by simpa using hl)
  | cons v l ih =>
    intro bs hl h
    cases bs with
    | nil => simp at hl
    | cons b bs =>
      simp only [LVs]
      exact ⟨b,bs,rfl,h 0 (by simp) (by simp),ih (by simpa using hl) fun i h1 h2 => h (i + 1) (by simpa using h1) (by simpa using h2)⟩
theorem LV.form {v : Wf.V} {b : Nat} (h : LV W P v b) (hw : v.what ≠ 61) : P b ∧ b < W.heap.size ∧ ∃ (kd t : List UInt8) (tv kv : Value) (tb kb : Nat) (bs : List Nat),
      W.cell? ⟨b,0,none⟩ = some (tx kd) ∧ W.cell? ⟨b,1,none⟩ = some (tx t) ∧ W.cell? ⟨b,2,none⟩ = some tv ∧ W.cell? ⟨b,3,none⟩ = some kv ∧
      RowAt W tb tv ((tagsOf v.what v.tag v.kids).map ix) ∧ RowAt W kb kv (bs.map ptr) ∧ shapeR v.what v.text kd t ∧ LVs W P v.kids bs:=by
  cases v with
  | mk what text tag kids =>
    simp only [LV] at h
    rcases h with ⟨h1,_⟩ | ⟨h1,h2,h3,kd,t,tv,kv,tb,kb,bs,c0,c1,c2,c3,r1,r2,r3,r4,h4,h5⟩
    · exact absurd h1 hw
    · exact ⟨h2,h3,kd,t,tv,kv,tb,kb,bs,c0,c1,c2,c3,r1,r3,h4,h5⟩
theorem LV.field {text : List UInt8} {tag : Nat} {u : Wf.V} {b : Nat} : LV W P (.mk 61 text tag [u]) b ↔ LV W P u b:=by
  simp only [LV,LVs]
  constructor
  · rintro (⟨_,b',bs',h1,h2,h3⟩ | ⟨h,_⟩)
    · simp only [List.cons.injEq] at h1
      rw [h1.1];exact h2
    · exact absurd rfl h
  · intro h
    exact .inl ⟨trivial,b,[],rfl,h,rfl⟩
theorem LV.mk {what : UInt8} {text kd t : List UInt8} {tag b tb kb : Nat} {tv kv : Value} {kids : List Wf.V} {bs : List Nat} (hw : what ≠ 61) (hp : P b) (hb : b < W.heap.size)
    (c0 : W.cell? ⟨b,0,none⟩ = some (tx kd)) (c1 : W.cell? ⟨b,1,none⟩ = some (tx t)) (c2 : W.cell? ⟨b,2,none⟩ = some tv) (c3 : W.cell? ⟨b,3,none⟩ = some kv)
    (r1 : RowAt W tb tv ((tagsOf what tag kids).map ix)) (r2 : tagsOf what tag kids = [] ∨ P tb) (r3 : RowAt W kb kv (bs.map ptr)) (r4 : bs = [] ∨ P kb) (hs : shapeR what text kd t) (hk : LVs W P kids bs) : LV W P (.mk what text tag kids) b:=by
  simp only [LV]
  exact .inr ⟨hw,hp,hb,kd,t,tv,kv,tb,kb,bs,c0,c1,c2,c3,r1,r2,r3,r4,hs,hk⟩
end

theorem tx_app (a b : List UInt8) : (⟨a.toArray⟩ : ByteArray) ++ ⟨b.toArray⟩ = ⟨(a ++ b).toArray⟩:=by rw [eq_list];simp
theorem ret_str {a b : ByteArray} (h : a = b) : Ending.returned (.string a) = .returned (.string b):=by rw [h]
set_option maxRecDepth 20000 in
set_option maxHeartbeats 1000000 in
theorem l6Dec (m : Nat) : ∀ (n : Nat) (w : World),n ≤ m → n ≤ 1000000000 → Calls Try.prog 41 #[.int .i64 n] w fun e w' => e = .returned (tx (Wf.dec n)) ∧ Below w.heap.size w w':=by
  have kc:=run_convert_lit (P:=Try.prog) 22 9 5 Try.underlying22 Try.underlying5 Try.underlying9
  induction m with
  | zero =>
    intro n w hm hn
    have : n = 0:=by omega
    subst this
    go_enter Try.func41,Try.ntmps41
    go_wp2_with fail
    go_ret
    exact ⟨by rw [Wf.dec_lt (by omega)];rfl,(Below.refl _ _).alloc (Nat.le_refl _) _⟩
  | succ m ih =>
    intro n w hm hn
    by_cases h : n < 10
    · have HD:=hid (Wf.dec_lt h)
      go_enter Try.func41,Try.ntmps41
      go_wp2_with fail
      go_ret
      exact ⟨by rw [HD.out];simp [UInt8.ofNat_add],(Below.refl _ _).alloc (Nat.le_refl _) _⟩
    · obtain ⟨q,hq⟩ : ∃ q,n / 10 = q:=⟨_,rfl⟩
      obtain ⟨r,hr⟩ : ∃ r,n % 10 = r:=⟨_,rfl⟩
      have hr9 : r < 10:=by omega
      have HD:=Wf.dec_ge (n:=n) (by omega)
      have H1:=hid fun w => ih q w (by omega) (by omega)
      rw [hq,hr] at HD
      obtain ⟨a,ha⟩ : ∃ a,Wf.dec q = a:=⟨_,rfl⟩
      have la : (⟨a.toArray⟩ : ByteArray).size ≤ 10:=by rw [← ha];exact Wf.dec_len q 9 (by have : (10:Nat)^10 = 10000000000:=rfl;omega)
      rw [ha] at H1 HD
      obtain ⟨A,hA⟩ : ∃ A : ByteArray,(⟨a.toArray⟩ : ByteArray) = A:=⟨_,rfl⟩
      have HA : A ++ (⟨#[48 + UInt8.ofNat r]⟩ : ByteArray) = ⟨(Wf.dec n).toArray⟩:=by
        rw [HD,← hA,← tx_app,UInt8.ofNat_add];rfl
      rw [tx,hA] at H1
      rw [hA] at la
      have kc1:=fun W a c h => run_convert_one (P:=Try.prog) 22 9 5 Try.underlying22 Try.underlying5 Try.underlying9 W a c (48 + (r : Int)) h
      have e1 : IntKind.i64.wrap ((n : Int) / 10) = (q : Int):=by rw [IntWalk.i64_in _ (by omega)];omega
      have e2 : (n : Int).tmod 10 = (r : Int):=by rw [Int.tmod_eq_emod_of_nonneg (by omega)];omega
      have e3 : IntKind.i64.wrap (48 + (r : Int)) = 48 + (r : Int):=IntWalk.i64_in _ (by omega)
      have e4 : IntKind.u8.wrap (48 + (r : Int)) = 48 + (r : Int):=by simp [IntKind.wrap,IntKind.bits,IntKind.signed];omega
      have HAA:=hid HA
      clear ih ha hA hq hr HD HA
      go_enter Try.func41,Try.ntmps41
      go_wp2_with fail
      go_region_with (go_at_call 41;refine (H1.out _).mono ?_;rintro e w1 ⟨rfl,hb1⟩;obtain ⟨hc1,hc2⟩:=bcell hb1;have hz : w.heap.size < w1.heap.size + 1:=(by have:=hb1.size;simp at this;omega);have B1 : Below w.heap.size w w1:=(by first | exact below_join ((Below.refl _ _).drew) hb1 | exact below_join (((Below.refl _ _).alloc (Nat.le_refl _) _).drew) hb1))
      all_goals go_wp2
      all_goals go_ret
      all_goals exact ⟨ret_str HAA.out,by first | exact B1 | exact B1.alloc B1.size _⟩
end Go.Proofs.Ytidjpalnmnehmaa

namespace Go.Proofs.Ytidjpalnmnehmaa
open Go.ChangeShapes Go.WideShapes Go.ChangeAt Go.RowKit Go.Lib
set_option linter.unusedVariables false
set_option linter.unusedSimpArgs false
theorem count_parts (ps : List (List UInt8)) : ps.length ≤ (Wf.commas ps).length + 1:=by
  cases ps with
  | nil => simp
  | cons a l => have:=Wf.commas_length (a :: l) (by simp);omega
theorem kd_first {kd : List UInt8} {c : UInt8} (h : kd.head? = some c) : 0 < (⟨kd.toArray⟩ : ByteArray).size ∧ ∀ h,((⟨kd.toArray⟩ : ByteArray)[0]'h).toNat = c.toNat:=by
  cases kd with
  | nil => simp at h
  | cons a r =>
    simp at h
    subst h
    exact ⟨by simp [ByteArray.size],fun _ => rfl⟩
theorem RowAt.get {w : World} {b : Nat} {a : Option Addr} {n c : Nat} {xs : List Value} (h : RowAt w b (.slice a n c) xs) {i : Nat} (hi : i < xs.length) : ∃ o,a = Option.some ⟨b,o,none⟩ ∧ b < w.heap.size ∧ n ≤ c ∧ c ≤ maxLen ∧ w.cell? ⟨b,o + i,none⟩ = Option.some xs[i]:=by
  obtain ⟨a',c',h1,h2,h3,h4⟩:=h
  simp only [Value.slice.injEq] at h1
  obtain ⟨rfl,rfl,rfl⟩:=h1
  rcases h4 with h4 | ⟨o,g1,g2,g3⟩
  · rw [h4] at hi;simp at hi
  · exact ⟨o,g1,g2,h2,h3,(g3 i hi).1⟩
theorem RowAt.form {w : World} {b : Nat} {v : Value} {xs : List Value} (h : RowAt w b v xs) : ∃ a c,v = .slice a xs.length c ∧ xs.length ≤ c ∧ c ≤ maxLen:=by
  obtain ⟨a,c,h1,h2,h3,_⟩:=h
  exact ⟨a,c,h1,h2,h3⟩
set_option maxRecDepth 20000 in
set_option maxHeartbeats 2000000 in
theorem out_leaf (b q : Nat) (KD T : ByteArray) (w : World) (hlt : b < w.heap.size) (hs : 0 < KD.size) (e0 : ∀ h,(KD[0]'h).toNat = q) (hq : q = 110 ∨ q = 116 ∨ q = 102) (c0 : w.cell? ⟨b,0,none⟩ = some (.string KD)) (c1 : w.cell? ⟨b,1,none⟩ = some (.string T)) :
    Calls Try.prog 30 #[ptr b] w fun e w' => e = .returned (.string T) ∧ w = w':=by
  rcases hq with rfl | rfl | rfl
  all_goals
    go_enter Try.func30,Try.ntmps30
    go_wp2_with fail
    go_ret
    exact ⟨rfl,rfl⟩
set_option maxRecDepth 20000 in
set_option maxHeartbeats 2000000 in
theorem out_none (b c : Nat) (KD : ByteArray) (a : Option Addr) (w : World) (hlt : b < w.heap.size) (hs : 0 < KD.size) (e0 : ∀ h,(KD[0]'h).toNat = 63) (c0 : w.cell? ⟨b,0,none⟩ = some (.string KD)) (c3 : w.cell? ⟨b,3,none⟩ = some (.slice a 0 c)) :
    Calls Try.prog 30 #[ptr b] w fun e w' => e = .returned (tx [45]) ∧ w = w':=by
  go_enter Try.func30,Try.ntmps30
  go_wp2_with fail
  go_ret
  exact ⟨rfl,rfl⟩
set_option maxRecDepth 20000 in
set_option maxHeartbeats 2000000 in
theorem out_some (b kb o u c : Nat) (KD T : ByteArray) (w : World) (hlt : b < w.heap.size) (hs : 0 < KD.size) (e0 : ∀ h,(KD[0]'h).toNat = 63) (c0 : w.cell? ⟨b,0,none⟩ = some (.string KD)) (c3 : w.cell? ⟨b,3,none⟩ = some (.slice (some ⟨kb,o,none⟩) 1 c)) (hkb : kb < w.heap.size) (ck : w.cell? ⟨kb,o,none⟩ = some (ptr u)) (h1 : 1 ≤ c) (hc : c ≤ maxLen) (hT : T.size ≤ 2000000)
    (hk : ∀ wz,Below w.heap.size w wz → Calls Try.prog 30 #[ptr u] wz fun e w' => e = .returned (.string T) ∧ Below wz.heap.size wz w') :
    Calls Try.prog 30 #[ptr b] w fun e w' => e = .returned (tx (43 :: T.data.toList)) ∧ Below w.heap.size w w':=by
  have HK:=hid hk
  have HO:=hid (show (⟨#[43]⟩ : ByteArray) ++ T = ⟨(43 :: T.data.toList).toArray⟩ by rw [eq_list];simp)
  unfold maxLen at hc
  clear hk
  go_enter Try.func30,Try.ntmps30
  go_wp2_with (go_at_call 30;refine (HK.out _ (Below.refl _ _)).mono ?_;rintro e w2 ⟨rfl,hb2⟩;have HB2:=hid hb2;clear hb2)
  go_ret
  exact ⟨ret_str HO.out,HB2.out⟩
set_option maxRecDepth 20000 in
set_option maxHeartbeats 2000000 in
theorem out_list (b kb : Nat) (KD : ByteArray) (kv : Value) (bs : List Nat) (ps : List (List UInt8)) (w : World) (hlt : b < w.heap.size) (hs : 0 < KD.size) (e0 : ∀ h,(KD[0]'h).toNat = 91) (c0 : w.cell? ⟨b,0,none⟩ = some (.string KD)) (c3 : w.cell? ⟨b,3,none⟩ = some kv) (hrow : RowAt w kb kv (bs.map ptr)) (hl : bs.length = ps.length) (hsz : (Wf.commas ps).length ≤ 2000000)
    (hk : ∀ i (h1 : i < bs.length) (h2 : i < ps.length) wz,Below w.heap.size w wz → Calls Try.prog 30 #[ptr bs[i]] wz fun e w' => e = .returned (tx ps[i]) ∧ Below wz.heap.size wz w') :
    Calls Try.prog 30 #[ptr b] w fun e w' => e = .returned (tx (91 :: (Wf.commas ps ++ [93]))) ∧ Below w.heap.size w w':=by
  obtain ⟨a,c,rfl,hnc,hcm⟩:=hrow.form
  obtain ⟨m,hm⟩ : ∃ m,(bs.map ptr).length = m:=⟨_,rfl⟩
  have hbm : bs.length = m:=by rw [← hm,List.length_map]
  have hpm : ps.length = m:=by omega
  have hm6 : m ≤ 2000001:=by have:=count_parts ps;omega
  have HBM:=hid hbm
  have HPM:=hid hpm
  have HMM:=hid hm
  rw [hm] at c3 hrow hnc
  have HROW:=hid hrow
  have HK:=hid hk
  have HSZ:=hid hsz
  unfold maxLen at hcm
  clear hrow hk hl hsz hm hbm hpm
  go_enter Try.func30,Try.ntmps30
  go_wp2_with fail
  go_loopw [3,4] (fun s3 s4 wr => ∃ (i : Nat) (S : ByteArray),s3 = .string S ∧ s4 = .int .i64 i ∧ i ≤ m ∧ S.size ≤ 2000001 ∧ Hid (S.data.toList = 91 :: Wf.commas (ps.take i) ∧ Below w.heap.size w wr)) (fun _ s4 _ => m - (RowKit.intOf s4).toNat)
  case atStart => exact ⟨0,⟨#[91]⟩,rfl,rfl,Nat.zero_le _,by decide,hid ⟨rfl,Below.refl _ _⟩⟩
  case round =>
    obtain ⟨i,S,rfl,rfl,hi,hS,hh⟩:=hrel
    have hbw : b < wr.heap.size:=Nat.lt_of_lt_of_le hlt hh.out.2.size
    have y3:=(hh.out.2.cell (p:=⟨b,3,none⟩) hlt).trans c3
    by_cases hlt2 : i < m
    · have hib : i < bs.length:=by rw [HBM.out];exact hlt2
      have hip : i < ps.length:=by rw [HPM.out];exact hlt2
      obtain ⟨o,rfl,hkb,_,_,ck⟩:=HROW.out.get (i:=i) (by rw [HMM.out];exact hlt2)
      rw [List.getElem_map] at ck
      obtain ⟨u,hu⟩ : ∃ u,bs[i] = u:=⟨_,rfl⟩
      obtain ⟨T,hT⟩ : ∃ T : ByteArray,(⟨(ps[i]).toArray⟩ : ByteArray) = T:=⟨_,rfl⟩
      rw [hu] at ck
      have hkw : kb < wr.heap.size:=Nat.lt_of_lt_of_le hkb hh.out.2.size
      have yk:=(hh.out.2.cell (p:=⟨kb,o + i,none⟩) hkb).trans ck
      have HC:=hid (show Calls Try.prog 30 #[ptr u] wr fun e w' => e = .returned (.string T) ∧ Below wr.heap.size wr w' by
        have:=HK.out i hib hip wr hh.out.2
        rw [hu] at this
        simp only [tx,hT] at this
        exact this)
      have HSTEP:=hid (Wf.commas_step hip)
      have hTs : T.size ≤ 2000000:=by
        have h1:=Wf.commas_mem (List.getElem_mem hip)
        rw [← hT,← size_list]
        show (ps[i]).length ≤ _
        exact Nat.le_trans h1 HSZ.out
      have HTL:=hid (show T.data.toList = ps[i] by rw [← hT])
      have HTK:=hid (show (Wf.commas (ps.take (i + 1))).length ≤ 2000000 from Nat.le_trans (Wf.commas_take _) HSZ.out)
      have fin : ∀ S' : ByteArray,S'.data.toList = 91 :: Wf.commas (ps.take (i + 1)) → S'.size ≤ 2000001:=fun S' h => by
        have:=HTK.out
        rw [← size_list,h]
        simp only [List.length_cons]
        omega
      have FIN:=hid fin
      clear hu hT ck fin
      by_cases hi0 : i = 0
      · subst hi0
        rw [Nat.add_zero] at yk
        have HE:=hid (show (S ++ T).data.toList = 91 :: Wf.commas (ps.take (0 + 1)) by
          rw [HSTEP.out,if_pos rfl,ByteArray.data_append,Array.toList_append,hh.out.1,HTL.out];rfl)
        go_wp2_with (go_at_call 30;refine HC.out.mono ?_;rintro e w2 ⟨rfl,hb2⟩;have HB2:=hid hb2;clear hb2)
        go_roundw
        case rel => exact ⟨0 + 1,S ++ T,by rfl,by go_num,by omega,FIN.out _ HE.out,hid ⟨HE.out,hh.out.2.trans (HB2.out.mono hh.out.2.size)⟩⟩
        case measure => simp [RowKit.intOf];omega
      · have hip0 : 0 < i:=by omega
        have HE:=hid (show (S ++ ⟨#[44]⟩ ++ T).data.toList = 91 :: Wf.commas (ps.take (i + 1)) by
          rw [HSTEP.out,if_neg hi0,ByteArray.data_append,ByteArray.data_append,Array.toList_append,Array.toList_append,hh.out.1,HTL.out];simp)
        clear hi0
        go_wp2_with (go_at_call 30;refine HC.out.mono ?_;rintro e w2 ⟨rfl,hb2⟩;have HB2:=hid hb2;clear hb2)
        go_roundw
        case rel => exact ⟨i + 1,S ++ ⟨#[44]⟩ ++ T,by rfl,by go_num,by omega,FIN.out _ HE.out,hid ⟨HE.out,hh.out.2.trans (HB2.out.mono hh.out.2.size)⟩⟩
        case measure => simp [RowKit.intOf];omega
    · have him : i = m:=by omega
      subst him
      have HE:=hid (show S ++ (⟨#[93]⟩ : ByteArray) = ⟨(91 :: (Wf.commas ps ++ [93])).toArray⟩ by
        rw [eq_list,ByteArray.data_append,Array.toList_append,hh.out.1,List.take_of_length_le (by rw [HPM.out];exact Nat.le_refl _)];simp)
      go_wp2_with fail
      go_ret
      exact ⟨ret_str HE.out,hh.out.2⟩

set_option maxRecDepth 20000 in
set_option maxHeartbeats 2000000 in
theorem named_enm (b tb o g c n : Nat) (w : World) (hlt : b < w.heap.size) (c1 : w.cell? ⟨b,1,none⟩ = some (.string ⟨#[69]⟩)) (c2 : w.cell? ⟨b,2,none⟩ = some (.slice (some ⟨tb,o,none⟩) n c)) (h0 : 0 < n) (hn : n ≤ c) (hc : c ≤ maxLen) (htb : tb < w.heap.size) (ct : w.cell? ⟨tb,o,none⟩ = some (.int .i64 g)) (hg : g ≤ 999999) :
    Calls Try.prog 44 #[ptr b] w fun e w' => e = .returned (tx (35 :: Wf.dec g)) ∧ Below w.heap.size w w':=by
  have HD:=hid fun wz => l6Dec g g wz (Nat.le_refl _) (by omega)
  obtain ⟨D,hD⟩ : ∃ D : ByteArray,(⟨(Wf.dec g).toArray⟩ : ByteArray) = D:=⟨_,rfl⟩
  simp only [tx,hD] at HD
  have hds : D.size ≤ 6:=by rw [← hD,← size_list];exact Wf.dec_len6 hg
  have HO:=hid (show (⟨#[35]⟩ : ByteArray) ++ D = ⟨(35 :: Wf.dec g).toArray⟩ by rw [eq_list,← hD];simp)
  unfold maxLen at hc
  clear hD
  go_enter Try.func44,Try.ntmps44
  go_wp2_with (go_at_call 41;refine (HD.out _).mono ?_;rintro e w2 ⟨rfl,hb2⟩;have HB2:=hid hb2;clear hb2)
  go_ret
  exact ⟨ret_str HO.out,HB2.out⟩
set_option maxRecDepth 20000 in
set_option maxHeartbeats 2000000 in
theorem named_uni (b tb kb o p u g c n k d : Nat) (T : ByteArray) (w : World) (hlt : b < w.heap.size) (c1 : w.cell? ⟨b,1,none⟩ = some (.string ⟨#[85]⟩)) (c2 : w.cell? ⟨b,2,none⟩ = some (.slice (some ⟨tb,o,none⟩) n c)) (h0 : 0 < n) (hn : n ≤ c) (hc : c ≤ maxLen) (htb : tb < w.heap.size) (ct : w.cell? ⟨tb,o,none⟩ = some (.int .i64 g)) (hg : g ≤ 999999)
    (c3 : w.cell? ⟨b,3,none⟩ = some (.slice (some ⟨kb,p,none⟩) k d)) (h1 : 0 < k) (hk : k ≤ d) (hd : d ≤ maxLen) (hkb : kb < w.heap.size) (ck : w.cell? ⟨kb,p,none⟩ = some (ptr u)) (hT : T.size ≤ 2000000)
    (hrec : ∀ wz,Below w.heap.size w wz → Calls Try.prog 30 #[ptr u] wz fun e w' => e = .returned (.string T) ∧ Below wz.heap.size wz w') :
    Calls Try.prog 44 #[ptr b] w fun e w' => e = .returned (tx (60 :: (Wf.dec g ++ 61 :: (T.data.toList ++ [62])))) ∧ Below w.heap.size w w':=by
  have HD:=hid fun wz => l6Dec g g wz (Nat.le_refl _) (by omega)
  obtain ⟨D,hD⟩ : ∃ D : ByteArray,(⟨(Wf.dec g).toArray⟩ : ByteArray) = D:=⟨_,rfl⟩
  simp only [tx,hD] at HD
  have hds : D.size ≤ 6:=by rw [← hD,← size_list];exact Wf.dec_len6 hg
  have HO:=hid (show (⟨#[60]⟩ : ByteArray) ++ D ++ ⟨#[61]⟩ ++ T ++ ⟨#[62]⟩ = ⟨(60 :: (Wf.dec g ++ 61 :: (T.data.toList ++ [62]))).toArray⟩ by rw [eq_list,← hD];simp)
  have HREC:=hid hrec
  have a1:=fun wz => run_string_add_sum (P:=Try.prog) (w:=wz) ⟨#[60]⟩ D (by show 1 + D.size ≤ _;omega)
  have a2:=fun wz => run_string_add_sum (P:=Try.prog) (w:=wz) (⟨#[60]⟩ ++ D) ⟨#[61]⟩ (by rw [ByteArray.size_append];show 1 + D.size + 1 ≤ _;omega)
  have a3:=fun wz => run_string_add_sum (P:=Try.prog) (w:=wz) (⟨#[60]⟩ ++ D ++ ⟨#[61]⟩) T (by rw [ByteArray.size_append,ByteArray.size_append];show 1 + D.size + 1 + T.size ≤ _;omega)
  have a4:=fun wz => run_string_add_sum (P:=Try.prog) (w:=wz) (⟨#[60]⟩ ++ D ++ ⟨#[61]⟩ ++ T) ⟨#[62]⟩ (by rw [ByteArray.size_append,ByteArray.size_append,ByteArray.size_append];show 1 + D.size + 1 + T.size + 1 ≤ _;omega)
  have F:=hid fun (wz : World) (hz : Below w.heap.size w wz) => (show wz.cell? ⟨b,2,none⟩ = some (.slice (some ⟨tb,o,none⟩) n c) ∧ wz.cell? ⟨tb,o,none⟩ = some (.int .i64 g) ∧ wz.cell? ⟨b,3,none⟩ = some (.slice (some ⟨kb,p,none⟩) k d) ∧ wz.cell? ⟨kb,p,none⟩ = some (ptr u) from ⟨(hz.cell (p:=⟨b,2,none⟩) hlt).trans c2,(hz.cell (p:=⟨tb,o,none⟩) htb).trans ct,(hz.cell (p:=⟨b,3,none⟩) hlt).trans c3,(hz.cell (p:=⟨kb,p,none⟩) hkb).trans ck⟩)
  unfold maxLen at hc hd
  clear hD hrec
  go_enter Try.func44,Try.ntmps44
  go_wp2_with fail
  go_region_held3 (fun w' => w'.cell? ⟨b,2,none⟩ = some (.slice (some ⟨tb,o,none⟩) n c) ∧ w'.cell? ⟨tb,o,none⟩ = some (.int .i64 g) ∧ w'.cell? ⟨b,3,none⟩ = some (.slice (some ⟨kb,p,none⟩) k d) ∧ w'.cell? ⟨kb,p,none⟩ = some (ptr u)) (first | exact ⟨k1,k2,k3,k4⟩ | exact ⟨d1,d2,d3,d4⟩ | go_keep) (first | (go_at_call 41;refine (HD.out _).mono ?_;rintro e w3 ⟨rfl,hb3⟩;have TD:=Lib.hid (show Below w.heap.size w w3 by first | exact TS.out.trans (hb3.mono TS.out.size) | (refine Below.trans (b:=_) ?_ hb3;repeat (first | with_reducible exact Below.refl _ _ | with_reducible refine Below.drew ?_)));obtain ⟨d1,d2,d3,d4⟩:=F.out _ TD.out;clear hb3) | (go_at_call 30;refine (HREC.out _ (by first | exact TD.out | (repeat (first | with_reducible exact Below.refl _ _ | with_reducible refine Below.drew ?_)))).mono ?_;rintro e w4 ⟨rfl,hb4⟩;have TS:=Lib.hid (show Below w.heap.size w w4 by first | exact TD.out.trans (hb4.mono TD.out.size) | (refine Below.trans (b:=_) ?_ hb4;repeat (first | with_reducible exact Below.refl _ _ | with_reducible refine Below.drew ?_)));obtain ⟨k1,k2,k3,k4⟩:=F.out _ TS.out;clear hb4))
  all_goals go_wp2_with fail
  all_goals go_ret
  all_goals exact ⟨ret_str HO.out,by first | exact TS.out.trans (TD.out.mono TS.out.size) | exact TS.out | exact TD.out⟩
set_option maxRecDepth 20000 in
set_option maxHeartbeats 4000000 in
theorem named_rec (b tb kb : Nat) (tv kv : Value) (gs bs : List Nat) (ps : List (List UInt8)) (w : World) (hlt : b < w.heap.size) (c1 : w.cell? ⟨b,1,none⟩ = some (.string ⟨#[82]⟩)) (c2 : w.cell? ⟨b,2,none⟩ = some tv) (c3 : w.cell? ⟨b,3,none⟩ = some kv) (hrt : RowAt w tb tv (gs.map ix)) (hrow : RowAt w kb kv (bs.map ptr)) (hlg : gs.length = bs.length) (hl : bs.length = ps.length)
    (hg : ∀ g ∈ gs,g ≤ 999999) (hsz : (Wf.commas ((gs.zip ps).map fun y => Wf.dec y.1 ++ 61 :: y.2)).length ≤ 2000000)
    (hk : ∀ i (h1 : i < bs.length) (h2 : i < ps.length) wz,Below w.heap.size w wz → Calls Try.prog 30 #[ptr bs[i]] wz fun e w' => e = .returned (tx ps[i]) ∧ Below wz.heap.size wz w') :
    Calls Try.prog 44 #[ptr b] w fun e w' => e = .returned (tx (123 :: (Wf.commas ((gs.zip ps).map fun y => Wf.dec y.1 ++ 61 :: y.2) ++ [125]))) ∧ Below w.heap.size w w':=by
  obtain ⟨a,c,rfl,hnc,hcm⟩:=hrow.form
  obtain ⟨ta,tc,rfl,htc,htm⟩:=hrt.form
  obtain ⟨m,hm⟩ : ∃ m,(bs.map ptr).length = m:=⟨_,rfl⟩
  have hbm : bs.length = m:=by rw [← hm,List.length_map]
  have hpm : ps.length = m:=by omega
  have hgm : gs.length = m:=by omega
  have hgm2 : (gs.map ix).length = m:=by rw [List.length_map];exact hgm
  obtain ⟨Q,hQ⟩ : ∃ Q,((gs.zip ps).map fun y => Wf.dec y.1 ++ 61 :: y.2) = Q:=⟨_,rfl⟩
  have hqm : Q.length = m:=by rw [← hQ,List.length_map,List.length_zip];omega
  rw [hQ] at hsz ⊢
  have hm6 : m ≤ 2000001:=by have:=count_parts Q;omega
  have HQI:=hid fun (i : Nat) (h1 : i < Q.length) (h2 : i < gs.length) (h3 : i < ps.length) => (show Q[i] = Wf.dec gs[i] ++ 61 :: ps[i] by subst hQ;rw [List.getElem_map,List.getElem_zip])
  have HBM:=hid hbm
  have HPM:=hid hpm
  have HGM:=hid hgm
  have HGM2:=hid hgm2
  have HQM:=hid hqm
  have HMM:=hid hm
  rw [hm] at c3 hrow hnc
  rw [hgm2] at c2 hrt htc
  have HROW:=hid hrow
  have HRT:=hid hrt
  have HK:=hid hk
  have HSZ:=hid hsz
  have HG:=hid hg
  unfold maxLen at hcm htm
  clear hrow hk hl hsz hm hbm hpm hrt hg hgm hgm2 hqm hQ hlg
  go_enter Try.func44,Try.ntmps44
  go_wp2_with fail
  go_loopw [3,4] (fun s3 s4 wr => ∃ (i : Nat) (S : ByteArray),s3 = .string S ∧ s4 = .int .i64 i ∧ i ≤ m ∧ S.size ≤ 2000001 ∧ Hid (S.data.toList = 123 :: Wf.commas (Q.take i) ∧ Below w.heap.size w wr)) (fun _ s4 _ => m - (RowKit.intOf s4).toNat)
  case atStart => exact ⟨0,⟨#[123]⟩,rfl,rfl,Nat.zero_le _,by decide,hid ⟨rfl,Below.refl _ _⟩⟩
  case round =>
    obtain ⟨i,S,rfl,rfl,hi,hS,hh⟩:=hrel
    have hbw : b < wr.heap.size:=Nat.lt_of_lt_of_le hlt hh.out.2.size
    have y2:=(hh.out.2.cell (p:=⟨b,2,none⟩) hlt).trans c2
    have y3:=(hh.out.2.cell (p:=⟨b,3,none⟩) hlt).trans c3
    by_cases hlt2 : i < m
    · have hib : i < bs.length:=by rw [HBM.out];exact hlt2
      have hip : i < ps.length:=by rw [HPM.out];exact hlt2
      have hig : i < gs.length:=by rw [HGM.out];exact hlt2
      have hiq : i < Q.length:=by rw [HQM.out];exact hlt2
      obtain ⟨o,rfl,hkb,_,_,ck⟩:=HROW.out.get (i:=i) (by rw [HMM.out];exact hlt2)
      obtain ⟨p,rfl,htb,_,_,ct⟩:=HRT.out.get (i:=i) (by rw [HGM2.out];exact hlt2)
      rw [List.getElem_map] at ck ct
      obtain ⟨u,hu⟩ : ∃ u,bs[i] = u:=⟨_,rfl⟩
      obtain ⟨g,hgi⟩ : ∃ g,gs[i] = g:=⟨_,rfl⟩
      have hg6 : g ≤ 999999:=by rw [← hgi];exact HG.out _ (List.getElem_mem hig)
      obtain ⟨T,hT⟩ : ∃ T : ByteArray,(⟨(ps[i]).toArray⟩ : ByteArray) = T:=⟨_,rfl⟩
      rw [hu] at ck
      rw [hgi] at ct
      have hct : ix g = .int .i64 g:=rfl
      rw [hct] at ct
      have hkw : kb < wr.heap.size:=Nat.lt_of_lt_of_le hkb hh.out.2.size
      have htw : tb < wr.heap.size:=Nat.lt_of_lt_of_le htb hh.out.2.size
      have yk:=(hh.out.2.cell (p:=⟨kb,o + i,none⟩) hkb).trans ck
      have yt:=(hh.out.2.cell (p:=⟨tb,p + i,none⟩) htb).trans ct
      have HC:=hid fun (wz : World) (hz : Below wr.heap.size wr wz) => (show Calls Try.prog 30 #[ptr u] wz fun e w' => e = .returned (.string T) ∧ Below wz.heap.size wz w' by
        have:=HK.out i hib hip wz (hh.out.2.trans (hz.mono hh.out.2.size))
        rw [hu] at this
        simp only [tx,hT] at this
        exact this)
      have HSTEP:=hid (Wf.commas_step hiq)
      have hqi:=HQI.out i hiq hig hip
      rw [hgi] at hqi
      have hql : (Q[i]).length ≤ 2000000:=Nat.le_trans (Wf.commas_mem (List.getElem_mem hiq)) HSZ.out
      have hTs : T.size ≤ 2000000:=by
        rw [hqi] at hql
        simp at hql
        rw [← hT,← size_list]
        show (ps[i]).length ≤ _
        omega
      have HTL:=hid (show Q[i] = Wf.dec g ++ 61 :: T.data.toList by rw [hqi,← hT])
      have HTK:=hid (show (Wf.commas (Q.take (i + 1))).length ≤ 2000000 from Nat.le_trans (Wf.commas_take _) HSZ.out)
      have fin : ∀ S' : ByteArray,S'.data.toList = 123 :: Wf.commas (Q.take (i + 1)) → S'.size ≤ 2000001:=fun S' h => by
        have:=HTK.out
        rw [← size_list,h]
        simp only [List.length_cons]
        omega
      have FIN:=hid fin
      have HD:=hid fun wz => l6Dec g g wz (Nat.le_refl _) (by omega)
      obtain ⟨D,hD⟩ : ∃ D : ByteArray,(⟨(Wf.dec g).toArray⟩ : ByteArray) = D:=⟨_,rfl⟩
      simp only [tx,hD] at HD
      have hds : D.size ≤ 6:=by rw [← hD,← size_list];exact Wf.dec_len6 hg6
      have HDL:=hid (show D.data.toList = Wf.dec g by rw [← hD])
      obtain ⟨S1,hS1,hS1s,HE⟩ : ∃ S1 : ByteArray,(S1 = if i = 0 then S else S ++ ⟨#[44]⟩) ∧ S1.size ≤ 2000002 ∧ Hid ((S1 ++ D ++ ⟨#[61]⟩ ++ T).data.toList = 123 :: Wf.commas (Q.take (i + 1))):=by
        refine ⟨_,rfl, ?_,hid ?_⟩
        · split
          · omega
          · rw [ByteArray.size_append];show S.size + 1 ≤ _;omega
        · rw [HSTEP.out,HTL.out]
          by_cases hi0 : i = 0
          · subst hi0
            rw [if_pos rfl,if_pos rfl]
            simp only [ByteArray.data_append,Array.toList_append,hh.out.1,HDL.out]
            simp [Wf.commas]
          · rw [if_neg hi0,if_neg hi0]
            simp only [ByteArray.data_append,Array.toList_append,hh.out.1,HDL.out]
            simp
      have a1:=fun wz => run_string_add_sum (P:=Try.prog) (w:=wz) S1 D (by omega)
      have a2:=fun wz => run_string_add_sum (P:=Try.prog) (w:=wz) (S1 ++ D) ⟨#[61]⟩ (by rw [ByteArray.size_append];show S1.size + D.size + 1 ≤ _;omega)
      have a3:=fun wz => run_string_add_sum (P:=Try.prog) (w:=wz) (S1 ++ D ++ ⟨#[61]⟩) T (by rw [ByteArray.size_append,ByteArray.size_append];show S1.size + D.size + 1 + T.size ≤ _;omega)
      have n1 : (0 : Int) ≤ (i : Int):=by omega
      have n2 : (i : Int) < (m : Int):=by omega
      clear hu hT ck ct fin hgi hqi hql hD hct
      by_cases hi0 : i = 0
      · subst hi0
        rw [if_pos rfl] at hS1
        rw [Nat.add_zero] at yt yk
        have F:=hid fun (wz : World) (hz : Below wr.heap.size wr wz) => (show wz.cell? ⟨b,2,none⟩ = some (.slice (some ⟨tb,p,none⟩) m tc) ∧ wz.cell? ⟨tb,p,none⟩ = some (.int .i64 g) ∧ wz.cell? ⟨b,3,none⟩ = some (.slice (some ⟨kb,o,none⟩) m c) ∧ wz.cell? ⟨kb,o,none⟩ = some (ptr u) from ⟨(hz.cell (p:=⟨b,2,none⟩) hbw).trans y2,(hz.cell (p:=⟨tb,p,none⟩) htw).trans yt,(hz.cell (p:=⟨b,3,none⟩) hbw).trans y3,(hz.cell (p:=⟨kb,o,none⟩) hkw).trans yk⟩)
        subst hS1
        go_wp2_with fail
        go_region_held3 (fun w' => w'.cell? ⟨b,2,none⟩ = some (.slice (some ⟨tb,p,none⟩) m tc) ∧ w'.cell? ⟨tb,p,none⟩ = some (.int .i64 g) ∧ w'.cell? ⟨b,3,none⟩ = some (.slice (some ⟨kb,o,none⟩) m c) ∧ w'.cell? ⟨kb,o,none⟩ = some (ptr u)) (first | exact ⟨k1,k2,k3,k4⟩ | exact ⟨d1,d2,d3,d4⟩ | go_keep) (first | (go_at_call 41;refine (HD.out _).mono ?_;rintro e w3 ⟨rfl,hb3⟩;have TD:=Lib.hid (show Below wr.heap.size wr w3 by first | exact TS.out.trans (hb3.mono TS.out.size) | (refine Below.trans (b:=_) ?_ hb3;repeat (first | with_reducible exact Below.refl _ _ | with_reducible refine Below.drew ?_)));obtain ⟨d1,d2,d3,d4⟩:=F.out _ TD.out;clear hb3) | (go_at_call 30;refine (HC.out _ (by first | exact TD.out | (repeat (first | with_reducible exact Below.refl _ _ | with_reducible refine Below.drew ?_)))).mono ?_;rintro e w4 ⟨rfl,hb4⟩;have TS:=Lib.hid (show Below wr.heap.size wr w4 by first | exact TD.out.trans (hb4.mono TD.out.size) | (refine Below.trans (b:=_) ?_ hb4;repeat (first | with_reducible exact Below.refl _ _ | with_reducible refine Below.drew ?_)));obtain ⟨k1,k2,k3,k4⟩:=F.out _ TS.out;clear hb4))
        all_goals go_wp2_with fail
        all_goals go_roundw
        all_goals first
        | exact ⟨0 + 1,S1 ++ D ++ ⟨#[61]⟩ ++ T,by rfl,by go_num,by omega,FIN.out _ HE.out,hid ⟨HE.out,hh.out.2.trans (TS.out.mono hh.out.2.size)⟩⟩
        | exact ⟨0 + 1,S1 ++ D ++ ⟨#[61]⟩ ++ T,by rfl,by go_num,by omega,FIN.out _ HE.out,hid ⟨HE.out,hh.out.2.trans (TD.out.mono hh.out.2.size)⟩⟩
        | (simp [RowKit.intOf];omega)
      · have hip0 : 0 < i:=by omega
        rw [if_neg hi0] at hS1
        have F:=hid fun (wz : World) (hz : Below wr.heap.size wr wz) => (show wz.cell? ⟨b,2,none⟩ = some (.slice (some ⟨tb,p,none⟩) m tc) ∧ wz.cell? ⟨tb,p + i,none⟩ = some (.int .i64 g) ∧ wz.cell? ⟨b,3,none⟩ = some (.slice (some ⟨kb,o,none⟩) m c) ∧ wz.cell? ⟨kb,o + i,none⟩ = some (ptr u) from ⟨(hz.cell (p:=⟨b,2,none⟩) hbw).trans y2,(hz.cell (p:=⟨tb,p + i,none⟩) htw).trans yt,(hz.cell (p:=⟨b,3,none⟩) hbw).trans y3,(hz.cell (p:=⟨kb,o + i,none⟩) hkw).trans yk⟩)
        subst hS1
        clear hi0
        go_wp2_with fail
        go_region_held3 (fun w' => w'.cell? ⟨b,2,none⟩ = some (.slice (some ⟨tb,p,none⟩) m tc) ∧ w'.cell? ⟨tb,p + i,none⟩ = some (.int .i64 g) ∧ w'.cell? ⟨b,3,none⟩ = some (.slice (some ⟨kb,o,none⟩) m c) ∧ w'.cell? ⟨kb,o + i,none⟩ = some (ptr u)) (first | exact ⟨k1,k2,k3,k4⟩ | exact ⟨d1,d2,d3,d4⟩ | go_keep) (first | (go_at_call 41;refine (HD.out _).mono ?_;rintro e w3 ⟨rfl,hb3⟩;have TD:=Lib.hid (show Below wr.heap.size wr w3 by first | exact TS.out.trans (hb3.mono TS.out.size) | (refine Below.trans (b:=_) ?_ hb3;repeat (first | with_reducible exact Below.refl _ _ | with_reducible refine Below.drew ?_)));obtain ⟨d1,d2,d3,d4⟩:=F.out _ TD.out;clear hb3) | (go_at_call 30;refine (HC.out _ (by first | exact TD.out | (repeat (first | with_reducible exact Below.refl _ _ | with_reducible refine Below.drew ?_)))).mono ?_;rintro e w4 ⟨rfl,hb4⟩;have TS:=Lib.hid (show Below wr.heap.size wr w4 by first | exact TD.out.trans (hb4.mono TD.out.size) | (refine Below.trans (b:=_) ?_ hb4;repeat (first | with_reducible exact Below.refl _ _ | with_reducible refine Below.drew ?_)));obtain ⟨k1,k2,k3,k4⟩:=F.out _ TS.out;clear hb4))
        all_goals go_wp2_with fail
        all_goals go_roundw
        all_goals first
        | exact ⟨i + 1,(S ++ ⟨#[44]⟩) ++ D ++ ⟨#[61]⟩ ++ T,by rfl,by go_num,by omega,FIN.out _ HE.out,hid ⟨HE.out,hh.out.2.trans (TS.out.mono hh.out.2.size)⟩⟩
        | exact ⟨i + 1,(S ++ ⟨#[44]⟩) ++ D ++ ⟨#[61]⟩ ++ T,by rfl,by go_num,by omega,FIN.out _ HE.out,hid ⟨HE.out,hh.out.2.trans (TD.out.mono hh.out.2.size)⟩⟩
        | (simp [RowKit.intOf];omega)
    · have him : i = m:=by omega
      subst him
      have HE:=hid (show S ++ (⟨#[125]⟩ : ByteArray) = ⟨(123 :: (Wf.commas Q ++ [125])).toArray⟩ by
        rw [eq_list,ByteArray.data_append,Array.toList_append,hh.out.1,List.take_of_length_le (by rw [HQM.out];exact Nat.le_refl _)];simp)
      go_wp2_with fail
      go_ret
      exact ⟨ret_str HE.out,hh.out.2⟩
end Go.Proofs.Ytidjpalnmnehmaa
