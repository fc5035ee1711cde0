/- Packed by pack.py: Lv. -/
import Derived.Test.YtidjpalnmnehmaaF11
namespace Go.Proofs.Ytidjpalnmnehmaa
open Go.ChangeShapes Go.WideShapes Go.ChangeAt Go.RowKit Go.Lib
set_option linter.unusedVariables false
theorem owns_below {w w' : World} {base : Nat} {e : TypeId} {size : Nat} {v : Value} {n : Nat} {xs : List Value} (h : w.ownsRow base e size v n xs) (hb : Below w.heap.size w w') : w'.ownsRow base e size v n xs:=by
  obtain ⟨h1,h2 | ⟨g,cap,cur,h3,h4,h5,h6⟩⟩:=h
  · exact ⟨h1, .inl h2⟩
  · refine ⟨h1, .inr ⟨g,cap,cur,h3,h4, ?_,h6⟩⟩
    rw [hb.block g (Array.getElem?_eq_some_iff.1 h5).1];exact h5
theorem owns_slice {w : World} {base : Nat} {e : TypeId} {size : Nat} {v : Value} {n : Nat} {xs : List Value} (h : w.ownsRow base e size v n xs) : ∃ a c,v = .slice a n c:=by
  obtain ⟨h1,⟨rfl,rfl⟩ | ⟨g,cap,cur,h3,_⟩⟩:=h
  · exact ⟨_,_,rfl⟩
  · exact ⟨_,_,h3⟩
theorem owns_cell {w : World} {base : Nat} {e : TypeId} {size : Nat} {a : Option Addr} {c : Nat} {es : List (List Value)} (h : w.ownsRow base e size (.slice a es.length c) es.length es.flatten) (he : ∀ x ∈ es,x.length = size) {k : Nat} (hk : k < es.length) : ∃ g,a = some ⟨g,0,none⟩ ∧ base ≤ g ∧ g < w.heap.size ∧ es.length ≤ c ∧ c ≤ maxLen ∧ ∀ j u,j < size → es[k][j]? = some u → w.cell? ⟨g,k * size + j,none⟩ = some u:=by
  obtain ⟨h1,⟨h2,h3⟩ | ⟨g,cap,cur,h3,h4,h5,h6,h7,h8,h9⟩⟩:=h
  · omega
  · simp only [Value.slice.injEq,true_and] at h3
    obtain ⟨ha,hc⟩:=h3
    subst hc
    refine ⟨g,ha,h4,(Array.getElem?_eq_some_iff.1 h5).1,h6,h7,fun j u hj hu => ?_⟩
    have hlt : k * size + j < es.length * size:=by
      have : (k + 1) * size ≤ es.length * size:=Nat.mul_le_mul_right size hk
      rw [Nat.succ_mul] at this;omega
    have hx : (cur.toList.take (es.length * size))[k * size + j]? = es.flatten[k * size + j]?:=by rw [h9]
    rw [List.getElem?_take,if_pos hlt,flat_get size es he k hk j hj,hu] at hx
    have hx2 : cur[k * size + j]? = some u:=by simpa using hx
    simp [World.cell?,h5,hx2]
def TyOut (sort : UInt8) (name : ByteArray) (ps : List (List UInt8)) (w : World) (e : Ending) (w' : World) : Prop:=match Wf.addFds sort [] ps with
  | some l => ∃ fb a c,e = .returned (.tuple #[.agg #[.int .u8 sort.toNat, .string name, .slice a l.length c], .bool (decide (l.length ≤ 8))]) ∧ w.heap.size ≤ fb ∧ RowK w' fb (.slice a l.length c) 4 (l.map (fdS sort))
  | none => ∃ a n c,e = .returned (.tuple #[.agg #[.int .u8 sort.toNat, .string name, .slice a n c], .bool false])
def FdSays (sort : UInt8) (x : List UInt8) (ok : Bool) (t : Nat) (a b c : ByteArray) : Prop :=
  (ok = true ∧ ∃ f,Wf.fdB sort x = some f ∧ fdS sort f = [.int .i64 t, .string a, .string b, .string c] ∧ f.tag = t ∧ a.data.toList = f.name) ∨ (ok = false ∧ Wf.fdB sort x = none)
theorem RfOut.shape {sort : UInt8} {x : List UInt8} {e : Ending} (h : RfOut sort x e) : ∃ (ok : Bool) (t : Int) (a b c : ByteArray),e = .returned (.tuple #[.agg #[.int .i64 t, .string a, .string b, .string c], .bool ok]) ∧ Hid ((ok = true → 0 ≤ t) ∧ FdSays sort x ok t.toNat a b c):=by
  unfold RfOut at h
  cases hf : Wf.fdB sort x with
  | none =>
    rw [hf] at h
    obtain ⟨t,a,b,c,he⟩:=h
    exact ⟨false,t,a,b,c,he,hid ⟨(fun h => by cases h), .inr ⟨rfl,hf⟩⟩⟩
  | some f =>
    rw [hf] at h
    exact ⟨true,f.tag,_,_,_,h,hid ⟨(fun _ => by omega), .inl ⟨rfl,f,hf,rfl,rfl,rfl⟩⟩⟩
structure TSt (w wr : World) (tb lb B0 : Nat) (q : Nat) (name : ByteArray) (lv : Value) (a : Option Addr) (c : Nat) (ps : List (List UInt8)) (es : List (List Value)) : Prop where
  below : Below (w.heap.size + 1) (w.alloc (.cells #[.int .u8 0,tx [], .slice none 0 0] 78)) wr
  htb : w.heap.size < tb
  htB : tb < B0
  hlb : lb < B0
  hne : tb < lb
  hB0 : B0 ≤ wr.heap.size
  c0 : wr.cell? ⟨tb,0,none⟩ = some (.int .u8 q)
  c1 : wr.cell? ⟨tb,1,none⟩ = some (.string name)
  c2 : wr.cell? ⟨tb,2,none⟩ = some (.slice a es.length c)
  f2 : wr.frozen? ⟨tb,2,none⟩ = false
  row : RowAt wr lb lv (ps.map tx)
  own : wr.ownsRow B0 85 4 (.slice a es.length c) es.length es.flatten
  he : ∀ e ∈ es,e.length = 4
section
variable {w wr : World} {tb lb B0 q : Nat} {name : ByteArray} {lv : Value} {a : Option Addr} {c : Nat} {ps : List (List UInt8)} {es : List (List Value)}
theorem TSt.step (h : TSt w wr tb lb B0 q name lv a c ps es) {w2 : World} (hb : Below wr.heap.size wr w2) : TSt w w2 tb lb B0 q name lv a c ps es:=by
  have ht : tb < wr.heap.size:=Nat.lt_of_lt_of_le h.htB h.hB0
  refine ⟨h.below.trans (hb.mono ?_),h.htb,h.htB,h.hlb,h.hne,Nat.le_trans h.hB0 hb.size, ?_, ?_, ?_, ?_,h.row.below hb id,owns_below h.own hb,h.he⟩
  · have:=h.htb;omega
  · exact (hb.cell (p:=⟨tb,0,none⟩) ht).trans h.c0
  · exact (hb.cell (p:=⟨tb,1,none⟩) ht).trans h.c1
  · exact (hb.cell (p:=⟨tb,2,none⟩) ht).trans h.c2
  · exact (hb.frozen (p:=⟨tb,2,none⟩) ht).trans h.f2
theorem TSt.res (h : TSt w wr tb lb B0 q name lv a c ps es) : wr.cell? ⟨w.heap.size,0,none⟩ = some (.int .u8 0) ∧ wr.cell? ⟨w.heap.size,1,none⟩ = some (tx []) ∧ wr.cell? ⟨w.heap.size,2,none⟩ = some (.slice none 0 0) ∧ wr.frozen? ⟨w.heap.size,0,none⟩ = false ∧ wr.frozen? ⟨w.heap.size,1,none⟩ = false ∧ wr.frozen? ⟨w.heap.size,2,none⟩ = false:=by
  have hc:=fun o => h.below.cell (p:=⟨w.heap.size,o,none⟩) (Nat.lt_succ_self _)
  have hf:=fun o => h.below.frozen (p:=⟨w.heap.size,o,none⟩) (Nat.lt_succ_self _)
  exact ⟨(hc 0).trans (by simp),(hc 1).trans (by simp),(hc 2).trans (by simp),(hf 0).trans (by simp),(hf 1).trans (by simp),(hf 2).trans (by simp)⟩
theorem TSt.all (h : TSt w wr tb lb B0 q name lv a c ps es) : Below w.heap.size w wr:=((Below.refl _ _).alloc (Nat.le_refl _) _).trans (h.below.mono (by omega))
theorem TSt.put (h : TSt w wr tb lb B0 q name lv a c ps es) {wx w' : World} (hx : Below wr.heap.size wr wx) (hb : Below B0 wx w') {a' : Option Addr} {c' : Nat} {e : List Value} (hl : e.length = 4) (ho : w'.ownsRow B0 85 4 (.slice a' (es.length + 1) c') (es.length + 1) (es.flatten ++ e)) :
    TSt w (w'.setCell ⟨tb,2,none⟩ (.slice a' (es.length + 1) c')) tb lb B0 q name lv a' c' ps (es ++ [e]):=by
  have hs:=h.step hx
  have hs2 : (w'.setCell ⟨tb,2,none⟩ (.slice a' (es.length + 1) c')).heap.size = w'.heap.size:=by simp
  have hset:=Below.setCell (B:=tb) (Below.refl tb w') (p:=⟨tb,2,none⟩) (Nat.le_refl _) (.slice a' (es.length + 1) c')
  have hlen : (es ++ [e]).length = es.length + 1:=by simp
  have c2' : w'.cell? ⟨tb,2,none⟩ = some (.slice a es.length c):=(hb.cell (p:=⟨tb,2,none⟩) h.htB).trans hs.c2
  refine ⟨?_,h.htb,h.htB,h.hlb,h.hne, ?_, ?_, ?_, ?_, ?_, ?_, ?_, ?_⟩
  · exact (hs.below.trans (hb.mono (by have:=h.htb;have:=h.htB;omega))).setCell (by have:=h.htb;simp;omega) _
  · rw [hs2];exact Nat.le_trans hs.hB0 hb.size
  · exact (World.cell?_setCell_other w' _ _ _ (by simp)).trans ((hb.cell (p:=⟨tb,0,none⟩) h.htB).trans hs.c0)
  · exact (World.cell?_setCell_other w' _ _ _ (by simp)).trans ((hb.cell (p:=⟨tb,1,none⟩) h.htB).trans hs.c1)
  · rw [hlen];exact World.cell?_setCell_same w' _ _ c2'
  · have:=(hb.frozen (p:=⟨tb,2,none⟩) h.htB).trans hs.f2
    simpa using this
  · refine RowAt.keep hs.row ?_ fun hlt => ?_
    · rw [hs2];exact hb.size
    · have hbt : lb ≠ tb:=by have:=h.hne;omega
      rw [Below.heap_setCell w' ⟨tb,2,none⟩ _ lb hbt];exact hb.block lb h.hlb
  · rw [hlen,List.flatten_append,List.flatten_cons,List.flatten_nil,List.append_nil]
    exact ownsRow_setCell_below ho h.htB _
  · intro x hx
    rcases List.mem_append.1 hx with hx | hx
    · exact h.he x hx
    · rw [List.mem_singleton.1 hx];exact hl
theorem info_fd : (Try.prog.info? 85).map (fun i => (i.zero,i.size,i.bytes)) = some (some (.agg #[.int .i64 0,tx [],tx [],tx []]),4,56):=by kernel_rfl
theorem new4 (W : World) (x0 x1 x2 x3 : Value) (et : TypeId) : ∀ (j : Nat) (u : Value),[x0,x1,x2,x3][j]? = some u → (W.alloc (.cells #[x0,x1,x2,x3] et)).cell? (Addr.add ⟨W.heap.size,0,none⟩ j) = some u:=by
  intro j u hj
  match j,hj with
  | 0,hj => simp at hj;subst hj;simp [Addr.add]
  | 1,hj => simp at hj;subst hj;simp [Addr.add]
  | 2,hj => simp at hj;subst hj;simp [Addr.add]
  | 3,hj => simp at hj;subst hj;simp [Addr.add]
theorem one4 (n : Int) (a b c : ByteArray) : ∀ u ∈ [Value.int .i64 n,Value.string a,Value.string b,Value.string c],u.oneCell' = true:=by
  intro u hu
  simp only [List.mem_cons,List.not_mem_nil,or_false] at hu
  rcases hu with rfl | rfl | rfl | rfl <;> rfl
theorem RowK.beside {w w' : World} {b k rb : Nat} {v : Value} {es : List (List Value)} (h : RowK w b v k es) (hb : Beside rb w w') (hr : b ≠ rb) : RowK w' b v k es:=h.keep hb.size fun hx => hb.block b hx hr
theorem RowAt.some {w : World} {b n : Nat} {la : Option Addr} {lc : Nat} {xs : List Value} (h : RowAt w b (.slice la n lc) xs) {i : Nat} (hi : i < xs.length) : ∃ lo,la = some ⟨b,lo,none⟩ ∧ w.cell? ⟨b,lo + i,none⟩ = some xs[i] ∧ b < w.heap.size ∧ n ≤ lc ∧ lc ≤ maxLen:=by
  obtain ⟨a,cap,h1,h2,h3,h4 | ⟨o,h5,h6,h7⟩⟩:=h
  · rw [h4] at hi;simp at hi
  · simp only [Value.slice.injEq] at h1
    obtain ⟨e1,e2,e3⟩:=h1
    exact ⟨o,by rw [e1,h5],(h7 i hi).1,h6,by omega,by omega⟩
def badF (f g : Wf.Fd) : Bool:=decide (f.tag ≤ g.tag) || g.name == f.name
theorem bad_any {acc : List Wf.Fd} {f : Wf.Fd} {k : Nat} (hk : k < acc.length) (h : badF f acc[k] = true) : acc.any (fun g => decide (f.tag ≤ g.tag) || g.name == f.name) = true:=List.any_eq_true.2 ⟨_,List.getElem_mem hk,h⟩
theorem good_any {acc : List Wf.Fd} {f : Wf.Fd} (h : ∀ j (hj : j < acc.length),badF f acc[j] = false) : acc.any (fun g => decide (f.tag ≤ g.tag) || g.name == f.name) = false:=by
  rw [List.any_eq_false]
  intro g hg
  obtain ⟨j,hj,rfl⟩:=List.mem_iff_getElem.1 hg
  have:=h j hj
  rw [badF] at this
  rw [this];decide
structure Sofar (sort : UInt8) (ps : List (List UInt8)) (i : Nat) (acc : List Wf.Fd) : Prop where
  rest : Wf.addFds sort [] ps = Wf.addFds sort acc (ps.drop i)
  len : acc.length ≤ i
theorem Sofar.start (sort : UInt8) (ps : List (List UInt8)) : Sofar sort ps 0 []:=⟨rfl,Nat.le_refl _⟩
theorem Sofar.next {sort : UInt8} {ps : List (List UInt8)} {i : Nat} {acc : List Wf.Fd} (h : Sofar sort ps i acc) (hi : i < ps.length) :
    Wf.addFds sort [] ps = match Wf.fdB sort ps[i] with | none => none | some f => if acc.any (fun g => decide (f.tag ≤ g.tag) || g.name == f.name) then none else Wf.addFds sort (acc ++ [f]) (ps.drop (i + 1)):=by
  rw [h.rest,List.drop_eq_getElem_cons hi,Wf.addFds,Wf.fdA_fdB]
  cases Wf.fdB sort ps[i] <;> rfl
theorem Sofar.put {sort : UInt8} {ps : List (List UInt8)} {i : Nat} {acc : List Wf.Fd} {f : Wf.Fd} (h : Sofar sort ps i acc) (hi : i < ps.length) (hf : Wf.fdB sort ps[i] = some f) (hn : acc.any (fun g => decide (f.tag ≤ g.tag) || g.name == f.name) = false) : Sofar sort ps (i + 1) (acc ++ [f]):=by
  refine ⟨?_,by rw [List.length_append,List.length_singleton];have:=h.len;omega⟩
  rw [h.next hi,hf]
  dsimp only
  rw [hn,if_neg (by decide)]
end
end Go.Proofs.Ytidjpalnmnehmaa
