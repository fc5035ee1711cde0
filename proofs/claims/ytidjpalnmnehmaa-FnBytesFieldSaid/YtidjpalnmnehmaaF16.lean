/- Packed by pack.py: So St Xf. -/
import Derived.Test.YtidjpalnmnehmaaF15
import Derived.Test.YtidjpalnmnehmaaF6
import Derived.Test.YtidjpalnmnehmaaF7
import Derived.Test.YtidjpalnmnehmaaF2
import Derived.Deep.RegionHeld3
import Derived.Deep.QuietTactic
import Derived.BigQuiet
namespace Go.Proofs.Ytidjpalnmnehmaa
open Go.ChangeShapes Go.WideShapes Go.ChangeAt Go.RowKit Go.Lib
set_option linter.unusedVariables false
theorem info_ty3 : (Try.prog.info? 78).map (fun i => (i.zero,i.size,i.bytes)) = some (some (.agg #[.int .u8 0,tx [], .slice none 0 0]),3,48):=by kernel_rfl
theorem new3 (W : World) (x0 x1 x2 : Value) (et : TypeId) : ∀ (j : Nat) (u : Value),[x0,x1,x2][j]? = some u → (W.alloc (.cells #[x0,x1,x2] et)).cell? (Addr.add ⟨W.heap.size,0,none⟩ j) = some u:=by
  intro j u hj
  match j,hj with
  | 0,hj => simp at hj;subst hj;simp [Addr.add]
  | 1,hj => simp at hj;subst hj;simp [Addr.add]
  | 2,hj => simp at hj;subst hj;simp [Addr.add]
theorem new3b (W : World) (o : Obj) (x0 x1 x2 : Value) (et : TypeId) : ∀ (j : Nat) (u : Value),[x0,x1,x2][j]? = some u → ((W.alloc o).alloc (.cells #[x0,x1,x2] et)).cell? (Addr.add ⟨W.heap.size + 1,0,none⟩ j) = some u:=by
  intro j u hj
  have h:=new3 (W.alloc o) x0 x1 x2 et j u hj
  simpa using h
theorem one3 (q : Int) (a : ByteArray) (b : Option Addr) (n c : Nat) : ∀ u ∈ [Value.int .u8 q,Value.string a,Value.slice b n c],u.oneCell' = true:=by
  intro u hu
  simp only [List.mem_cons,List.not_mem_nil,or_false] at hu
  rcases hu with rfl | rfl | rfl <;> rfl
theorem mapTys_snoc : ∀ (l : List Wf.Bs) (s : Wf.Bs) (acc : List Wf.Ty) (t : Wf.Ty),Wf.mapTys l = some acc → Wf.lineTy s = some t → Wf.mapTys (l ++ [s]) = some (acc ++ [t]):=by
  intro l
  induction l with
  | nil => intro s acc t h1 h2;simp only [Wf.mapTys,Option.some.injEq] at h1;subst h1;simp [Wf.mapTys,h2]
  | cons a l ih =>
    intro s acc t h1 h2
    simp only [Wf.mapTys] at h1
    cases ha : Wf.lineTy a with
    | none => rw [ha] at h1;cases h1
    | some u =>
      rw [ha] at h1
      cases hl : Wf.mapTys l with
      | none => rw [hl] at h1;cases h1
      | some r =>
        rw [hl] at h1
        simp only [Option.map_some,Option.some.injEq] at h1
        subst h1
        simp [Wf.mapTys,ha,ih s r t hl h2]
theorem mapTys_bad : ∀ (l : List Wf.Bs) (s : Wf.Bs) (m : List Wf.Bs),Wf.lineTy s = none → Wf.mapTys (l ++ s :: m) = none:=by
  intro l
  induction l with
  | nil => intro s m h;simp [Wf.mapTys,h]
  | cons a l ih =>
    intro s m h
    simp only [List.cons_append,Wf.mapTys,ih s m h]
    cases Wf.lineTy a <;> rfl
theorem mapTys_ok : ∀ (l : List Wf.Bs) (acc : List Wf.Ty),Wf.mapTys l = some acc → ∀ t ∈ acc,Wf.TyOk t:=by
  intro l
  induction l with
  | nil => intro acc h t ht;simp only [Wf.mapTys,Option.some.injEq] at h;subst h;cases ht
  | cons a l ih =>
    intro acc h t ht
    simp only [Wf.mapTys] at h
    cases ha : Wf.lineTy a with
    | none => rw [ha] at h;cases h
    | some u =>
      rw [ha] at h
      cases hl : Wf.mapTys l with
      | none => rw [hl] at h;cases h
      | some r =>
        rw [hl] at h
        simp only [Option.map_some,Option.some.injEq] at h
        subst h
        rcases List.mem_cons.1 ht with rfl | ht
        · exact Wf.lineTy_ok ha
        · exact ih r hl t ht
theorem parseK_len {s : List UInt8} {k : Wf.K} (h : Wf.parseK s = some k) : k.text.length ≤ 12:=by
  unfold Wf.parseK at h
  split at h
  · rw [Wf.kindIn_text h];assumption
  · cases h
theorem fd_kind {q : UInt8} {f : Wf.Fd} (h : Wf.FdOk q f) : f.kind.text.length ≤ 12:=by
  by_cases hq : q = 69
  · rw [(h.enum hq).1];decide
  · obtain ⟨s,hs⟩:=h.kind hq
    exact parseK_len hs
theorem good_of {t : Wf.Ty} (h : Wf.TyOk t) : Good t:=⟨fun hs => h.some (by rw [hs];decide),fun f hf => by have:=fd_kind (h.fds f hf);omega⟩
theorem ScSp.mono {w : World} {lo lo' b : Nat} {v : Value} {x : Wf.Sc} (h : ScSp w lo b v x) (hl : lo' ≤ lo) : ScSp w lo' b v x:=by
  obtain ⟨cs,h0,h1,h2,h3⟩:=h
  refine ⟨cs,Nat.le_trans hl h0,h1,h2,fun i hi hi' => ?_⟩
  obtain ⟨fb,a,c,g1,g2,g3⟩:=h3 i hi hi'
  exact ⟨fb,a,c,g1,Nat.le_trans hl g2,g3⟩
structure Above (lo : Nat) (w w' : World) : Prop where
  size : w.heap.size ≤ w'.heap.size
  block : ∀ k,lo ≤ k → k < w.heap.size → w'.heap[k]? = w.heap[k]?
theorem Above.refl (lo : Nat) (w : World) : Above lo w w:=⟨Nat.le_refl _,fun _ _ _ => rfl⟩
theorem Above.trans {lo : Nat} {a b c : World} (h : Above lo a b) (k : Above lo b c) : Above lo a c:=⟨Nat.le_trans h.size k.size,fun i hi hs => (k.block i hi (Nat.lt_of_lt_of_le hs h.size)).trans (h.block i hi hs)⟩
theorem Above.of_below {lo : Nat} {a b : World} (h : Below a.heap.size a b) : Above lo a b:=⟨h.size,fun k _ hk => h.block k hk⟩
theorem Above.set {lo : Nat} {a b : World} (h : Above lo a b) {r : Nat} (hr : r < lo) (o : Nat) (u : Value) : Above lo a (b.setCell ⟨r,o,none⟩ u) :=
  h.trans ⟨by simp,fun k hk _ => Below.heap_setCell b ⟨r,o,none⟩ u k (by simp;omega)⟩
theorem Above.drew {lo : Nat} {a b : World} (h : Above lo a b) : Above lo a b.drew:=h.trans ⟨Nat.le_refl _,fun _ _ _ => rfl⟩
theorem Above.drewN {lo : Nat} {a b : World} (h : Above lo a b) (n : Nat) : Above lo a (b.drewN n):=h.trans ⟨Nat.le_refl _,fun _ _ _ => rfl⟩
theorem Above.alloc {lo : Nat} {a b : World} (h : Above lo a b) (o : Obj) : Above lo a (b.alloc o):=h.trans (Above.of_below ((Below.refl _ _).alloc (Nat.le_refl _) _))
def OfOut (l : List UInt8) (lo : Nat) (e : Ending) (w' : World) : Prop:=match Wf.schemaOf l with
  | some x => ∃ b v,e = .returned (.tuple #[v, .bool true]) ∧ ScSp w' lo b v x
  | none => ∃ a n c,e = .returned (.tuple #[.slice a n c, .bool false])
theorem of_none {l : List UInt8} {lo : Nat} {e : Ending} {w' : World} (h : Wf.schemaOf l = none) (he : ∃ a n c,e = .returned (.tuple #[.slice a n c, .bool false])) : OfOut l lo e w':=by
  unfold OfOut;rw [h];exact he
theorem of_valid {l : List UInt8} {lo : Nat} {e : Ending} {w' : World} {x : Wf.Sc} {b n : Nat} {a : Option Addr} {c : Nat} (h : Wf.schemaOf l = if validB x = true then some x else none) (hs : ScSp w' lo b (.slice a n c) x) (he : e = .returned (.tuple #[.slice a n c, .bool (validB x)])) : OfOut l lo e w':=by
  cases hv : validB x with
  | true => rw [hv,if_pos rfl] at h;rw [hv] at he;unfold OfOut;rw [h];exact ⟨b,_,he,hs⟩
  | false => rw [hv,if_neg (by decide)] at h;rw [hv] at he;exact of_none h ⟨_,_,_,he⟩
def TyX (w : World) (lo : Nat) (g : Option Nat) (cs : List Value) (t : Wf.Ty) : Prop:=∃ fb a c,cs = [.int .u8 t.sort.toNat,tx t.name, .slice a t.fields.length c] ∧ lo ≤ fb ∧ (t.fields = [] ∨ some fb ≠ g ∧ fb < w.heap.size) ∧ RowK w fb (.slice a t.fields.length c) 4 (t.fields.map (fdS t.sort))
theorem TyX.sp {w : World} {lo : Nat} {g : Option Nat} {cs : List Value} {t : Wf.Ty} (h : TyX w lo g cs t) : TySp w lo cs t:=by
  obtain ⟨fb,a,c,h1,h0,h2,h3⟩:=h
  exact ⟨fb,a,c,h1,h0,h3⟩
theorem TyX.below {w w' : World} {lo : Nat} {g : Option Nat} {cs : List Value} {t : Wf.Ty} (h : TyX w lo g cs t) (hb : Below w.heap.size w w') : TyX w' lo g cs t:=by
  obtain ⟨fb,a,c,h1,h0,h2,h3⟩:=h
  exact ⟨fb,a,c,h1,h0,h2.imp_right fun h => ⟨h.1,Nat.lt_of_lt_of_le h.2 hb.size⟩,h3.below hb⟩
theorem RowK.grown {w w' : World} {b k : Nat} {v : Value} {es : List (List Value)} {g : Option Nat} (h : RowK w b v k es) (hg : w.grownBy w' g) (hb : es = [] ∨ some b ≠ g) : RowK w' b v k es:=by
  obtain ⟨a,cap,h1,h2,h3,h4⟩:=h
  refine ⟨a,cap,h1,h2,h3, ?_⟩
  rcases h4 with h4 | ⟨o,h5,h6,h7⟩
  · exact .inl h4
  · rcases hb with hb | hb
    · exact .inl hb
    · exact .inr ⟨o,h5,Nat.lt_of_lt_of_le h6 hg.size,fun i hi j u hj hu => (World.cell?_of_block (w:=w) (a:=⟨b,o + i * k + j,none⟩) (hg.block b h6 hb)).trans (h7 i hi j u hj hu)⟩
theorem TyX.grown {w w' : World} {lo : Nat} {g g' : Option Nat} {cs : List Value} {t : Wf.Ty} (h : TyX w lo g cs t) (hg : w.grownBy w' g) (hg' : g' = g ∨ g' = some w.heap.size) : TyX w' lo g' cs t:=by
  obtain ⟨fb,a,c,h1,h0,h2,h3⟩:=h
  refine ⟨fb,a,c,h1,h0,h2.imp_right fun h => ⟨?_,Nat.lt_of_lt_of_le h.2 hg.size⟩,h3.grown hg (by
    rcases h2 with h | h
    · left;rw [h];rfl
    · exact .inr h.1)⟩
  rcases hg' with rfl | rfl
  · exact h.1
  · intro e;have:=Option.some.inj e;omega
structure OfSt (w1 wr : World) (ps : List (List UInt8)) (k : Nat) (acc : List Wf.Ty) (a : Option Addr) (c : Nat) (es : List (List Value)) : Prop where
  map : Wf.mapTys (ps.take k) = some acc
  len : acc.length = k
  elen : es.length = k
  own : wr.ownsRow w1.heap.size 78 3 (.slice a k c) k es.flatten
  e3 : ∀ e ∈ es,e.length = 3
  tys : ∀ i (h : i < es.length) (h' : i < acc.length),TyX wr w1.heap.size (Value.slice a k c).ownBlock es[i] acc[i]
  below : Below w1.heap.size w1 wr
theorem OfSt.step {w1 wr w2 : World} {ps : List (List UInt8)} {k : Nat} {acc : List Wf.Ty} {a : Option Addr} {c : Nat} {es : List (List Value)} (h : OfSt w1 wr ps k acc a c es) (hb : Below wr.heap.size wr w2) : OfSt w1 w2 ps k acc a c es :=
  ⟨h.map,h.len,h.elen,owns_below h.own hb,h.e3,fun i hi hi' => (h.tys i hi hi').below hb,h.below.trans (hb.mono h.below.size)⟩
theorem OfSt.start (w1 : World) (ps : List (List UInt8)) : OfSt w1 (w1.alloc (.cells #[] 78)) ps 0 [] (some ⟨w1.heap.size,0,none⟩) 0 [] :=
  ⟨rfl,rfl,rfl,World.ownsRow_made w1 #[] 0 (Nat.le_refl _) (by decide) rfl,(fun _ h => by cases h),(fun i h => by simp at h),(Below.refl _ _).alloc (Nat.le_refl _) _⟩
theorem owns_lt {w : World} {base : Nat} {e : TypeId} {size n : Nat} {v : Value} {xs : List Value} (h : w.ownsRow base e size v n xs) : ∀ g,v.ownBlock = some g → base ≤ g ∧ g < w.heap.size:=by
  obtain ⟨_,⟨rfl,_⟩ | ⟨g,cap,cur,rfl,h4,h5,_⟩⟩:=h
  · intro g hg;cases hg
  · intro g' hg'
    simp only [Value.ownBlock,Option.some.injEq] at hg'
    subst hg'
    exact ⟨h4,(Array.getElem?_eq_some_iff.1 h5).1⟩
theorem below_grown2 {base : Nat} {w w' : World} {g : Option Nat} (hg : w.grownBy w' g) (h : ∀ k,g = some k → base ≤ k) (hb : base ≤ w.heap.size) : Below base w w':=(Below.refl base w).grown hg hb h
theorem OfSt.put {w1 wr wx w' : World} {ps : List (List UInt8)} {k : Nat} {acc : List Wf.Ty} {a a' : Option Addr} {c c' : Nat} {es : List (List Value)} {t : Wf.Ty} {fb : Nat} {fa : Option Addr} {fc : Nat} (h : OfSt w1 wr ps k acc a c es) (hx : Below wr.heap.size wr wx) (hg : wx.grownBy w' (Value.slice a k c).ownBlock) (hk : k < ps.length) (ht : Wf.lineTy ps[k] = some t)
    (hloc : (Value.slice a' (k + 1) c').ownBlock = (Value.slice a k c).ownBlock ∨ (Value.slice a' (k + 1) c').ownBlock = some wx.heap.size)
    (hfb : wr.heap.size ≤ fb) (hrow : RowK wx fb (.slice fa t.fields.length fc) 4 (t.fields.map (fdS t.sort))) (ho : w'.ownsRow w1.heap.size 78 3 (.slice a' (k + 1) c') (k + 1) (es.flatten ++ [.int .u8 t.sort.toNat,tx t.name, .slice fa t.fields.length fc])) : OfSt w1 w' ps (k + 1) (acc ++ [t]) a' c' (es ++ [[.int .u8 t.sort.toNat,tx t.name, .slice fa t.fields.length fc]]):=by
  have hl : (es ++ [[Value.int .u8 t.sort.toNat,tx t.name, .slice fa t.fields.length fc]]).length = k + 1:=by rw [List.length_append,h.elen];rfl
  have hs:=h.step hx
  have hlt:=owns_lt h.own
  have new : TyX wx w1.heap.size (Value.slice a k c).ownBlock [.int .u8 t.sort.toNat,tx t.name, .slice fa t.fields.length fc] t:=by
    refine ⟨fb,fa,fc,rfl,Nat.le_trans h.below.size hfb, ?_,hrow⟩
    by_cases h0 : t.fields = []
    · exact .inl h0
    · right
      obtain ⟨_,_,_,_,_,h4⟩:=hrow
      rcases h4 with h4 | ⟨_,_,h6,_⟩
      · exact absurd (List.map_eq_nil_iff.1 h4) h0
      · refine ⟨fun e => ?_,h6⟩
        have:=(hlt fb e.symm).2;omega
  refine ⟨?_,by rw [List.length_append,h.len];rfl,hl, ?_, ?_, ?_, ?_⟩
  · rw [List.take_add_one,List.getElem?_eq_getElem hk];exact mapTys_snoc _ _ _ _ h.map ht
  · rw [List.flatten_append,List.flatten_cons,List.flatten_nil,List.append_nil];exact ho
  · intro x hx
    rcases List.mem_append.1 hx with hx | hx
    · exact h.e3 x hx
    · rw [List.mem_singleton.1 hx];rfl
  · intro i hi hi'
    have e1:=h.elen
    have e2:=h.len
    by_cases hik : i < k
    · rw [List.getElem_append_left (by omega),List.getElem_append_left (by omega)];exact (hs.tys i (by omega) (by omega)).grown hg hloc
    · have : i = k:=by omega
      subst this
      rw [List.getElem_append_right (by omega),List.getElem_append_right (by omega)]
      simpa [e1,e2] using new.grown hg hloc
  · exact hs.below.trans (below_grown2 hg (fun g hgk => (hlt g hgk).1) hs.below.size)
theorem OfSt.sc {w1 wr : World} {ps : List (List UInt8)} {k : Nat} {acc : List Wf.Ty} {a : Option Addr} {c : Nat} {es : List (List Value)} (h : OfSt w1 wr ps k acc a c es) : ∃ b,ScSp wr w1.heap.size b (.slice a k c) acc:=by
  have ho:=h.own
  have he:=h.elen
  rw [← he] at ho
  obtain ⟨b,hb,hr⟩:=RowK.of_owns ho h.e3
  rw [he] at hr
  exact ⟨b,es,hb,hr,by rw [h.elen,h.len],fun i hi hi' => (h.tys i hi hi').sp⟩
set_option maxRecDepth 20000 in
set_option maxHeartbeats 1000000 in
theorem of_bad (s : ByteArray) (w : World) (hs : s.size ≤ 1048576) (ps : List (List UInt8)) (hcut : ∀ w,Calls Try.prog 48 #[.string s, .int .u8 10] w fun e w' => CutOut w ps e w') (h : 400 < s.size ∨ 9 < ps.length) :
    Calls Try.prog 36 #[.string s] w fun e w' => e = .returned (.tuple #[.slice none 0 0, .bool false]) ∧ Below w.heap.size w w':=by
  have HC:=hid hcut
  clear hcut
  obtain ⟨n,hn⟩ : ∃ n,ps.length = n:=⟨_,rfl⟩
  rw [hn] at h
  have HN:=hid hn
  clear hn
  by_cases h4 : 400 < s.size
  · clear h
    go_enter Try.func36,Try.ntmps36
    go_wp2_with (go_at_call 48;refine (HC.out _).mono ?_;rintro e w1 ⟨b1,v1,rfl,hb1,hr1,hB1⟩;obtain ⟨a1,c1,rfl⟩:=hr1.len (n:=n) (by rw [List.length_map];exact HN.out);clear hr1)
    go_ret2
    exact ⟨rfl,hB1⟩
  · have h9 : 9 < n:=by omega
    clear h
    go_enter Try.func36,Try.ntmps36
    go_wp2_with (go_at_call 48;refine (HC.out _).mono ?_;rintro e w1 ⟨b1,v1,rfl,hb1,hr1,hB1⟩;obtain ⟨a1,c1,rfl⟩:=hr1.len (n:=n) (by rw [List.length_map];exact HN.out);clear hr1)
    go_ret2
    exact ⟨rfl,hB1⟩
set_option maxRecDepth 20000 in
set_option maxHeartbeats 1000000 in
theorem of_last (s : ByteArray) (w : World) (hs : s.size ≤ 400) (ps : List (List UInt8)) (hcut : ∀ w,Calls Try.prog 48 #[.string s, .int .u8 10] w fun e w' => CutOut w ps e w') (m : Nat) (hm : ps.length = m + 1) (h9 : m ≤ 8) (hl : ps.getLast? ≠ some []) :
    Calls Try.prog 36 #[.string s] w fun e w' => e = .returned (.tuple #[.slice none 0 0, .bool false]) ∧ Below w.heap.size w w':=by
  have HC:=hid hcut
  have HN:=hid hm
  have hx : Hid (∀ h : m < ps.length,ps[m]'h ≠ []):=hid (fun h => by
    rw [List.getLast?_eq_getElem?,hm,Nat.add_sub_cancel,List.getElem?_eq_getElem (by omega)] at hl
    exact fun e => hl (by rw [e]))
  clear hcut hm hl
  go_enter Try.func36,Try.ntmps36
  go_wp2_with (go_at_call 48;refine (HC.out _).mono ?_;rintro e w1 ⟨b1,v1,rfl,hb1,hr1,hB1⟩;obtain ⟨a1,c1,rfl⟩:=hr1.len (n:=m + 1) (by rw [List.length_map];exact HN.out);obtain ⟨o1,rfl,h1,h2,h3,h4⟩:=hr1.some (i:=m) (by rw [List.length_map,HN.out];omega);obtain ⟨L,hL⟩ : ∃ L : ByteArray,(⟨(ps[m]'(by rw [HN.out];omega)).toArray⟩ : ByteArray) = L:=⟨_,rfl⟩;rw [List.getElem_map,tx,hL] at h1;have hne : L.toList.isEmpty = false:=(by rw [← hL,ByteArray.toList_eq];have:=hx.out (by rw [HN.out];omega);simpa using this);clear hr1 hL)
  go_ret2
  exact ⟨rfl,hB1⟩
set_option maxRecDepth 20000 in
set_option maxHeartbeats 2000000 in
theorem of_loop (s : ByteArray) (w : World) (hs : s.size ≤ 400) (ps : List (List UInt8)) (hcut : ∀ w,Calls Try.prog 48 #[.string s, .int .u8 10] w fun e w' => CutOut w ps e w') (m : Nat) (hm : ps.length = m + 1) (h9 : m ≤ 8) (hl : ps.getLast? = some []) (hpl : ∀ x ∈ ps,x.length ≤ 1000000)
    (hsc : Wf.schemaOf s.data.toList = match Wf.mapTys ps.dropLast with | none => none | some x => if validB x = true then some x else none) :
    Calls Try.prog 36 #[.string s] w fun e w' => OfOut s.data.toList w.heap.size e w' ∧ Below w.heap.size w w':=by
  have HC:=hid hcut
  have HN:=hid hm
  have HP:=hid hpl
  have HSC:=hid hsc
  have hdl : Hid (ps.dropLast = ps.take m):=hid (by rw [List.dropLast_eq_take,hm,Nat.add_sub_cancel])
  have hx : Hid (∀ h : m < ps.length,ps[m]'h = []):=hid (fun h => by
    rw [List.getLast?_eq_getElem?,hm,Nat.add_sub_cancel,List.getElem?_eq_getElem (by omega)] at hl
    exact Option.some.inj hl)
  clear hcut hm hl hpl hsc
  go_enter Try.func36,Try.ntmps36
  go_wp2_with (go_at_call 48;refine (HC.out _).mono ?_;rintro e w1 ⟨b1,v1,rfl,hb1,hr1,hB1⟩;obtain ⟨a1,c1,rfl⟩:=hr1.len (n:=m + 1) (by rw [List.length_map];exact HN.out);obtain ⟨o1,rfl,h1,h2,h3,h4⟩:=hr1.some (i:=m) (by rw [List.length_map,HN.out];omega);obtain ⟨L,hL⟩ : ∃ L : ByteArray,(⟨(ps[m]'(by rw [HN.out];omega)).toArray⟩ : ByteArray) = L:=⟨_,rfl⟩;rw [List.getElem_map,tx,hL] at h1;have hne : L.toList.isEmpty = true:=(by rw [← hL,ByteArray.toList_eq,hx.out (by rw [HN.out];omega)];rfl);have HR1:=hid hr1;have HB1:=hid hB1;clear hr1 hL hB1)
  go_loopw [5,6] (fun v5 v6 wr => ∃ (k : Nat) (a : Option Addr) (c : Nat),v5 = .slice a k c ∧ v6 = .int .i64 k ∧ k ≤ m ∧ Hid (∃ acc es,OfSt w1 wr ps k acc a c es)) (fun _ v6 _ => m - (RowKit.intOf v6).toNat)
  case atStart => exact ⟨0,_,_,rfl,rfl,Nat.zero_le _,hid ⟨_,_,OfSt.start w1 ps⟩⟩
  case round =>
    obtain ⟨k,a,c,rfl,rfl,hk,hst⟩:=hrel
    by_cases hlt : k < m
    · obtain ⟨acc,es,st⟩:=hst.out
      have hkp : k < ps.length:=by rw [HN.out];omega
      have hlx : (ps[k]).length ≤ 1000000:=HP.out _ (List.getElem_mem hkp)
      obtain ⟨X,hX⟩ : ∃ X,ps[k] = X:=⟨_,rfl⟩
      obtain ⟨o',ho',l1,_⟩:=HR1.out.some (i:=k) (by rw [List.length_map];exact hkp)
      have ho2 : o1 = o':=by simpa using ho'
      subst ho2
      rw [List.getElem_map,hX] at l1
      have l1r : wr.cell? ⟨b1,o1 + k,none⟩ = some (tx X):=(st.below.cell (p:=⟨b1,o1 + k,none⟩) h2).trans l1
      rw [hX] at hlx
      have HRT:=hid fun wz => l3ReadType ⟨X.toArray⟩ wz (by rw [tx_size];exact hlx)
      obtain ⟨L,hL⟩ : ∃ L : ByteArray,(⟨X.toArray⟩ : ByteArray) = L:=⟨_,rfl⟩
      have hLX : L.data.toList = X:=by rw [← hL]
      rw [hL] at HRT
      rw [tx,hL] at l1r
      have HX:=hid hX
      have HST:=hid st
      clear hX hL l1 ho' st hst
      cases hty : Wf.lineTy X with
      | none =>
        have HO:=hid fun e wz w' (h : RtOut L.data.toList wz e w') => (by unfold RtOut at h;rw [hLX,hty] at h;exact h : ∃ (q : Nat) (b : ByteArray) (a : Option Addr) (n c : Nat),e = .returned (.tuple #[.agg #[.int .u8 q, .string b, .slice a n c], .bool false]))
        have HF:=hid (show Wf.schemaOf s.data.toList = none by
          have hd : ps.dropLast = ps.take k ++ ps[k] :: (ps.drop (k + 1)).take (m - k - 1):=by
            rw [hdl.out]
            have h1:=List.take_append_drop k (ps.take m)
            rw [List.take_take,Nat.min_eq_left (by omega),List.drop_take,List.drop_eq_getElem_cons hkp,List.take_cons (by omega)] at h1
            exact h1.symm
          rw [HSC.out,hd,mapTys_bad _ _ _ (by rw [HX.out];exact hty)])
        clear hty hLX
        go_wp2_with (go_at_call 49;refine (HRT.out _).mono ?_;rintro e w2 ⟨ho,hb2⟩;obtain ⟨q,tn,ta,tl,tc,rfl⟩:=HO.out _ _ _ ho;have HB2:=hid hb2;clear ho hb2)
        go_ret2
        exact ⟨of_none HF.out ⟨_,_,_,rfl⟩,by have B:=HB1.out.trans ((HST.out.below.trans (HB2.out.mono HST.out.below.size)).mono HB1.out.size);repeat (first | with_reducible exact B | with_reducible refine Below.drew ?_ | with_reducible refine Below.alloc ?_ (by first | exact B.size | (simp;omega)) _)⟩
      | some t =>
        have HO:=hid fun e wz w' (h : RtOut L.data.toList wz e w') => (by unfold RtOut at h;rw [hLX,hty] at h;exact h : ∃ fb a c,e = .returned (.tuple #[.agg #[.int .u8 t.sort.toNat,tx t.name, .slice a t.fields.length c], .bool true]) ∧ wz.heap.size ≤ fb ∧ RowK w' fb (.slice a t.fields.length c) 4 (t.fields.map (fdS t.sort)))
        have HT:=hid hty
        obtain ⟨i0,hi0,hz0,hz1,hz2⟩:=info_parts info_ty3
        have HI0:=hid hi0
        have HZ0:=hid hz0
        have HZ1:=hid hz1
        have HZ2:=hid hz2
        clear hty hLX hi0 hz0 hz1 hz2
        go_wp2_with (first | (at_builtin;refine wpList_append_own_at _ rfl (.tmp 46) (.tmp 48) 53 rfl w1.heap.size 78 i0 (.agg #[.int .u8 0,tx [], .slice none 0 0]) 3 48 Try.underlying53 HI0.out HZ0.out HZ1.out HZ2.out rfl (by decide) (.slice a k c) k es.flatten rfl ((HOWN.out.alloc _).alloc _) ⟨w2.heap.size + 1,0,none⟩ 1 1 [.int .u8 t.sort.toNat,tx t.name, .slice fa t.fields.length fc] rfl rfl ?hn ?h1 (by unfold maxLen;omega) (by omega) ?hb ?next) | (go_at_call 49;refine (HRT.out _).mono ?_;rintro e w2 ⟨ho,hb2⟩;obtain ⟨fb,fa,fc,rfl,hfb,hrow⟩:=HO.out _ _ _ ho;have HB2:=hid hb2;have HFB:=hid hfb;have HROW:=hid hrow;have HOWN:=hid (HST.out.step hb2).own;have hbs:=Nat.le_trans HST.out.below.size hb2.size;clear ho hb2 hfb hrow))
        case hn => exact new3b w2 _ _ _ _ _
        case h1 => exact one3 _ _ _ _ _
        case hb => simp;omega
        case next =>
          intro v1 w3 ho3 hg3 _ hloc
          obtain ⟨a',c',rfl⟩:=owns_slice ho3
          have BX : Below wr.heap.size wr ((w2.alloc (.cells #[.int .u8 t.sort.toNat,tx t.name, .slice fa t.fields.length fc] 78)).alloc (.cells #[.int .u8 t.sort.toNat,tx t.name, .slice fa t.fields.length fc] 78)):=((HB2.out.alloc HB2.out.size _).alloc (by have:=HB2.out.size;simp;omega) _)
          have HPUT:=hid (HST.out.put BX hg3 hkp (by rw [HX.out];exact HT.out) (by simpa using hloc) HFB.out (HROW.out.below ((Below.refl _ _).alloc (Nat.le_refl _) _) |>.below ((Below.refl _ _).alloc (Nat.le_refl _) _)) ho3)
          clear ho3 hg3 hloc BX
          go_wp2
          go_roundw
          case rel => exact ⟨k + 1,a',c',rfl,by go_num,by omega,hid ⟨_,_,HPUT.out⟩⟩
          case measure => simp [RowKit.intOf];omega
    · have hkm : k = m:=by omega
      subst hkm
      obtain ⟨acc,es,st⟩:=hst.out
      obtain ⟨b,hsc⟩:=st.sc
      have HF:=hid (show Wf.schemaOf s.data.toList = if validB acc = true then some acc else none by rw [HSC.out,hdl.out,st.map])
      have hacc:=st.len
      have HV:=hid fun wz (hz : wz = wr) => (by subst hz;exact l3valid acc w1.heap.size b (.slice a k c) wz (by omega) hsc (fun u hu => good_of (mapTys_ok _ _ st.map u hu)) : Calls Try.prog 50 #[.slice a k c] wz fun e w' => e = .returned (.bool (validB acc)) ∧ Below wz.heap.size wz w')
      have HS:=hid hsc
      have HST:=hid st
      clear hacc hsc st hst
      go_wp2_with (go_at_call 50;refine (HV.out _ rfl).mono ?_;rintro e w2 ⟨rfl,hb2⟩;have HB2:=hid hb2;clear hb2)
      go_ret2
      exact ⟨of_valid HF.out ((HS.out.below HB2.out).mono HB1.out.size) rfl,HB1.out.trans ((HST.out.below.trans (HB2.out.mono HST.out.below.size)).mono HB1.out.size)⟩
theorem l3Of (s : ByteArray) (w : World) (hs : s.size ≤ 1048576) : Calls Try.prog 36 #[.string s] w fun e w' => OfOut s.data.toList w.heap.size e w' ∧ Below w.heap.size w w':=by
  have hl:=size_list s
  have hcut : ∀ w,Calls Try.prog 48 #[.string s, .int .u8 10] w fun e w' => CutOut w (Wf.cutAt 10 s.data.toList) e w':=fun w => l3Cut s 10 (by omega) w
  have hsc:=Wf.schemaB_eq s.data.toList
  unfold Wf.schemaB at hsc
  obtain ⟨m,hm⟩ : ∃ m,(Wf.cutAt 10 s.data.toList).length = m + 1:=⟨(Wf.cutAt 10 s.data.toList).length - 1,by have:=List.length_pos_iff.2 (Wf.cutAt_ne 10 s.data.toList);omega⟩
  by_cases h1 : 400 < s.size ∨ 9 < (Wf.cutAt 10 s.data.toList).length
  · refine (of_bad s w hs _ hcut h1).mono fun e w' ⟨he,hb⟩ => ⟨of_none ?_ ⟨_,_,_,he⟩,hb⟩
    rw [← hsc,if_pos (by rw [hl];rcases h1 with h | h;exact .inl h;exact .inr (.inl h))]
  · have hs4 : s.size ≤ 400:=by omega
    have h9 : m ≤ 8:=by omega
    by_cases h2 : (Wf.cutAt 10 s.data.toList).getLast? = some []
    · refine of_loop s w hs4 _ hcut m hm h9 h2 (fun x hx => by have:=cutAt_mem hx;omega) ?_
      rw [← hsc,if_neg (by rw [hl];rintro (h | h | h);omega;omega;exact h h2)]
      cases Wf.mapTys (Wf.cutAt 10 s.data.toList).dropLast with
      | none => rfl
      | some x =>
        dsimp only
        have : (Wf.namesOk x = true ∧ Wf.refsOk x = true ∧ x.all (Wf.endsIn x (x.length + 1)) = true) ↔ validB x = true:=by
          unfold validB;rw [Bool.and_eq_true,Bool.and_eq_true,and_assoc]
        by_cases hv : validB x = true
        · rw [if_pos hv,if_pos (this.2 hv)]
        · rw [if_neg hv,if_neg (fun h => hv (this.1 h))]
    · refine (of_last s w hs4 _ hcut m hm h9 h2).mono fun e w' ⟨he,hb⟩ => ⟨of_none ?_ ⟨_,_,_,he⟩,hb⟩
      rw [← hsc,if_pos (.inr (.inr h2))]

def typeIn (l nm : List UInt8) : Option (Wf.Sc × Wf.Ty):=match Wf.schemaOf l with
  | none => none
  | some x => (x.find nm).map fun t => (x,t)
def fieldI (t : Wf.Ty) (g : Int) : Option Wf.Fd:=t.fields.find? fun f => (f.tag : Int) == g
theorem fieldI_nat (t : Wf.Ty) (g : Nat) : fieldI t g = t.field g:=by
  unfold fieldI Wf.Ty.field
  congr 1
  funext f
  rw [Bool.eq_iff_iff,beq_iff_eq,beq_iff_eq]
  omega
theorem fieldI_at {t : Wf.Ty} {g : Int} {k : Nat} (hk : k < t.fields.length) (h0 : ∀ j (hj : j < t.fields.length),j < k → ((t.fields[j]).tag : Int) ≠ g) (h1 : ((t.fields[k]).tag : Int) = g) : fieldI t g = some t.fields[k]:=by
  unfold fieldI
  rw [List.find?_eq_some_iff_getElem]
  refine ⟨by simp [h1],k,hk,rfl,fun j hj => ?_⟩
  simpa using h0 j (by omega) hj
theorem fieldI_not {t : Wf.Ty} {g : Int} (h0 : ∀ j (hj : j < t.fields.length),((t.fields[j]).tag : Int) ≠ g) : fieldI t g = none:=by
  unfold fieldI
  rw [List.find?_eq_none]
  intro f hf
  obtain ⟨j,hj,rfl⟩:=List.mem_iff_getElem.1 hf
  simpa using h0 j hj
def fldV (sort : UInt8) : Option Wf.Fd → Value
  | some f => .tuple #[.agg #[.int .i64 f.tag,tx f.name,tx (if sort = 69 then [] else f.kind.text),tx f.given], .bool true]
  | none => .tuple #[.agg #[.int .i64 0,tx [],tx [],tx []], .bool false]
set_option maxRecDepth 20000 in
set_option maxHeartbeats 1000000 in
theorem l3field (t : Wf.Ty) (ht : t.fields.length ≤ 1000) (g : Int) (q : Int) (N : ByteArray) (fb : Nat) (fa : Option Addr) (fc : Nat) (W w : World) (hW : Below W.heap.size W w) (H : RowK W fb (.slice fa t.fields.length fc) 4 (t.fields.map (fdS t.sort))) :
    Calls Try.prog 61 #[.agg #[.int .u8 q, .string N, .slice fa t.fields.length fc], .int .i64 g] w fun e w' => e = .returned (fldV t.sort (fieldI t g)) ∧ Below w.heap.size w w':=by
  have HX:=hid H
  obtain ⟨n,hn⟩ : ∃ n,t.fields.length = n:=⟨_,rfl⟩
  have HN:=hid hn
  rw [hn] at HX ht ⊢
  have HW:=hid hW
  clear H hn hW
  go_enter Try.func61,Try.ntmps61
  go_wp2
  go_loop [6] (fun i => ∃ k : Nat,k ≤ n ∧ i = .int .i64 k ∧ Hid (∀ j (hj : j < t.fields.length),j < k → ((t.fields[j]).tag : Int) ≠ g)) (fun i => n - (RowKit.intOf i).toNat)
  case atStart => exact ⟨0,Nat.zero_le _,rfl,hid fun j hj h => by omega⟩
  case round =>
    obtain ⟨k,hk,rfl,hno⟩:=hrel
    by_cases hlt : k < n
    · have hkx : k < t.fields.length:=by rw [HN.out];exact hlt
      obtain ⟨o,rfl,hbW,h1,h2,hcell⟩:=RowK.get HX.out (i:=k) (by rw [List.length_map];exact hkx)
      have hbw : fb < w.heap.size:=Nat.lt_of_lt_of_le hbW HW.out.size
      obtain ⟨F,hF⟩ : ∃ F,t.fields[k] = F:=⟨_,rfl⟩
      have e0 : (t.fields.map (fdS t.sort))[k]'(by rw [List.length_map];exact hkx) = fdS t.sort F:=by rw [List.getElem_map,hF]
      have g0:=(HW.out.cell (p:=⟨fb,o + k * 4 + 0,none⟩) hbW).trans (hcell 0 (.int .i64 F.tag) (by decide) (by rw [e0];rfl))
      have g1:=(HW.out.cell (p:=⟨fb,o + k * 4 + 1,none⟩) hbW).trans (hcell 1 (tx F.name) (by decide) (by rw [e0];rfl))
      have g2:=(HW.out.cell (p:=⟨fb,o + k * 4 + 2,none⟩) hbW).trans (hcell 2 (tx (if t.sort = 69 then [] else F.kind.text)) (by decide) (by rw [e0];rfl))
      have g3:=(HW.out.cell (p:=⟨fb,o + k * 4 + 3,none⟩) hbW).trans (hcell 3 (tx F.given) (by decide) (by rw [e0];rfl))
      rw [Nat.add_zero] at g0
      have HFF:=hid hF
      clear hcell e0
      by_cases hg : (F.tag : Int) = g
      · have HR:=hid (show fieldI t g = some F by rw [← hF];exact fieldI_at hkx hno.out (by rw [hF];exact hg))
        have tg : ((F.tag : Int) == g) = true:=beq_iff_eq.2 hg
        obtain ⟨K,hK⟩ : ∃ K,(if t.sort = 69 then [] else F.kind.text) = K:=⟨_,rfl⟩
        rw [hK] at g2
        have HK:=hid hK
        clear hF hg hK
        go_wp2
        exact bodyPost_ret (v:=.tuple #[.agg #[.int .i64 F.tag,tx F.name,tx K,tx F.given], .bool true]) (by simp [results,Try.results61,go_sem, *]) rfl ⟨by rw [HR.out,fldV,HK.out],by repeat (first | with_reducible exact Below.refl _ _ | with_reducible refine Below.drew ?_ | with_reducible refine Below.setCell ?_ (by simp) _ | with_reducible refine Below.alloc ?_ (by first | exact Nat.le_refl _ | simp) _)⟩
      · have tg : ((F.tag : Int) == g) = false:=beq_eq_false_iff_ne.2 hg
        have HG:=hid hg
        clear hF hg
        go_wp2
        go_round
        case rel => exact ⟨k + 1,by omega,by go_num,hid fun j hj hjk => by
          by_cases hj2 : j = k
          · subst hj2;rw [HFF.out];exact HG.out
          · exact hno.out j hj (by omega)⟩
        case measure => simp [RowKit.intOf];omega
    · have hkn : k = n:=by omega
      subst hkn
      have HR:=hid (show fieldI t g = none from fieldI_not fun j hj => hno.out j hj (by rw [← HN.out];exact hj))
      go_wp2
      exact bodyPost_ret (v:=.tuple #[.agg #[.int .i64 0,tx [],tx [],tx []], .bool false]) (by simp [results,Try.results61,go_sem, *]) rfl ⟨by rw [HR.out,fldV],by repeat (first | with_reducible exact Below.refl _ _ | with_reducible refine Below.drew ?_ | with_reducible refine Below.setCell ?_ (by simp) _ | with_reducible refine Below.alloc ?_ (by first | exact Nat.le_refl _ | simp) _)⟩
end Go.Proofs.Ytidjpalnmnehmaa

namespace Go.Proofs.Ytidjpalnmnehmaa
open Go.ChangeShapes Go.WideShapes Go.ChangeAt Go.RowKit Go.Lib
set_option linter.unusedVariables false
set_option linter.unusedSimpArgs false
theorem tw_in {p : UInt8 → Bool} : ∀ {l : List UInt8} {i : Nat},i < (l.takeWhile p).length → ∃ c,l[i]? = some c ∧ p c = true:=by
  intro l
  induction l with
  | nil => intro i h;simp at h
  | cons a l ih =>
    intro i h
    by_cases ha : p a = true
    · rw [List.takeWhile_cons_of_pos ha] at h
      cases i with
      | zero => exact ⟨a,rfl,ha⟩
      | succ i => exact ih (by simpa using h)
    · rw [List.takeWhile_cons_of_neg ha] at h;simp at h
theorem tw_at {p : UInt8 → Bool} : ∀ {l : List UInt8} {c : UInt8},l[(l.takeWhile p).length]? = some c → p c = false:=by
  intro l
  induction l with
  | nil => intro c h;simp at h
  | cons a l ih =>
    intro c h
    by_cases ha : p a = true
    · rw [List.takeWhile_cons_of_pos ha] at h
      exact ih (by simpa using h)
    · rw [List.takeWhile_cons_of_neg ha] at h
      simp at h
      subst h
      simpa using ha
theorem tw_le (p : UInt8 → Bool) (l : List UInt8) : (l.takeWhile p).length ≤ l.length:=(List.takeWhile_prefix p).length_le
theorem tw_take (p : UInt8 → Bool) (l : List UInt8) : l.take (l.takeWhile p).length = l.takeWhile p:=(List.prefix_iff_eq_take.1 (List.takeWhile_prefix p)).symm
theorem tw_drop (p : UInt8 → Bool) (l : List UInt8) : l.drop (l.takeWhile p).length = l.dropWhile p:=by
  have h:=List.takeWhile_append_dropWhile (p:=p) (l:=l)
  have h2 : (l.takeWhile p ++ l.dropWhile p).drop (l.takeWhile p).length = l.dropWhile p:=List.drop_left
  rw [h] at h2
  exact h2
set_option maxRecDepth 20000 in
set_option maxHeartbeats 1000000 in
theorem l4Digits (s : ByteArray) (w : World) (hs : s.size ≤ 1048576) : Calls Try.prog 56 #[.string s] w fun e w' => e = .returned (.int .i64 ((s.data.toList.takeWhile Wf.isDig).length : Nat)) ∧ w = w':=by
  obtain ⟨T,hT⟩ : ∃ T,(s.data.toList.takeWhile Wf.isDig).length = T:=⟨_,rfl⟩
  have hle : T ≤ s.size:=by rw [← hT,← size_list];exact tw_le _ _
  have HIN:=hid fun (i : Nat) (h : i < T) => (by rw [← hT] at h;exact tw_in h : ∃ c,s.data.toList[i]? = some c ∧ Wf.isDig c = true)
  have HAT:=hid fun (c : UInt8) (h : s.data.toList[T]? = some c) => (by rw [← hT] at h;exact tw_at h : Wf.isDig c = false)
  rw [hT]
  clear hT
  go_enter Try.func56,Try.ntmps56
  go_wp2_with fail
  go_loop [3] (fun v => ∃ i : Nat,i ≤ T ∧ v = .int .i64 i) (fun v => T - (RowKit.intOf v).toNat)
  case atStart => exact ⟨0,Nat.zero_le _,rfl⟩
  case round =>
    obtain ⟨i,hi,rfl⟩:=hrel
    by_cases hlt : i < T
    · have his : i < s.size:=by omega
      obtain ⟨c,hc,e1⟩:=byte_at s i his
      obtain ⟨c',hc',hd⟩:=HIN.out i hlt
      rw [hc] at hc'
      obtain rfl:=Option.some.inj hc'
      obtain ⟨b,hb⟩ : ∃ b,c.toNat = b:=⟨_,rfl⟩
      rw [hb] at e1
      have h1 : 48 ≤ b:=by simp [Wf.isDig] at hd;omega
      have h2 : b ≤ 57:=by simp [Wf.isDig] at hd;omega
      clear hc hc' hd hb
      go_wp2_with fail
      go_round
      case rel => exact ⟨i + 1,by omega,by go_num⟩
      case measure => simp [RowKit.intOf];omega
    · have hiT : i = T:=by omega
      subst hiT
      by_cases his : i < s.size
      · obtain ⟨c,hc,e1⟩:=byte_at s i his
        have hd:=HAT.out c hc
        obtain ⟨b,hb⟩ : ∃ b,c.toNat = b:=⟨_,rfl⟩
        rw [hb] at e1
        by_cases h1 : 48 ≤ b
        · have h2 : 57 < b:=by
            simp [Wf.isDig] at hd
            omega
          clear hc hd hb
          go_wp2_with fail
          go_ret
          exact ⟨rfl,rfl⟩
        · have h2 : b < 48:=by omega
          clear hc hd hb h1
          go_wp2_with fail
          go_ret
          exact ⟨rfl,rfl⟩
      · go_wp2_with fail
        go_ret
        exact ⟨rfl,rfl⟩
theorem sl_pre (S : ByteArray) (T : Nat) (h : T ≤ S.size) : ∀ wz,(Instr.slice 9 (.string S) none (some (.int .i64 T)) none).run Try.prog wz = .ok (.string (S.extract 0 T)) wz:=fun wz => by
  have:=run_slice_string_h (P:=Try.prog) wz 9 S Try.underlying9 .i64 (T : Int) (by omega) (by omega)
  rw [this,Int.toNat_natCast]
theorem sl_suf (S : ByteArray) (T : Nat) (h : T ≤ S.size) : ∀ wz,(Instr.slice 9 (.string S) (some (.int .i64 T)) none none).run Try.prog wz = .ok (.string (S.extract T S.size)) wz:=fun wz => by
  have:=run_slice_string_l (P:=Try.prog) wz 9 S Try.underlying9 .i64 (T : Int) (by omega) (by omega)
  rw [this,Int.toNat_natCast]
theorem pre_list (S : ByteArray) (p : UInt8 → Bool) : (S.extract 0 (S.data.toList.takeWhile p).length).data.toList = S.data.toList.takeWhile p:=by
  rw [ext_list,List.drop_zero,Nat.sub_zero,tw_take]
theorem suf_list (S : ByteArray) (T : Nat) : (S.extract T S.size).data.toList = S.data.toList.drop T:=by
  rw [ext_list,List.take_of_length_le (by rw [List.length_drop,size_list];exact Nat.le_refl _)]
structure ZeroF (wr : World) (b : Nat) : Prop where
  lt : b < wr.heap.size
  r0 : wr.cell? ⟨b,0,none⟩ = some (.int .i64 0)
  r1 : wr.cell? ⟨b,1,none⟩ = some (.string ⟨#[]⟩)
  r2 : wr.cell? ⟨b,2,none⟩ = some (.string ⟨#[]⟩)
  r3 : wr.cell? ⟨b,3,none⟩ = some (.string ⟨#[]⟩)
  f0 : wr.frozen? ⟨b,0,none⟩ = false
  f1 : wr.frozen? ⟨b,1,none⟩ = false
  f2 : wr.frozen? ⟨b,2,none⟩ = false
  f3 : wr.frozen? ⟨b,3,none⟩ = false
theorem ZeroF.below {wr w2 : World} {b B : Nat} (h : ZeroF wr b) (hb : Below B wr w2) (hr : b < B) : ZeroF w2 b:=by
  have h1:=hb.block b hr
  have cd:=fun o => World.cell?_of_block (w:=wr) (w':=w2) (a:=⟨b,o,none⟩) h1
  have cf:=fun o => World.frozen?_of_block (w:=wr) (w':=w2) (a:=⟨b,o,none⟩) h1
  exact ⟨Nat.lt_of_lt_of_le h.lt hb.size,(cd 0).trans h.r0,(cd 1).trans h.r1,(cd 2).trans h.r2,(cd 3).trans h.r3,(cf 0).trans h.f0,(cf 1).trans h.f1,(cf 2).trans h.f2,(cf 3).trans h.f3⟩
theorem start_tag (w : World) (v : Value) (q n c : Nat) (N : ByteArray) (fa : Option Addr) (W1 : World) (hW1 : ((w.alloc (.cells #[v] 65)).alloc (.cells #[.int .u8 q, .string N, .slice fa n c] 78)).alloc (.cells #[.int .i64 0, .string ⟨#[]⟩, .string ⟨#[]⟩, .string ⟨#[]⟩] 85) = W1) :
    W1.cell? ⟨w.heap.size + 1,0,none⟩ = some (.int .u8 q) ∧ W1.cell? ⟨w.heap.size + 1,1,none⟩ = some (.string N) ∧ W1.cell? ⟨w.heap.size + 1,2,none⟩ = some (.slice fa n c) ∧ ZeroF W1 (w.heap.size + 1 + 1) ∧ Below w.heap.size w W1:=by
  have hB : Below w.heap.size w W1:=by
    rw [← hW1]
    exact ((((Below.refl _ _).alloc (Nat.le_refl _) _).alloc (by simp) _).alloc (by simp;omega) _)
  subst hW1
  refine ⟨?_, ?_, ?_,⟨?_, ?_, ?_, ?_, ?_, ?_, ?_, ?_, ?_⟩,hB⟩
  all_goals first | (simp [go_sem];done) | (simp [go_sem];omega)
def tagF (t : Wf.Ty) (s : List UInt8) : Option Wf.Fd:=(Wf.plainN (s.takeWhile Wf.isDig) 200).bind t.field
def TagOut (t : Wf.Ty) (s : List UInt8) (e : Ending) : Prop:=match tagF t s with
  | some f => e = .returned (.tuple #[.agg #[.int .i64 f.tag,tx f.name,tx (if t.sort = 69 then [] else f.kind.text),tx f.given],tx (s.dropWhile Wf.isDig), .bool true])
  | none => ∃ (m : Int) (a b c : ByteArray),e = .returned (.tuple #[.agg #[.int .i64 m, .string a, .string b, .string c],tx (s.dropWhile Wf.isDig), .bool false])
set_option maxRecDepth 20000 in
set_option maxHeartbeats 1000000 in
theorem tag_w (v : Value) (S : ByteArray) (hS : S.size ≤ 1048576) (q n c : Nat) (N : ByteArray) (fa : Option Addr) (m g' : Int) (A B C : ByteArray) (b1 b2 : Bool) (w : World)
    (hnum : ∀ wz,Calls Try.prog 32 #[.string (S.extract 0 (S.data.toList.takeWhile Wf.isDig).length), .int .i64 200] wz fun e w' => e = .returned (.tuple #[.int .i64 m, .bool b1]) ∧ Below wz.heap.size wz w')
    (hfld : ∀ wz,Below w.heap.size w wz → Calls Try.prog 61 #[.agg #[.int .u8 q, .string N, .slice fa n c], .int .i64 m] wz fun e w' => e = .returned (.tuple #[.agg #[.int .i64 g', .string A, .string B, .string C], .bool b2]) ∧ Below wz.heap.size wz w') :
    Calls Try.prog 55 #[.agg #[v], .string S, .agg #[.int .u8 q, .string N, .slice fa n c]] w fun e w' => e = .returned (.tuple #[.agg #[.int .i64 g', .string A, .string B, .string C],tx (S.data.toList.dropWhile Wf.isDig), .bool (b1 && b2)]) ∧ Below w.heap.size w w':=by
  have HDG:=hid fun wz => l4Digits S wz hS
  obtain ⟨T,hT⟩ : ∃ T,(S.data.toList.takeWhile Wf.isDig).length = T:=⟨_,rfl⟩
  have hle : T ≤ S.size:=by rw [← hT,← size_list];exact tw_le _ _
  have k1:=sl_pre S T hle
  have k2:=sl_suf S T hle
  have HR:=hid (show (⟨(S.data.toList.dropWhile Wf.isDig).toArray⟩ : ByteArray) = S.extract T S.size by rw [eq_list,suf_list,← hT,tw_drop])
  rw [hT] at hnum HDG
  have HNUM:=hid hnum
  have HFLD:=hid hfld
  have ST:=hid fun W1 h => start_tag w v q n c N fa W1 h
  clear hnum hfld hT
  cases b1 <;> cases b2
  all_goals
    go_enter Try.func55,Try.ntmps55
    go_wp2_with (first | (go_at_call 61;refine (HFLD.out _ B2.out).mono ?_;rintro e w3 ⟨rfl,hb3⟩;have B3:=hid (B2.out.trans (hb3.mono B2.out.size));obtain ⟨zl,zr0,zr1,zr2,zr3,zf0,zf1,zf2,zf3⟩:=Z2.out.below hb3 Z2.out.lt;clear hb3) | (go_at_call 32;obtain ⟨t0,t1,t2,z0,b0⟩:=ST.out _ rfl;refine (HNUM.out _).mono ?_;rintro e w2 ⟨rfl,hb2⟩;have hlt1:=Nat.lt_of_lt_of_le (Nat.lt_succ_self _) (Nat.le_of_lt z0.lt);have u0:=(hb2.cell (p:=⟨w.heap.size + 1,0,none⟩) hlt1).trans t0;have u1:=(hb2.cell (p:=⟨w.heap.size + 1,1,none⟩) hlt1).trans t1;have u2:=(hb2.cell (p:=⟨w.heap.size + 1,2,none⟩) hlt1).trans t2;have hl2:=Nat.lt_of_lt_of_le hlt1 hb2.size;have B2:=hid (below_join b0 hb2);have Z2:=hid (z0.below hb2 z0.lt);clear hb2 t0 t1 t2 z0 b0 hlt1) | (go_at_call 56;refine (HDG.out _).mono ?_;rintro e w1 ⟨rfl,rfl⟩))
    go_region
    all_goals (go_wp2_with fail)
    all_goals first | exact bodyPost_ret (v:=.tuple #[.agg #[.int .i64 g', .string A, .string B, .string C], .string (S.extract T S.size), .bool false]) (by simp [results,Try.results55,go_sem, *]) rfl ⟨by rw [← HR.out];rfl,by have BB:=B3.out;have hB:=BB.size;repeat (first | with_reducible exact BB | with_reducible refine Below.drew ?_ | with_reducible refine Below.setCell ?_ (by first | (simp;done) | (simp;omega)) _ | with_reducible refine Below.alloc ?_ (by first | exact BB.size | (simp;omega)) _)⟩ | exact bodyPost_ret (v:=.tuple #[.agg #[.int .i64 g', .string A, .string B, .string C], .string (S.extract T S.size), .bool true]) (by simp [results,Try.results55,go_sem, *]) rfl ⟨by rw [← HR.out];rfl,by have BB:=B3.out;have hB:=BB.size;repeat (first | with_reducible exact BB | with_reducible refine Below.drew ?_ | with_reducible refine Below.setCell ?_ (by first | (simp;done) | (simp;omega)) _ | with_reducible refine Below.alloc ?_ (by first | exact BB.size | (simp;omega)) _)⟩
set_option maxRecDepth 20000 in
set_option maxHeartbeats 1000000 in
theorem tag_no (v : Value) (S : ByteArray) (hS : S.size ≤ 1048576) (q n c : Nat) (N : ByteArray) (fa : Option Addr) (w : World)
    (hnum : ∀ wz,Calls Try.prog 32 #[.string (S.extract 0 (S.data.toList.takeWhile Wf.isDig).length), .int .i64 200] wz fun e w' => (∃ m : Int,e = .returned (.tuple #[.int .i64 m, .bool false])) ∧ Below wz.heap.size wz w')
    (hfld : ∀ (m : Int) wz,Below w.heap.size w wz → Calls Try.prog 61 #[.agg #[.int .u8 q, .string N, .slice fa n c], .int .i64 m] wz fun e w' => (∃ (g' : Int) (A B C : ByteArray) (b2 : Bool),e = .returned (.tuple #[.agg #[.int .i64 g', .string A, .string B, .string C], .bool b2])) ∧ Below wz.heap.size wz w') :
    Calls Try.prog 55 #[.agg #[v], .string S, .agg #[.int .u8 q, .string N, .slice fa n c]] w fun e w' => (∃ (g' : Int) (A B C : ByteArray),e = .returned (.tuple #[.agg #[.int .i64 g', .string A, .string B, .string C],tx (S.data.toList.dropWhile Wf.isDig), .bool false])) ∧ Below w.heap.size w w':=by
  have HDG:=hid fun wz => l4Digits S wz hS
  obtain ⟨T,hT⟩ : ∃ T,(S.data.toList.takeWhile Wf.isDig).length = T:=⟨_,rfl⟩
  have hle : T ≤ S.size:=by rw [← hT,← size_list];exact tw_le _ _
  have k1:=sl_pre S T hle
  have k2:=sl_suf S T hle
  have HR:=hid (show (⟨(S.data.toList.dropWhile Wf.isDig).toArray⟩ : ByteArray) = S.extract T S.size by rw [eq_list,suf_list,← hT,tw_drop])
  rw [hT] at hnum HDG
  have HNUM:=hid hnum
  have HFLD:=hid hfld
  have ST:=hid fun W1 h => start_tag w v q n c N fa W1 h
  clear hnum hfld hT
  go_enter Try.func55,Try.ntmps55
  go_wp2_with (first | (go_at_call 61;refine (HFLD.out _ _ B2.out).mono ?_;rintro e w3 ⟨⟨g',A,B,C,b2,rfl⟩,hb3⟩;have B3:=hid (B2.out.trans (hb3.mono B2.out.size));obtain ⟨zl,zr0,zr1,zr2,zr3,zf0,zf1,zf2,zf3⟩:=Z2.out.below hb3 Z2.out.lt;clear hb3) | (go_at_call 32;obtain ⟨t0,t1,t2,z0,b0⟩:=ST.out _ rfl;refine (HNUM.out _).mono ?_;rintro e w2 ⟨⟨m,rfl⟩,hb2⟩;have hlt1:=Nat.lt_of_lt_of_le (Nat.lt_succ_self _) (Nat.le_of_lt z0.lt);have u0:=(hb2.cell (p:=⟨w.heap.size + 1,0,none⟩) hlt1).trans t0;have u1:=(hb2.cell (p:=⟨w.heap.size + 1,1,none⟩) hlt1).trans t1;have u2:=(hb2.cell (p:=⟨w.heap.size + 1,2,none⟩) hlt1).trans t2;have hl2:=Nat.lt_of_lt_of_le hlt1 hb2.size;have B2:=hid (below_join b0 hb2);have Z2:=hid (z0.below hb2 z0.lt);clear hb2 t0 t1 t2 z0 b0 hlt1) | (go_at_call 56;refine (HDG.out _).mono ?_;rintro e w1 ⟨rfl,rfl⟩))
  go_region
  all_goals (go_wp2_with fail)
  all_goals exact bodyPost_ret (v:=.tuple #[.agg #[.int .i64 g', .string A, .string B, .string C], .string (S.extract T S.size), .bool false]) (by simp [results,Try.results55,go_sem, *]) rfl ⟨⟨g',A,B,C,by rw [← HR.out]⟩,by have BB:=B3.out;have hB:=BB.size;repeat (first | with_reducible exact BB | with_reducible refine Below.drew ?_ | with_reducible refine Below.setCell ?_ (by first | (simp;done) | (simp;omega)) _ | with_reducible refine Below.alloc ?_ (by first | exact BB.size | (simp;omega)) _)⟩
theorem l4tag (t : Wf.Ty) (ht : t.fields.length ≤ 1000) (v : Value) (S : ByteArray) (hS : S.size ≤ 1048576) (fb c : Nat) (fa : Option Addr) (W w : World) (hW : Below W.heap.size W w) (H : RowK W fb (.slice fa t.fields.length c) 4 (t.fields.map (fdS t.sort))) :
    Calls Try.prog 55 #[.agg #[v], .string S, .agg #[.int .u8 t.sort.toNat,tx t.name, .slice fa t.fields.length c]] w fun e w' => TagOut t S.data.toList e ∧ Below w.heap.size w w':=by
  have hle : (S.extract 0 (S.data.toList.takeWhile Wf.isDig).length).size ≤ 9223372036854775807:=by rw [ByteArray.size_extract];omega
  have hnum:=fun wz => l3Num (S.extract 0 (S.data.toList.takeWhile Wf.isDig).length) 200 (by omega) wz hle
  rw [pre_list] at hnum
  have hf:=fun (g : Int) (wz : World) (hz : Below w.heap.size w wz) => l3field t ht g t.sort.toNat ⟨t.name.toArray⟩ fb fa c W wz (hW.trans (hz.mono hW.size)) H
  cases hp : Wf.plainN (S.data.toList.takeWhile Wf.isDig) 200 with
  | none =>
    refine (tag_no v S hS t.sort.toNat t.fields.length c ⟨t.name.toArray⟩ fa w (fun wz => (hnum wz).mono fun e w' ⟨h1,h2⟩ => ⟨by unfold NumOut at h1;rw [hp] at h1;exact h1,h2⟩) (fun m wz hz => (hf m wz hz).mono fun e w' ⟨h1,h2⟩ => ⟨?_,h2⟩)).mono fun e w' ⟨h1,h2⟩ => ⟨?_,h2⟩
    · rw [h1]
      cases fieldI t m with
      | none => exact ⟨_,_,_,_,_,rfl⟩
      | some f => exact ⟨_,_,_,_,_,rfl⟩
    · unfold TagOut tagF
      rw [hp]
      exact h1
  | some g =>
    have h1 : ∀ wz,Calls Try.prog 32 #[.string (S.extract 0 (S.data.toList.takeWhile Wf.isDig).length), .int .i64 200] wz fun e w' => e = .returned (.tuple #[.int .i64 g, .bool true]) ∧ Below wz.heap.size wz w':=fun wz => (hnum wz).mono fun e w' ⟨h1,h2⟩ => ⟨by unfold NumOut at h1;rw [hp] at h1;exact h1,h2⟩
    cases hg : t.field g with
    | none =>
      refine (tag_w v S hS t.sort.toNat t.fields.length c ⟨t.name.toArray⟩ fa g 0 ⟨#[]⟩ ⟨#[]⟩ ⟨#[]⟩ true false w h1 (fun wz hz => (hf g wz hz).mono fun e w' ⟨h3,h4⟩ => ⟨by rw [h3,fieldI_nat,hg];rfl,h4⟩)).mono fun e w' ⟨h5,h6⟩ => ⟨?_,h6⟩
      unfold TagOut tagF
      rw [hp,h5]
      simp only [Option.bind_some,hg]
      exact ⟨_,_,_,_,rfl⟩
    | some f =>
      refine (tag_w v S hS t.sort.toNat t.fields.length c ⟨t.name.toArray⟩ fa g f.tag ⟨f.name.toArray⟩ ⟨(if t.sort = 69 then [] else f.kind.text).toArray⟩ ⟨f.given.toArray⟩ true true w h1 (fun wz hz => (hf g wz hz).mono fun e w' ⟨h3,h4⟩ => ⟨by rw [h3,fieldI_nat,hg];rfl,h4⟩)).mono fun e w' ⟨h5,h6⟩ => ⟨?_,h6⟩
      unfold TagOut tagF
      rw [hp,h5]
      simp only [Option.bind_some,hg]
      rfl
end Go.Proofs.Ytidjpalnmnehmaa
