/- Packed by pack.py: Rj Lx Sp Sr Se Sv Sw. -/
import Derived.Test.YtidjpalnmnehmaaF4
import Derived.Test.YtidjpalnmnehmaaF8
import Derived.Test.YtidjpalnmnehmaaF14
import Derived.Test.YtidjpalnmnehmaaF1
import Derived.Deep.QuietTactic
namespace Go.Proofs.Ytidjpalnmnehmaa
open Go.ChangeShapes Go.WideShapes Go.ChangeAt Go.RowKit Go.Lib
set_option linter.unusedVariables false
theorem eq_arr (s : ByteArray) (l : List UInt8) (h : s.data.toList = l) : s = ⟨l.toArray⟩:=by rw [← h]

theorem eqAt_mk {s : ByteArray} {p : Nat} (hp : p ≤ s.size) (h1 : ∀ i c,i < p → s.data.toList[i]? = some c → c ≠ 61) (h2 : ∀ c,s.data.toList[p]? = some c → c = 61) : EqAt s p:=by
  have get : ∀ i (h : i < s.size),s.data.toList[i]? = some (s[i]'h):=fun i h => by rw [Array.getElem?_toList,Array.getElem?_eq_getElem (by exact h)];rfl
  refine ⟨hp,fun i hi h => ?_,fun h => ?_⟩
  · have:=h1 i _ hi (get i h)
    rw [bne_iff_ne]
    intro e
    exact this (UInt8.toNat_inj.1 (by have : (s[i]'h).toNat = 61:=(by omega);rw [this];rfl))
  · have:=h2 _ (get p h)
    rw [this];rfl
def RtOut (l : List UInt8) (w : World) (e : Ending) (w' : World) : Prop:=match Wf.lineTy l with
  | some t => ∃ fb a c,e = .returned (.tuple #[.agg #[.int .u8 t.sort.toNat,tx t.name, .slice a t.fields.length c], .bool true]) ∧ w.heap.size ≤ fb ∧ RowK w' fb (.slice a t.fields.length c) 4 (t.fields.map (fdS t.sort))
  | none => ∃ (q : Nat) (b : ByteArray) (a : Option Addr) (n c : Nat),e = .returned (.tuple #[.agg #[.int .u8 q, .string b, .slice a n c], .bool false])
theorem rtOut_none {l : List UInt8} {w w' : World} {e : Ending} (h : Wf.lineTy l = none) (he : ∃ (q : Nat) (b : ByteArray) (a : Option Addr) (n c : Nat),e = .returned (.tuple #[.agg #[.int .u8 q, .string b, .slice a n c], .bool false])) : RtOut l w e w':=by
  unfold RtOut;rw [h];exact he
theorem rtOut_some {l : List UInt8} {w w' : World} {e : Ending} {t : Wf.Ty} (h : Wf.lineTy l = some t) (he : ∃ fb a c,e = .returned (.tuple #[.agg #[.int .u8 t.sort.toNat,tx t.name, .slice a t.fields.length c], .bool true]) ∧ w.heap.size ≤ fb ∧ RowK w' fb (.slice a t.fields.length c) 4 (t.fields.map (fdS t.sort))) : RtOut l w e w':=by
  unfold RtOut;rw [h];exact he
theorem mem_get {l : List UInt8} {i : Nat} {c x : UInt8} (h : l[i]? = some c) (hx : x ∉ l) : c ≠ x:=fun e => hx (e ▸ List.mem_of_getElem? h)
theorem rowK_nil (w : World) (b k : Nat) (a : Option Addr) (c : Nat) (hc : c ≤ maxLen) : RowK w b (.slice a 0 c) k []:=⟨a,c,rfl,Nat.zero_le _,hc, .inl rfl⟩
theorem l3ReadType (s : ByteArray) (w : World) (hs : s.size ≤ 1000000) : Calls Try.prog 49 #[.string s] w fun e w' => RtOut s.data.toList w e w' ∧ Below w.heap.size w w':=by
  have hl:=size_list s
  have zero : ∀ (H : Wf.lineTy s.data.toList = none) e w',e = .returned (.tuple #[.agg #[.int .u8 0,tx [], .slice none 0 0], .bool false]) → RtOut s.data.toList w e w':=fun H e w' he => rtOut_none H ⟨0,_,_,_,_,he⟩
  cases hd : s.data.toList with
  | nil =>
    rw [hd] at zero
    have h0 : s.size = 0:=by rw [← hl,hd];rfl
    exact (rt_none s w hs 0 (eqAt_mk (by omega) (fun i c hi => by omega) (fun c h => by rw [hd] at h;simp at h)) (by omega)).mono fun e w' ⟨he,hb⟩ => ⟨zero rfl e w' he,hb⟩
  | cons c r =>
    rw [hd] at zero hl
    have hlr : r.length + 1 = s.size:=by rw [← hl];rfl
    by_cases h61 : c = 61
    · have hE : EqAt s 0:=eqAt_mk (by omega) (fun i c hi => by omega) (fun x h => by rw [hd] at h;simp at h;rw [← h];exact h61)
      exact (rt_first s w hs 0 hE (by decide) (by omega)).mono fun e w' ⟨he,hb⟩ => ⟨zero (by subst h61;rfl) e w' he,hb⟩
    · cases hc : (Wf.cut1 61 r).2.2 with
      | false =>
        have hno:=(Wf.cut1_false hc).2.2.1
        have hE : EqAt s s.size:=eqAt_mk (Nat.le_refl _) (fun i x hi h => by
          rw [hd] at h
          cases i with
          | zero => simp at h;rw [← h];exact h61
          | succ i => exact mem_get (by simpa using h) hno) (fun x h => by rw [List.getElem?_eq_none (by rw [hd,hl];exact Nat.le_refl _)] at h;cases h)
        refine (rt_none s w hs _ hE (Nat.le_refl _)).mono fun e w' ⟨he,hb⟩ => ⟨zero ?_ e w' he,hb⟩
        unfold Wf.lineTy
        by_cases hq : c ≠ 82 ∧ c ≠ 85 ∧ c ≠ 69
        · exact if_pos hq
        · dsimp only
          rw [if_neg hq,if_pos (.inl hc)]
      | true =>
        obtain ⟨hr,hno,_⟩:=Wf.cut1_true hc
        obtain ⟨nm,hnm⟩ : ∃ nm,(Wf.cut1 61 r).1 = nm:=⟨_,rfl⟩
        obtain ⟨rs,hrs⟩ : ∃ rs,(Wf.cut1 61 r).2.1 = rs:=⟨_,rfl⟩
        rw [hnm,hrs] at hr
        rw [hnm] at hno
        have hlen : nm.length + rs.length + 2 = s.size:=by rw [← hlr,hr,List.length_append,List.length_cons];omega
        obtain ⟨p,hp⟩ : ∃ p,nm.length + 1 = p:=⟨_,rfl⟩
        have hE : EqAt s p:=eqAt_mk (by omega) (fun i x hi h => by
          rw [hd,hr] at h
          cases i with
          | zero => simp at h;rw [← h];exact h61
          | succ i =>
            rw [List.getElem?_cons_succ,List.getElem?_append_left (by omega)] at h
            exact mem_get h hno) (fun x h => by
          rw [hd,hr,← hp,List.getElem?_cons_succ,List.getElem?_append_right (Nat.le_refl _),Nat.sub_self] at h
          simpa using h.symm)
        have hN : (s.extract 1 p).data.toList = nm:=by
          rw [ext_list,hd,List.drop_one,List.tail_cons,hr,show p - 1 = nm.length by omega,List.take_left' rfl]
        have hR : (s.extract (p + 1) s.size).data.toList = rs:=by
          rw [ext_list,hd,hr,List.drop_succ_cons,← hp,← List.drop_drop,List.drop_left' rfl,List.drop_one,List.tail_cons,List.take_of_length_le (by omega)]
        have hNx : s.extract 1 p = ⟨nm.toArray⟩:=eq_arr _ _ hN
        have hname : ∀ b,Wf.isName nm = b → ∀ w,Calls Try.prog 51 #[.string (s.extract 1 p)] w fun e w' => e = .returned (.bool b) ∧ w = w':=fun b hb w => by
          have:=l2Name (s.extract 1 p) w (by rw [ByteArray.size_extract];omega)
          rw [hN,hb] at this;exact this
        have e0 : ∀ h,(s[0]'h).toNat = c.toNat:=by
          obtain ⟨c',hc',e0⟩:=byte_at s 0 (by omega)
          rw [hd] at hc'
          have : c' = c:=by simpa using hc'.symm
          rw [this] at e0;exact e0
        have hT : Wf.lineTy (c :: r) = if c ≠ 82 ∧ c ≠ 85 ∧ c ≠ 69 then (none : Option Wf.Ty) else if Wf.isName nm = false then none else if rs = [] then (if c = 82 then some ⟨c,nm,[]⟩ else none) else
            match Wf.addFds c [] (Wf.cutAt 44 rs) with | none => none | some l => if l.length ≤ 8 then some ⟨c,nm,l⟩ else none:=by
          show (if c ≠ 82 ∧ c ≠ 85 ∧ c ≠ 69 then (none : Option Wf.Ty) else if (Wf.cut1 61 r).2.2 = false ∨ Wf.isName (Wf.cut1 61 r).1 = false then none else if (Wf.cut1 61 r).2.1 = [] then (if c = 82 then some ⟨c,(Wf.cut1 61 r).1,[]⟩ else none) else match Wf.addFds c [] (Wf.cutAt 44 (Wf.cut1 61 r).2.1) with | none => none | some l => if l.length ≤ 8 then some ⟨c,(Wf.cut1 61 r).1,l⟩ else none) = _
          rw [hc,hnm,hrs]
          simp
        cases hn : Wf.isName nm with
        | false =>
          refine (rt_noname s w hs p hE (by omega) (by omega) c.toNat e0 (hname false hn)).mono fun e w' ⟨he,hb⟩ => ⟨rtOut_none ?_ ⟨_,_,_,_,_,he⟩,hb⟩
          rw [hT]
          by_cases hq : c ≠ 82 ∧ c ≠ 85 ∧ c ≠ 69
          · rw [if_pos hq]
          · rw [if_neg hq,if_pos hn]
        | true =>
          have hnn:=hname true hn
          by_cases hq : c ≠ 82 ∧ c ≠ 85 ∧ c ≠ 69
          · have ne : ∀ x : UInt8,c ≠ x → (((c.toNat : Int) != (x.toNat : Int)) = true):=fun x h => by
              rw [bne_iff_ne];intro e;exact h (UInt8.toNat_inj.1 (by omega))
            refine (rt_nosort s w hs p hE (by omega) (by omega) c.toNat e0 hnn (ne 82 hq.1) (ne 85 hq.2.1) (ne 69 hq.2.2)).mono fun e w' ⟨he,hb⟩ => ⟨rtOut_none ?_ ⟨_,_,_,_,_,he⟩,hb⟩
            rw [hT,if_pos hq]
          · rw [if_neg hq,if_neg (by rw [hn];decide)] at hT
            by_cases hrs0 : rs = []
            · rw [if_pos hrs0] at hT
              have hem : (s.extract (p + 1) s.size).toList.isEmpty = true:=by rw [ByteArray.toList_eq,hR,hrs0];rfl
              by_cases h82 : c = 82
              · subst h82
                rw [if_pos rfl] at hT
                exact (rt_empty82 s w hs p hE (by omega) (by omega) e0 hnn hem).mono fun e w' ⟨he,hb⟩ => ⟨rtOut_some hT ⟨w.heap.size,none,0,by rw [he,hNx];rfl,Nat.le_refl _,rowK_nil _ _ _ _ _ (Nat.zero_le _)⟩,hb⟩
              · rw [if_neg h82] at hT
                by_cases h85 : c = 85
                · subst h85
                  exact (rt_empty85 s w hs p hE (by omega) (by omega) e0 hnn hem).mono fun e w' ⟨he,hb⟩ => ⟨rtOut_none hT ⟨_,_,_,_,_,he⟩,hb⟩
                · have h69 : c = 69:=Classical.byContradiction fun h => hq ⟨h82,h85,h⟩
                  subst h69
                  exact (rt_empty69 s w hs p hE (by omega) (by omega) e0 hnn hem).mono fun e w' ⟨he,hb⟩ => ⟨rtOut_none hT ⟨_,_,_,_,_,he⟩,hb⟩
            · rw [if_neg hrs0] at hT
              have hem : (s.extract (p + 1) s.size).toList.isEmpty = false:=by rw [ByteArray.toList_eq,hR];cases rs <;> simp_all
              have hcut : ∀ w,Calls Try.prog 48 #[.string (s.extract (p + 1) s.size), .int .u8 44] w fun e w' => CutOut w (Wf.cutAt 44 rs) e w':=fun w => by
                have:=l3Cut (s.extract (p + 1) s.size) 44 (by rw [ByteArray.size_extract];omega) w
                rw [hR] at this;exact this
              have hmem : ∀ x,x ∈ Wf.cutAt 44 rs → x.length ≤ 1000000:=fun x hx => by have:=cutAt_mem hx;omega
              have hpl : (Wf.cutAt 44 rs).length ≤ 1000001:=by have:=cutAt_len 44 rs;omega
              have hrf : ∀ q : UInt8,∀ x,x ∈ Wf.cutAt 44 rs → ∀ w,Calls Try.prog 58 #[tx x, .int .u8 q.toNat] w fun e w' => RfOut q x e ∧ Below w.heap.size w w':=fun q x hx w => l3ReadField ⟨x.toArray⟩ q w (by rw [tx_size];exact hmem x hx)
              have fin : ∀ e w',TyOut c (s.extract 1 p) (Wf.cutAt 44 rs) w e w' → RtOut (c :: r) w e w':=by
                intro e w' h
                unfold TyOut at h
                cases ha : Wf.addFds c [] (Wf.cutAt 44 rs) with
                | none => rw [ha] at h hT;obtain ⟨a,n,c',he⟩:=h;exact rtOut_none hT ⟨_,_,_,_,_,he⟩
                | some l =>
                  rw [ha] at h hT
                  obtain ⟨fb,a,c',he,h1,h2⟩:=h
                  dsimp only at hT
                  by_cases h8 : l.length ≤ 8
                  · rw [if_pos h8] at hT
                    rw [decide_eq_true h8,hNx] at he
                    exact rtOut_some hT ⟨fb,a,c',he,h1,h2⟩
                  · rw [if_neg h8] at hT
                    rw [decide_eq_false h8] at he
                    exact rtOut_none hT ⟨_,_,_,_,_,he⟩
              by_cases h82 : c = 82
              · subst h82
                exact (rt_fields s w hs p hE (by omega) (by omega) 82 82 rfl (.inl (by decide)) e0 hnn hem _ (by rw [hR]) hcut hmem hpl (hrf 82)).mono fun e w' ⟨he,hb⟩ => ⟨fin e w' he,hb⟩
              · by_cases h85 : c = 85
                · subst h85
                  exact (rt_fields s w hs p hE (by omega) (by omega) 85 85 rfl (.inr (.inl ⟨by decide,by decide⟩)) e0 hnn hem _ (by rw [hR]) hcut hmem hpl (hrf 85)).mono fun e w' ⟨he,hb⟩ => ⟨fin e w' he,hb⟩
                · have h69 : c = 69:=Classical.byContradiction fun h => hq ⟨h82,h85,h⟩
                  subst h69
                  exact (rt_fields s w hs p hE (by omega) (by omega) 69 69 rfl (.inr (.inr ⟨by decide,by decide,by decide⟩)) e0 hnn hem _ (by rw [hR]) hcut hmem hpl (hrf 69)).mono fun e w' ⟨he,hb⟩ => ⟨fin e w' he,hb⟩

def TySp (w : World) (lo : Nat) (cs : List Value) (t : Wf.Ty) : Prop:=∃ fb a c,cs = [.int .u8 t.sort.toNat,tx t.name, .slice a t.fields.length c] ∧ lo ≤ fb ∧ RowK w fb (.slice a t.fields.length c) 4 (t.fields.map (fdS t.sort))
theorem TySp.below {w w' : World} {lo : Nat} {cs : List Value} {t : Wf.Ty} (h : TySp w lo cs t) (hb : Below w.heap.size w w') : TySp w' lo cs t:=by
  obtain ⟨fb,a,c,h1,h0,h2⟩:=h
  exact ⟨fb,a,c,h1,h0,h2.below hb⟩
def ScSp (w : World) (lo b : Nat) (v : Value) (x : Wf.Sc) : Prop:=∃ cs : List (List Value),lo ≤ b ∧ RowK w b v 3 cs ∧ cs.length = x.length ∧ ∀ i (h : i < cs.length) (h' : i < x.length),TySp w lo cs[i] x[i]
theorem ScSp.below {w w' : World} {lo b : Nat} {v : Value} {x : Wf.Sc} (h : ScSp w lo b v x) (hb : Below w.heap.size w w') : ScSp w' lo b v x:=by
  obtain ⟨cs,h0,h1,h2,h3⟩:=h
  exact ⟨cs,h0,h1.below hb,h2,fun i hi hi' => (h3 i hi hi').below hb⟩
theorem ScSp.slice {w : World} {lo b : Nat} {v : Value} {x : Wf.Sc} (h : ScSp w lo b v x) : ∃ a c,v = .slice a x.length c ∧ x.length ≤ c ∧ c ≤ maxLen:=by
  obtain ⟨cs,_,⟨a,c,h1,h2,h3,_⟩,h4,_⟩:=h
  exact ⟨a,c,by rw [h1,h4],by omega,h3⟩
theorem ScSp.get {w : World} {lo b n : Nat} {a : Option Addr} {c : Nat} {x : Wf.Sc} (h : ScSp w lo b (.slice a n c) x) {k : Nat} (hk : k < x.length) : ∃ o fb fa fc,a = some ⟨b,o,none⟩ ∧ b < w.heap.size ∧ w.cell? ⟨b,o + k * 3,none⟩ = some (.int .u8 (x[k]).sort.toNat) ∧ w.cell? ⟨b,o + k * 3 + 1,none⟩ = some (tx (x[k]).name) ∧ w.cell? ⟨b,o + k * 3 + 2,none⟩ = some (.slice fa (x[k]).fields.length fc) ∧ RowK w fb (.slice fa (x[k]).fields.length fc) 4 ((x[k]).fields.map (fdS (x[k]).sort)) ∧ lo ≤ fb:=by
  obtain ⟨cs,_,⟨a',c',h1,h2,h3,h4⟩,h5,h6⟩:=h
  simp only [Value.slice.injEq] at h1
  obtain ⟨rfl,_,_⟩:=h1
  have hkc : k < cs.length:=by omega
  rcases h4 with h4 | ⟨o,g1,g2,g3⟩
  · rw [h4] at hkc;simp at hkc
  · obtain ⟨fb,fa,fc,e1,e0,e2⟩:=h6 k hkc hk
    exact ⟨o,fb,fa,fc,g1,g2,g3 k hkc 0 _ (by decide) (by rw [e1];rfl),g3 k hkc 1 _ (by decide) (by rw [e1];rfl),g3 k hkc 2 _ (by decide) (by rw [e1];rfl),e2,e0⟩
def FindOut (x : Wf.Sc) (nm : List UInt8) (W : World) (lo : Nat) (e : Ending) : Prop:=match x.find nm with
  | some t => ∃ fb a c,e = .returned (.tuple #[.agg #[.int .u8 t.sort.toNat,tx t.name, .slice a t.fields.length c], .bool true]) ∧ lo ≤ fb ∧ RowK W fb (.slice a t.fields.length c) 4 (t.fields.map (fdS t.sort))
  | none => e = .returned (.tuple #[.agg #[.int .u8 0,tx [], .slice none 0 0], .bool false])
theorem find_at {x : Wf.Sc} {nm : List UInt8} {k : Nat} (hk : k < x.length) (h0 : ∀ j (hj : j < x.length),j < k → (x[j]).name ≠ nm) (h1 : (x[k]).name = nm) : x.find nm = some x[k]:=by
  unfold Wf.Sc.find
  rw [List.find?_eq_some_iff_getElem]
  refine ⟨by simp [h1],k,hk,rfl,fun j hj => ?_⟩
  simpa using h0 j (by omega) hj
theorem find_not {x : Wf.Sc} {nm : List UInt8} (h0 : ∀ j (hj : j < x.length),(x[j]).name ≠ nm) : x.find nm = none:=by
  unfold Wf.Sc.find
  rw [List.find?_eq_none]
  intro t ht
  obtain ⟨j,hj,rfl⟩:=List.mem_iff_getElem.1 ht
  simpa using h0 j hj
set_option maxRecDepth 20000 in
set_option maxHeartbeats 1000000 in
theorem l3find (x : Wf.Sc) (lo b : Nat) (v : Value) (nm : ByteArray) (W w : World) (hW : Below W.heap.size W w) (hx8 : x.length ≤ 1000) (H : ScSp W lo b v x) : Calls Try.prog 40 #[v, .string nm] w fun e w' => FindOut x nm.data.toList W lo e ∧ Below w.heap.size w w':=by
  obtain ⟨a,c,rfl,hc1,hc2⟩:=H.slice
  have HX:=hid H
  obtain ⟨n,hn⟩ : ∃ n,x.length = n:=⟨_,rfl⟩
  have HN:=hid hn
  rw [hn] at HX hx8 hc1 ⊢
  clear H hn
  go_enter Try.func40,Try.ntmps40
  go_wp2
  go_loop [6] (fun i => ∃ k : Nat,k ≤ n ∧ i = .int .i64 k ∧ Hid (∀ j (hj : j < x.length),j < k → (x[j]).name ≠ nm.data.toList)) (fun i => n - (RowKit.intOf i).toNat)
  case atStart => exact ⟨0,Nat.zero_le _,rfl,hid fun j hj h => by omega⟩
  case round =>
    obtain ⟨k,hk,rfl,hno⟩:=hrel
    by_cases hlt : k < n
    · have hkx : k < x.length:=by rw [HN.out];exact hlt
      obtain ⟨o,fb,fa,fc,rfl,hbW,g0',g1',g2',hrow,hlo⟩:=HX.out.get hkx
      have hbw : b < w.heap.size:=Nat.lt_of_lt_of_le hbW hW.size
      have g0:=(hW.cell (p:=⟨b,o + k * 3,none⟩) hbW).trans g0'
      have g1:=(hW.cell (p:=⟨b,o + k * 3 + 1,none⟩) hbW).trans g1'
      have g2:=(hW.cell (p:=⟨b,o + k * 3 + 2,none⟩) hbW).trans g2'
      clear g0' g1' g2'
      obtain ⟨T,hT⟩ : ∃ T,x[k] = T:=⟨_,rfl⟩
      rw [hT] at g0 g1 g2 hrow
      obtain ⟨TN,hTN⟩ : ∃ TN : ByteArray,(⟨T.name.toArray⟩ : ByteArray) = TN:=⟨_,rfl⟩
      rw [tx,hTN] at g1
      have HROW:=hid hrow
      have HLO:=hid hlo
      have HT:=hid hT
      have HTN:=hid hTN
      have HEQ:=hid (show (TN.toList == nm.toList) = decide (T.name = nm.data.toList) by rw [← hTN,ByteArray.toList_eq,ByteArray.toList_eq,Bool.beq_eq_decide_eq])
      clear hrow hT hTN hlo
      cases hq : (TN.toList == nm.toList) with
      | false =>
        have hne : Hid (T.name ≠ nm.data.toList):=hid (of_decide_eq_false (by rw [← HEQ.out];exact hq))
        go_wp2
        go_round
        case rel => exact ⟨k + 1,by omega,by go_num,hid fun j hj hjk => by
          by_cases hj2 : j = k
          · subst hj2;rw [HT.out];exact hne.out
          · exact hno.out j hj (by omega)⟩
        case measure => simp [RowKit.intOf];omega
      | true =>
        have hye : Hid (T.name = nm.data.toList):=hid (of_decide_eq_true (by rw [← HEQ.out];exact hq))
        have HF:=hid (show x.find nm.data.toList = some T by rw [← HT.out];exact find_at hkx hno.out (by rw [HT.out];exact hye.out))
        go_wp2
        exact bodyPost_ret (v:=.tuple #[.agg #[.int .u8 T.sort.toNat, .string TN, .slice fa T.fields.length fc], .bool true]) (by simp [results,Try.results40,go_sem, *]) rfl ⟨by
          unfold FindOut
          rw [HF.out]
          refine ⟨fb,fa,fc,by rw [tx,HTN.out],HLO.out, ?_⟩
          exact HROW.out,by repeat (first | with_reducible exact Below.refl _ _ | with_reducible refine Below.drew ?_ | with_reducible refine Below.setCell ?_ (by simp) _ | with_reducible refine Below.alloc ?_ (by first | exact Nat.le_refl _ | simp) _)⟩
    · have hkn : k = n:=by omega
      subst hkn
      have HF:=hid (show x.find nm.data.toList = none from find_not fun j hj => hno.out j hj (by rw [← HN.out];exact hj))
      go_wp2
      exact bodyPost_ret (v:=.tuple #[.agg #[.int .u8 0,tx [], .slice none 0 0], .bool false]) (by simp [results,Try.results40,go_sem, *]) rfl ⟨by unfold FindOut;rw [HF.out],by repeat (first | with_reducible exact Below.refl _ _ | with_reducible refine Below.drew ?_ | with_reducible refine Below.setCell ?_ (by simp) _ | with_reducible refine Below.alloc ?_ (by first | exact Nat.le_refl _ | simp) _)⟩

def refT (x : Wf.Sc) : Wf.K → Option Wf.Ty
  | .ref nm => x.find nm
  | _ => none
def TyFound (o : Option Wf.Ty) (W : World) (lo : Nat) (e : Ending) : Prop:=match o with
  | some t => ∃ fb a c,e = .returned (.tuple #[.agg #[.int .u8 t.sort.toNat,tx t.name, .slice a t.fields.length c], .bool true]) ∧ lo ≤ fb ∧ RowK W fb (.slice a t.fields.length c) 4 (t.fields.map (fdS t.sort))
  | none => e = .returned (.tuple #[.agg #[.int .u8 0,tx [], .slice none 0 0], .bool false])
theorem refV_text (k : Wf.K) : (∃ nm,k = .ref nm ∧ refV k.text = .tuple #[tx nm, .bool true]) ∨ (refT [] k = none ∧ (∀ x,refT x k = none) ∧ refV k.text = .tuple #[tx [], .bool false]):=by
  cases k with
  | ref nm => exact .inl ⟨nm,rfl,by rw [Wf.K.text,refV,if_pos rfl,List.dropLast_concat]⟩
  | num => exact .inr ⟨rfl,fun _ => rfl,rfl⟩
  | txt => exact .inr ⟨rfl,fun _ => rfl,rfl⟩
  | flag => exact .inr ⟨rfl,fun _ => rfl,rfl⟩
  | list k => exact .inr ⟨rfl,fun _ => rfl,by rw [Wf.K.text,refV,if_neg (by decide)]⟩
  | opt k => exact .inr ⟨rfl,fun _ => rfl,by rw [Wf.K.text,refV,if_neg (by decide)]⟩
theorem l2Ref_text (k : Wf.K) (hk : k.text.length ≤ 1000000) (w : World) : Calls Try.prog 38 #[tx k.text] w fun e w' => e = .returned (refV k.text) ∧ w = w':=by
  refine ref_spec ⟨k.text.toArray⟩ w (by rw [tx_size];omega) ?_ ?_
  · rw [tx_size];exact List.length_pos_iff.2 (Wf.K.text_ne k)
  · intro h
    rw [tx_size]
    cases k with
    | ref nm => simp [Wf.K.text]
    | num => exact absurd h (by decide)
    | txt => exact absurd h (by decide)
    | flag => exact absurd h (by decide)
    | list k => exact absurd h (by simp [Wf.K.text])
    | opt k => exact absurd h (by simp [Wf.K.text])
set_option maxRecDepth 20000 in
set_option maxHeartbeats 1000000 in
theorem l3ref_no (v : Value) (kt : ByteArray) (w : World) (hr : ∀ w,Calls Try.prog 38 #[.string kt] w fun e w' => e = .returned (.tuple #[tx [], .bool false]) ∧ w = w') : Calls Try.prog 52 #[v, .string kt] w fun e w' => e = .returned (.tuple #[.agg #[.int .u8 0,tx [], .slice none 0 0], .bool false]) ∧ Below w.heap.size w w':=by
  have HR:=hid hr
  clear hr
  go_enter Try.func52,Try.ntmps52
  go_wp2_with (go_at_call 38;refine (HR.out _).mono ?_;rintro e w1 ⟨rfl,rfl⟩)
  exact bodyPost_ret (v:=.tuple #[.agg #[.int .u8 0,tx [], .slice none 0 0], .bool false]) (by simp [results,Try.results52,go_sem, *]) rfl ⟨rfl,by repeat (first | with_reducible exact Below.refl _ _ | with_reducible refine Below.drew ?_ | with_reducible refine Below.setCell ?_ (by simp) _ | with_reducible refine Below.alloc ?_ (by first | exact Nat.le_refl _ | simp) _)⟩
set_option maxRecDepth 20000 in
set_option maxHeartbeats 1000000 in
theorem l3ref_yes (x : Wf.Sc) (lo : Nat) (v : Value) (kt nm : ByteArray) (W w : World) (hr : ∀ w,Calls Try.prog 38 #[.string kt] w fun e w' => e = .returned (.tuple #[.string nm, .bool true]) ∧ w = w')
    (hf : ∀ w',Below w.heap.size w w' → Calls Try.prog 40 #[v, .string nm] w' fun e w2 => FindOut x nm.data.toList W lo e ∧ Below w'.heap.size w' w2) : Calls Try.prog 52 #[v, .string kt] w fun e w' => TyFound (x.find nm.data.toList) W lo e ∧ Below w.heap.size w w':=by
  have HR:=hid hr
  have HF:=hid (hf (w.alloc (.cells #[.int .u8 0,tx [], .slice none 0 0] 78)) ((Below.refl _ _).alloc (Nat.le_refl _) _))
  clear hr hf
  cases hx : x.find nm.data.toList with
  | none =>
    have HO:=hid fun e (h : FindOut x nm.data.toList W lo e) => (by unfold FindOut at h;rw [hx] at h;exact h : e = .returned (.tuple #[.agg #[.int .u8 0,tx [], .slice none 0 0], .bool false]))
    clear hx
    go_enter Try.func52,Try.ntmps52
    go_wp2_with (first | (go_at_call 38;refine (HR.out _).mono ?_;rintro e w1 ⟨rfl,rfl⟩) | (go_at_call 40;refine HF.out.mono ?_;rintro e w2 ⟨ho,hb⟩;obtain rfl:=HO.out e ho;obtain ⟨hc1,hc2⟩:=bcell hb;have hz : w.heap.size < w2.heap.size:=(by have:=hb.size;simp at this;omega);have B1 : Below w.heap.size w w2:=below_join ((Below.refl _ _).alloc (Nat.le_refl _) _) hb;clear ho))
    exact bodyPost_ret (v:=.tuple #[.agg #[.int .u8 0,tx [], .slice none 0 0], .bool false]) (by simp [results,Try.results52,go_sem, *]) rfl ⟨rfl,by repeat (first | with_reducible exact B1 | with_reducible refine Below.drew ?_ | with_reducible refine Below.setCell ?_ (by simp) _)⟩
  | some t =>
    have HO:=hid fun e (h : FindOut x nm.data.toList W lo e) => (by unfold FindOut at h;rw [hx] at h;exact h : ∃ fb a c,e = .returned (.tuple #[.agg #[.int .u8 t.sort.toNat,tx t.name, .slice a t.fields.length c], .bool true]) ∧ lo ≤ fb ∧ RowK W fb (.slice a t.fields.length c) 4 (t.fields.map (fdS t.sort)))
    clear hx
    go_enter Try.func52,Try.ntmps52
    go_wp2_with (first | (go_at_call 38;refine (HR.out _).mono ?_;rintro e w1 ⟨rfl,rfl⟩) | (go_at_call 40;refine HF.out.mono ?_;rintro e w2 ⟨ho,hb⟩;obtain ⟨fb,fa,fc,rfl,hlo,hrow⟩:=HO.out e ho;have HROW:=hid hrow;have HLO:=hid hlo;obtain ⟨hc1,hc2⟩:=bcell hb;have hz : w.heap.size < w2.heap.size:=(by have:=hb.size;simp at this;omega);have B1 : Below w.heap.size w w2:=below_join ((Below.refl _ _).alloc (Nat.le_refl _) _) hb;clear ho hrow hlo))
    exact bodyPost_ret (v:=.tuple #[.agg #[.int .u8 t.sort.toNat,tx t.name, .slice fa t.fields.length fc], .bool true]) (by simp [results,Try.results52,go_sem, *]) rfl ⟨⟨fb,fa,fc,rfl,HLO.out,HROW.out⟩,by repeat (first | with_reducible exact B1 | with_reducible refine Below.drew ?_ | with_reducible refine Below.setCell ?_ (by simp) _)⟩
theorem l3ref (x : Wf.Sc) (lo b : Nat) (v : Value) (k : Wf.K) (hk : k.text.length ≤ 1000000) (W w : World) (hW : Below W.heap.size W w) (hx8 : x.length ≤ 1000) (H : ScSp W lo b v x) : Calls Try.prog 52 #[v,tx k.text] w fun e w' => TyFound (refT x k) W lo e ∧ Below w.heap.size w w':=by
  rcases refV_text k with ⟨nm,rfl,hv⟩ | ⟨_,hn,hv⟩
  · refine l3ref_yes x lo v ⟨(Wf.K.ref nm).text.toArray⟩ ⟨nm.toArray⟩ W w (fun w => ?_) (fun w' hb => l3find x lo b v ⟨nm.toArray⟩ W w' (hW.trans (hb.mono hW.size)) hx8 H)
    have:=l2Ref_text (.ref nm) hk w
    rw [hv] at this;exact this
  · have hz:=l3ref_no v ⟨k.text.toArray⟩ w (fun w => by have:=l2Ref_text k hk w;rw [hv] at this;exact this)
    refine hz.mono fun e w' ⟨he,hb⟩ => ⟨?_,hb⟩
    rw [hn x];exact he

theorem RowK.get {w : World} {b n k : Nat} {a : Option Addr} {c : Nat} {es : List (List Value)} (h : RowK w b (.slice a n c) k es) {i : Nat} (hi : i < es.length) : ∃ o,a = some ⟨b,o,none⟩ ∧ b < w.heap.size ∧ n ≤ c ∧ c ≤ maxLen ∧ ∀ j u,j < k → es[i][j]? = some u → w.cell? ⟨b,o + i * k + j,none⟩ = some u:=by
  obtain ⟨a',c',h1,h2,h3,h4⟩:=h
  simp only [Value.slice.injEq] at h1
  obtain ⟨rfl,rfl,rfl⟩:=h1
  rcases h4 with h4 | ⟨o,g1,g2,g3⟩
  · rw [h4] at hi;simp at hi
  · exact ⟨o,g1,g2,h2,h3,g3 i hi⟩
def Good (t : Wf.Ty) : Prop:=(t.sort = 85 → t.fields ≠ []) ∧ ∀ f ∈ t.fields,f.kind.text.length ≤ 1000000
theorem ends_step {x : Wf.Sc} {m : Nat} {t : Wf.Ty} {f : Wf.Fd} {fs : List Wf.Fd} (h : t.sort = 85) (hf : t.fields = f :: fs) : Wf.endsIn x (m + 1) t = match refT x f.kind with | none => true | some u => Wf.endsIn x m u:=by
  rw [Wf.endsIn,if_neg (by rw [h];decide),hf]
  obtain ⟨tag,name,kind,given⟩:=f
  cases kind <;> rfl
theorem ends_no {x : Wf.Sc} {m : Nat} {t : Wf.Ty} (h : t.sort ≠ 85) : Wf.endsIn x (m + 1) t = true:=by rw [Wf.endsIn,if_pos h]
theorem refT_mem {x : Wf.Sc} {k : Wf.K} {u : Wf.Ty} (h : refT x k = some u) : u ∈ x:=by
  cases k with
  | ref nm => exact (Wf.find_mem h).1
  | _ => cases h
set_option maxRecDepth 20000 in
set_option maxHeartbeats 2000000 in
theorem l3ends (x : Wf.Sc) (lo b : Nat) (v : Value) (W w : World) (hW : Below W.heap.size W w) (hx8 : x.length ≤ 1000) (H : ScSp W lo b v x) (hx : ∀ u ∈ x,Good u) (t : Wf.Ty) (ht : Good t) (fb : Nat) (fa : Option Addr) (fc : Nat) (hr : RowK W fb (.slice fa t.fields.length fc) 4 (t.fields.map (fdS t.sort))) :
    Calls Try.prog 59 #[v, .agg #[.int .u8 t.sort.toNat,tx t.name, .slice fa t.fields.length fc]] w fun e w' => e = .returned (.bool (Wf.endsIn x (x.length + 1) t)) ∧ Below w.heap.size w w':=by
  obtain ⟨va,vc,rfl,hc1,hc2⟩:=H.slice
  have HX:=hid H
  have HG:=hid hx
  have HW:=hid hW
  obtain ⟨n,hn⟩ : ∃ n,x.length = n:=⟨_,rfl⟩
  have HN:=hid hn
  have HS : Hid (Wf.endsIn x (n + 1) t = Wf.endsIn x (n + 1 - 0) t ∧ RowK W fb (.slice fa t.fields.length fc) 4 (t.fields.map (fdS t.sort)) ∧ Good t):=hid ⟨rfl,hr,ht⟩
  rw [hn] at hx8 hc1 HX ⊢
  obtain ⟨E,hE⟩ : ∃ E,Wf.endsIn x (n + 1) t = E:=⟨_,rfl⟩
  rw [hE] at HS ⊢
  obtain ⟨q0,hq0⟩ : ∃ q0,t.sort.toNat = q0:=⟨_,rfl⟩
  obtain ⟨m0,hm0⟩ : ∃ m0,t.fields.length = m0:=⟨_,rfl⟩
  have HQ0:=hid hq0
  have HM0:=hid hm0
  rw [hq0,hm0]
  rw [hm0] at HS
  clear H hn hx hW hr ht hE hq0 hm0
  go_enter Try.func59,Try.ntmps59
  go_wp2
  go_loopw [5] (fun v5 wr => ∃ (k : Nat) (T : Wf.Ty) (q m : Nat) (N : ByteArray) (gb : Nat) (ga : Option Addr) (gc : Nat),v5 = .int .i64 k ∧ k ≤ n + 1 ∧ w.heap.size < wr.heap.size ∧ wr.cell? ⟨w.heap.size,0,none⟩ = some (.int .u8 q) ∧ wr.cell? ⟨w.heap.size,1,none⟩ = some (.string N) ∧ wr.cell? ⟨w.heap.size,2,none⟩ = some (.slice ga m gc) ∧ wr.frozen? ⟨w.heap.size,0,none⟩ = false ∧ wr.frozen? ⟨w.heap.size,1,none⟩ = false ∧ wr.frozen? ⟨w.heap.size,2,none⟩ = false ∧ Hid (T.sort.toNat = q) ∧ Hid (T.fields.length = m) ∧ Hid (E = Wf.endsIn x (n + 1 - k) T ∧ RowK W gb (.slice ga m gc) 4 (T.fields.map (fdS T.sort)) ∧ Good T) ∧ Hid (Below w.heap.size w wr)) (fun v5 _ => n + 1 - (RowKit.intOf v5).toNat)
  case atStart => exact ⟨0,t,q0,m0,⟨t.name.toArray⟩,fb,fa,fc,rfl,Nat.zero_le _,by simp,by simp,by simp,by simp,by simp,by simp,by simp,HQ0,HM0,HS,hid ((Below.refl _ _).alloc (Nat.le_refl _) _)⟩
  case round =>
    obtain ⟨k,T,q,m,N,gb,ga,gc,rfl,hk,hsz,c0,c1,c2,f0,f1,f2,hq,hm,hs,hb⟩:=hrel
    by_cases hlt : k < n + 1
    · have hlt2 : k ≤ n:=by omega
      by_cases h85 : q = 85
      · subst h85
        have h85t : T.sort = 85:=UInt8.toNat_inj.1 (by rw [hq.out];rfl)
        obtain ⟨f,fs,hfs⟩ : ∃ f fs,T.fields = f :: fs:=List.exists_cons_of_ne_nil (hs.out.2.2.1 h85t)
        have HST:=hid (ends_step (x:=x) (m:=n - k) h85t hfs)
        have hmlen : 0 < (T.fields.map (fdS T.sort)).length:=by rw [hfs];simp
        obtain ⟨go,hga,hgw,hgm,hgc,hcell⟩:=RowK.get hs.out.2.1 hmlen
        subst hga
        have hm1 : 1 ≤ m:=by rw [← hm.out,hfs];simp
        have e0 : (T.fields.map (fdS T.sort))[0]'hmlen = fdS T.sort f:=by simp [hfs]
        have g2':=hcell 2 (tx f.kind.text) (by decide) (by rw [e0,fdS,if_neg (by rw [h85t];decide)];rfl)
        have hgwr : gb < w.heap.size:=Nat.lt_of_lt_of_le hgw HW.out.size
        have g2 : wr.cell? ⟨gb,go + 2,none⟩ = some (tx f.kind.text):=by
          have h1:=(hb.out.cell (p:=⟨gb,go + 0 * 4 + 2,none⟩) hgwr).trans ((HW.out.cell (p:=⟨gb,go + 0 * 4 + 2,none⟩) hgw).trans g2')
          simpa using h1
        have HREF:=hid fun wz (hz : Below wr.heap.size wr wz) => l3ref x lo b (.slice va n vc) f.kind (hs.out.2.2.2 f (by rw [hfs];simp)) W wz ((HW.out.trans (hb.out.mono HW.out.size)).trans (hz.mono (Nat.le_trans HW.out.size hb.out.size))) (by rw [HN.out];exact hx8) HX.out
        obtain ⟨KT,hKT⟩ : ∃ KT : ByteArray,(⟨f.kind.text.toArray⟩ : ByteArray) = KT:=⟨_,rfl⟩
        rw [tx,hKT] at g2
        rw [tx,hKT] at HREF
        cases href : refT x f.kind with
        | none =>
          have HO:=hid fun e (h : TyFound (refT x f.kind) W lo e) => (by unfold TyFound at h;rw [href] at h;exact h : e = .returned (.tuple #[.agg #[.int .u8 0,tx [], .slice none 0 0], .bool false]))
          have HEND:=hid (show true = E by rw [hs.out.1,show n + 1 - k = (n - k) + 1 by omega,HST.out,href])
          clear href hcell e0 g2' hfs hKT
          go_wp2_with (go_at_call 52;refine (HREF.out _ (Below.refl _ _)).mono ?_;rintro e w3 ⟨ho,hb3⟩;obtain rfl:=HO.out e ho;obtain ⟨hc3,hc4⟩:=bcell hb3;have HB3:=hid hb3;clear ho hb3)
          go_ret
          exact ⟨ret_b HEND.out,by have B:=hb.out.trans (HB3.out.mono hb.out.size);repeat (first | with_reducible exact B | with_reducible refine Below.drew ?_ | with_reducible refine Below.setCell ?_ (by simp) _ | with_reducible refine Below.alloc ?_ (by first | exact B.size | (simp;omega)) _)⟩
        | some u =>
          have HO:=hid fun e (h : TyFound (refT x f.kind) W lo e) => (by unfold TyFound at h;rw [href] at h;exact h : ∃ fb a c,e = .returned (.tuple #[.agg #[.int .u8 u.sort.toNat,tx u.name, .slice a u.fields.length c], .bool true]) ∧ lo ≤ fb ∧ RowK W fb (.slice a u.fields.length c) 4 (u.fields.map (fdS u.sort)))
          have HEND:=hid (show E = Wf.endsIn x (n + 1 - (k + 1)) u by rw [hs.out.1,show n + 1 - k = (n - k) + 1 by omega,HST.out,href,show n + 1 - (k + 1) = n - k by omega])
          have HU:=hid (refT_mem href)
          clear href hcell e0 g2' hfs hKT
          go_wp2_with (go_at_call 52;refine (HREF.out _ (Below.refl _ _)).mono ?_;rintro e w3 ⟨ho,hb3⟩;obtain ⟨ub,ua,uc,rfl,_,hur⟩:=HO.out e ho;have HUR:=hid hur;obtain ⟨hc3,hc4⟩:=bcell hb3;have hz3 : w.heap.size < w3.heap.size:=Nat.lt_of_lt_of_le hsz hb3.size;have HB3:=hid hb3;clear ho hb3 hur)
          go_roundw
          case rel => exact ⟨k + 1,u,_,_,⟨u.name.toArray⟩,ub,ua,uc,by go_num,by omega,by simp;omega,by simp [go_sem, *],by simp [go_sem, *],by simp [go_sem, *],by simp [go_sem, *],by simp [go_sem, *],by simp [go_sem, *],hid rfl,hid rfl,hid ⟨HEND.out,HUR.out,HG.out u HU.out⟩,hid (by have B:=hb.out.trans (HB3.out.mono hb.out.size);repeat (first | with_reducible exact B | with_reducible refine Below.drew ?_ | with_reducible refine Below.setCell ?_ (by simp) _ | with_reducible refine Below.alloc ?_ (by first | exact B.size | (simp;omega)) _))⟩
          case measure => simp [RowKit.intOf];omega
      · have t85 : ((q : Int) != 85) = true:=by rw [bne_iff_ne];omega
        have HEND:=hid (show true = E by rw [hs.out.1,show n + 1 - k = (n - k) + 1 by omega,ends_no (fun h => h85 (by rw [← hq.out,h];rfl))])
        go_wp2_with fail
        go_ret
        exact ⟨ret_b HEND.out,hb.out⟩
    · have hkn : k = n + 1:=by omega
      subst hkn
      have HEND:=hid (show false = E by rw [hs.out.1,Nat.sub_self];rfl)
      go_wp2_with fail
      go_ret
      exact ⟨ret_b HEND.out,hb.out⟩

def validB (x : Wf.Sc) : Bool:=Wf.namesOk x && Wf.refsOk x && x.all (Wf.endsIn x (x.length + 1))
theorem valid_name {x : Wf.Sc} {i k : Nat} (hk : k < i) (hi : i < x.length) (h : (x[k]'(by omega)).name = (x[i]).name) : validB x = false:=by
  have : Wf.namesOk x = false:=by
    unfold Wf.namesOk
    refine decide_eq_false fun hp => ?_
    rw [List.pairwise_iff_getElem] at hp
    have:=hp k i (by rw [List.length_map];omega) (by rw [List.length_map];exact hi) hk
    rw [List.getElem_map,List.getElem_map] at this
    exact this h
  unfold validB;rw [this];rfl
theorem valid_ref {x : Wf.Sc} {i j : Nat} (hi : i < x.length) (hs : (x[i]).sort ≠ 69) (hj : j < (x[i]).fields.length) (h : Wf.hasRef x ((x[i]).fields[j]).kind = false) : validB x = false:=by
  have : Wf.refsOk x = false:=by
    unfold Wf.refsOk
    rw [List.all_eq_false]
    refine ⟨x[i],List.getElem_mem hi, ?_⟩
    rw [decide_eq_false hs,Bool.false_or]
    have : (x[i]).fields.all (fun f => Wf.hasRef x f.kind) = false:=by
      rw [List.all_eq_false];exact ⟨_,List.getElem_mem hj,by rw [h];decide⟩
    rw [this];decide
  unfold validB;rw [this,Bool.and_false];rfl
theorem valid_end {x : Wf.Sc} {i : Nat} (hi : i < x.length) (h : Wf.endsIn x (x.length + 1) x[i] = false) : validB x = false:=by
  have : x.all (Wf.endsIn x (x.length + 1)) = false:=by
    rw [List.all_eq_false];exact ⟨_,List.getElem_mem hi,by rw [h];decide⟩
  unfold validB;rw [this,Bool.and_false]
def Seen (x : Wf.Sc) (i : Nat) : Prop:=(∀ a b (hb : b < x.length) (hab : a < b),b < i → (x[a]'(by omega)).name ≠ (x[b]).name) ∧ ∀ a (ha : a < x.length),a < i → (x[a]).sort = 69 ∨ ∀ f ∈ (x[a]).fields,Wf.hasRef x f.kind = true
theorem valid_yes {x : Wf.Sc} (h : Seen x x.length) (he : ∀ a (ha : a < x.length),Wf.endsIn x (x.length + 1) x[a] = true) : validB x = true:=by
  obtain ⟨h1,h2⟩:=h
  have e1 : Wf.namesOk x = true:=by
    unfold Wf.namesOk
    refine decide_eq_true ?_
    rw [List.pairwise_iff_getElem]
    intro a b ha hb hab
    rw [List.length_map] at hb
    rw [List.getElem_map,List.getElem_map]
    exact h1 a b hb hab hb
  have e2 : Wf.refsOk x = true:=by
    unfold Wf.refsOk
    rw [List.all_eq_true]
    intro t ht
    obtain ⟨a,ha,rfl⟩:=List.mem_iff_getElem.1 ht
    rcases h2 a ha ha with h | h
    · rw [decide_eq_true h,Bool.true_or]
    · rw [Bool.or_eq_true];exact .inr (List.all_eq_true.2 h)
  have e3 : x.all (Wf.endsIn x (x.length + 1)) = true:=by
    rw [List.all_eq_true]
    intro t ht
    obtain ⟨a,ha,rfl⟩:=List.mem_iff_getElem.1 ht
    exact he a ha
  unfold validB;rw [e1,e2,e3];rfl
theorem has_core (x : Wf.Sc) (k : Wf.K) : (∃ nm,refV k.core.text = .tuple #[tx nm, .bool true] ∧ Wf.hasRef x k = (x.find nm).isSome) ∨ (refV k.core.text = .tuple #[tx [], .bool false] ∧ Wf.hasRef x k = true):=by
  obtain ⟨hb,hn⟩:=core_base k
  rcases core_plain k with ⟨nm,h⟩ | ⟨h1,h2⟩
  · refine .inl ⟨nm,by rw [h,Wf.K.text,refV,if_pos rfl,List.dropLast_concat], ?_⟩
    rw [h] at hb hn
    unfold Wf.hasRef
    rw [← hb,← hn]
    simp [Wf.K.base,Wf.K.name]
  · refine .inr ⟨?_, ?_⟩
    · cases hc : k.core.text with
      | nil => rfl
      | cons c r => rw [refV,if_neg (fun e => h1 (by rw [hc,e];rfl))]
    · unfold Wf.hasRef
      rw [← hb,decide_eq_true h2,Bool.true_or]
theorem l2Core_text (k : Wf.K) (hk : k.text.length ≤ 1000000) (w : World) : Calls Try.prog 39 #[tx k.text] w fun e w' => e = .returned (tx k.core.text) ∧ w = w':=by
  have h:=core_spec ⟨k.text.toArray⟩ w (by rw [tx_size];omega) (by rw [show (⟨k.text.toArray⟩ : ByteArray).data.toList = k.text from rfl,drop_core];exact Wf.K.text_ne _)
  rw [show (⟨k.text.toArray⟩ : ByteArray).data.toList = k.text from rfl,drop_core] at h
  exact h
theorem core_len (k : Wf.K) : k.core.text.length ≤ k.text.length:=by
  rw [← drop_core];exact (List.dropWhile_suffix _).length_le
theorem seen_step {x : Wf.Sc} {i : Nat} (h : Seen x i) (hi : i < x.length) (hn : ∀ a (ha : a < x.length),a < i → (x[a]).name ≠ (x[i]).name) (hr : (x[i]).sort = 69 ∨ ∀ f ∈ (x[i]).fields,Wf.hasRef x f.kind = true) : Seen x (i + 1):=by
  obtain ⟨h1,h2⟩:=h
  refine ⟨fun a b hb hab hbi => ?_,fun a ha hai => ?_⟩
  · by_cases hbi2 : b = i
    · subst hbi2;exact hn a (by omega) hab
    · exact h1 a b hb hab (by omega)
  · by_cases hai2 : a = i
    · subst hai2;exact hr
    · exact h2 a ha (by omega)
theorem core_is (x : Wf.Sc) (k : Wf.K) : ∃ (NM : ByteArray) (is : Bool),refV k.core.text = .tuple #[.string NM, .bool is] ∧ Wf.hasRef x k = (!is || (x.find NM.data.toList).isSome):=by
  rcases has_core x k with ⟨nm,h1,h2⟩ | ⟨h1,h2⟩
  · exact ⟨⟨nm.toArray⟩,true,h1,by rw [h2];rfl⟩
  · exact ⟨⟨#[]⟩,false,h1,by rw [h2];rfl⟩
theorem find_any {x : Wf.Sc} {nm : List UInt8} {W : World} {lo : Nat} {e : Ending} (h : FindOut x nm W lo e) : ∃ (q : Nat) (N : ByteArray) (a : Option Addr) (m c : Nat),e = .returned (.tuple #[.agg #[.int .u8 q, .string N, .slice a m c], .bool (x.find nm).isSome]):=by
  unfold FindOut at h
  cases hf : x.find nm with
  | none => rw [hf] at h;exact ⟨0,⟨#[]⟩,none,0,0,h⟩
  | some t => rw [hf] at h;obtain ⟨fb,a,c,h,_⟩:=h;exact ⟨_,⟨t.name.toArray⟩,a,_,c,h⟩

theorem l3findAny (x : Wf.Sc) (lo b : Nat) (v : Value) (nm : ByteArray) (W w : World) (hW : Below W.heap.size W w) (hx8 : x.length ≤ 1000) (H : ScSp W lo b v x) : Calls Try.prog 40 #[v, .string nm] w fun e w' => (∃ (q : Nat) (N : ByteArray) (a : Option Addr) (m c : Nat),e = .returned (.tuple #[.agg #[.int .u8 q, .string N, .slice a m c], .bool (x.find nm.data.toList).isSome])) ∧ Below w.heap.size w w' :=
  (l3find x lo b v nm W w hW hx8 H).mono fun e w' h => ⟨find_any h.1,h.2⟩
set_option maxRecDepth 20000 in
set_option maxHeartbeats 4000000 in
theorem l3valid (x : Wf.Sc) (lo b : Nat) (v : Value) (w : World) (hx8 : x.length ≤ 1000) (H : ScSp w lo b v x) (hx : ∀ u ∈ x,Good u) :
    Calls Try.prog 50 #[v] w fun e w' => e = .returned (.bool (validB x)) ∧ Below w.heap.size w w':=by
  obtain ⟨va,vc,rfl,hc1,hc2⟩:=H.slice
  have HX:=hid H
  have HG:=hid hx
  obtain ⟨n,hn⟩ : ∃ n,x.length = n:=⟨_,rfl⟩
  have HN:=hid hn
  rw [hn] at hx8 hc1 HX ⊢
  obtain ⟨VB,hVB⟩ : ∃ VB,validB x = VB:=⟨_,rfl⟩
  have HV:=hid hVB
  rw [hVB]
  clear H hn hx hVB
  go_enter Try.func50,Try.ntmps50
  go_wp2
  go_loopw [3] (fun v3 wr => ∃ i : Nat,v3 = .int .i64 i ∧ i ≤ n ∧ Hid (Seen x i) ∧ Hid (Below w.heap.size w wr)) (fun v3 _ => n - (RowKit.intOf v3).toNat)
  case atStart => exact ⟨0,rfl,Nat.zero_le _,hid ⟨fun _ _ _ _ h => by omega,fun _ _ h => by omega⟩,hid (Below.refl _ _)⟩
  case round =>
    obtain ⟨i,rfl,hi,hseen,hbel⟩:=hrel
    by_cases hlt : i < n
    · have hix : i < x.length:=by rw [HN.out];exact hlt
      obtain ⟨o,fb,fa,fc,hva,hbw,g0',g1',g2',hrow,_⟩:=HX.out.get hix
      obtain ⟨T,hT⟩ : ∃ T,x[i] = T:=⟨_,rfl⟩
      rw [hT] at g0' g1' g2' hrow
      obtain ⟨q,hq⟩ : ∃ q,T.sort.toNat = q:=⟨_,rfl⟩
      obtain ⟨m,hm⟩ : ∃ m,T.fields.length = m:=⟨_,rfl⟩
      obtain ⟨TN,hTN⟩ : ∃ TN : ByteArray,(⟨T.name.toArray⟩ : ByteArray) = TN:=⟨_,rfl⟩
      rw [hq] at g0'
      rw [tx,hTN] at g1'
      rw [hm] at g2' hrow
      have g0 : wr.cell? ⟨b,o + i * 3,none⟩ = some (.int .u8 q):=(hbel.out.cell (p:=⟨b,o + i * 3,none⟩) hbw).trans g0'
      have g1 : wr.cell? ⟨b,o + i * 3 + 1,none⟩ = some (.string TN):=(hbel.out.cell (p:=⟨b,o + i * 3 + 1,none⟩) hbw).trans g1'
      have g2 : wr.cell? ⟨b,o + i * 3 + 2,none⟩ = some (.slice fa m fc):=(hbel.out.cell (p:=⟨b,o + i * 3 + 2,none⟩) hbw).trans g2'
      have HT:=hid hT
      have HQ:=hid hq
      have HM:=hid hm
      have HTN:=hid hTN
      have HROW:=hid hrow
      have HG0:=hid g0'
      have HG2:=hid g2'
      have hbwr : b < wr.heap.size:=Nat.lt_of_lt_of_le hbw hbel.out.size
      have hvv : Hid (va = some ⟨b,o,none⟩):=hid hva
      subst hva
      clear g0' g1' g2' hT hq hm hTN hrow hvv
      go_wp2
      go_loopw [4] (fun v4 wy => ∃ (k d : Nat),v4 = .int .i64 k ∧ k ≤ i ∧ wy = wr.drewN d ∧ Hid (∀ a (ha : a < x.length),a < k → (x[a]).name ≠ T.name)) (fun v4 _ => i - (RowKit.intOf v4).toNat)
      case atStart => exact ⟨0,0,rfl,Nat.zero_le _,rfl,hid fun a _ h => by omega⟩
      case round =>
        obtain ⟨k,d,rfl,hk,rfl,hno⟩:=hrel
        by_cases hki : k < i
        · have hkx : k < x.length:=by omega
          obtain ⟨o',_,_,_,hva',_,_,k1',_,_,_⟩:=HX.out.get hkx
          have ho : o' = o:=by simpa using hva'.symm
          subst ho
          obtain ⟨KN,hKN⟩ : ∃ KN : ByteArray,(⟨(x[k]).name.toArray⟩ : ByteArray) = KN:=⟨_,rfl⟩
          rw [tx,hKN] at k1'
          have k1 : wr.cell? ⟨b,o' + k * 3 + 1,none⟩ = some (.string KN):=(hbel.out.cell (p:=⟨b,o' + k * 3 + 1,none⟩) hbw).trans k1'
          have HEQ:=hid (show (KN.toList == TN.toList) = decide ((x[k]).name = T.name) by rw [← hKN,← HTN.out,ByteArray.toList_eq,ByteArray.toList_eq,Bool.beq_eq_decide_eq])
          clear k1' hKN hva'
          cases hqq : (KN.toList == TN.toList) with
          | true =>
            have HF:=hid (show false = VB by rw [← HV.out];exact (valid_name hki hix (by rw [HT.out];exact of_decide_eq_true (by rw [← HEQ.out];exact hqq))).symm)
            go_wp2
            go_quiet (fail)
            go_wp2
            go_ret
            exact ⟨ret_b HF.out,hbel.out.trans ⟨rfl,rfl,rfl,Nat.le_refl _,fun _ _ => rfl⟩⟩
          | false =>
            have HNE:=hid (show (x[k]).name ≠ T.name from of_decide_eq_false (by rw [← HEQ.out];exact hqq))
            go_wp2
            go_quiet (fail)
            go_wp2
            go_roundw
            case rel => exact ⟨k + 1,_,by go_num,by omega,rfl,hid fun a ha hak => by
              by_cases hak2 : a = k
              · subst hak2;exact HNE.out
              · exact hno.out a ha (by omega)⟩
            case measure => simp [RowKit.intOf];omega
        · have hki2 : k = i:=by omega
          subst hki2
          go_wp2
          have HNO:=hid hno.out
          go_loopw [5] (fun v5 wz => ∃ j : Nat,v5 = .int .i64 j ∧ j ≤ m ∧ Hid (Below w.heap.size w wz) ∧ Hid (∀ a (ha : a < T.fields.length),a < j → Wf.hasRef x (T.fields[a]).kind = true)) (fun v5 _ => m - (RowKit.intOf v5).toNat)
          case atStart => exact ⟨0,rfl,Nat.zero_le _,hid (hbel.out.trans ⟨rfl,rfl,rfl,Nat.le_refl _,fun _ _ => rfl⟩),hid fun a _ h => by omega⟩
          case round =>
            obtain ⟨j,rfl,hj,hbz,hok⟩:=hrel
            have z0:=(hbz.out.cell (p:=⟨b,o + k * 3,none⟩) hbw).trans HG0.out
            have z2:=(hbz.out.cell (p:=⟨b,o + k * 3 + 2,none⟩) hbw).trans HG2.out
            have hbwz : b < wr.heap.size:=Nat.lt_of_lt_of_le hbw hbz.out.size
            by_cases h69 : q = 69
            · subst h69
              have HS:=hid (seen_step hseen.out hix (by rw [HT.out];exact HNO.out) (.inl (by rw [HT.out];exact UInt8.toNat_inj.1 (by rw [HQ.out];rfl))))
              by_cases hjm : j < m
              · go_wp2
                go_roundw
                case rel => exact ⟨k + 1,by go_num,by omega,HS,hbz⟩
                case measure => simp [RowKit.intOf];omega
              · have hjm2 : j = m:=by omega
                subst hjm2
                go_wp2
                go_roundw
                case rel => exact ⟨k + 1,by go_num,by omega,HS,hbz⟩
                case measure => simp [RowKit.intOf];omega
            · have t69 : ((q : Int) != 69) = true:=by rw [bne_iff_ne];omega
              by_cases hjm : j < m
              · have hjt : j < T.fields.length:=by rw [HM.out];exact hjm
                obtain ⟨F,hF⟩ : ∃ F,T.fields[j] = F:=⟨_,rfl⟩
                have hjl : j < (T.fields.map (fdS T.sort)).length:=by rw [List.length_map];exact hjt
                obtain ⟨go,rfl,hgw,hgm,hgc,hcell⟩:=RowK.get HROW.out hjl
                have hmx : m ≤ 9223372036854775807:=Nat.le_trans hgm (Nat.le_trans hgc (by unfold maxLen;omega))
                have ht69 : T.sort ≠ 69:=fun h => h69 (by rw [← HQ.out,h];rfl)
                have e0 : (T.fields.map (fdS T.sort))[j]'hjl = fdS T.sort F:=by rw [List.getElem_map,hF]
                have k2':=hcell 2 (tx F.kind.text) (by decide) (by rw [e0,fdS,if_neg ht69];rfl)
                have k2 : wr.cell? ⟨fb,go + j * 4 + 2,none⟩ = some (tx F.kind.text):=(hbz.out.cell (p:=⟨fb,go + j * 4 + 2,none⟩) hgw).trans k2'
                have hFm : F ∈ T.fields:=by rw [← hF];exact List.getElem_mem hjt
                have hxT : T ∈ x:=by rw [← HT.out];exact List.getElem_mem hix
                have hkl:=(HG.out T hxT).2 F hFm
                have HCORE:=hid fun wz => l2Core_text F.kind hkl wz
                have hcl:=core_len F.kind
                have HREF:=hid fun wz => l2Ref_text F.kind.core (by omega) wz
                obtain ⟨NM,is,hri,hhas⟩:=core_is x F.kind
                rw [hri] at HREF
                have HFIND:=hid fun wz (hz : Below w.heap.size w wz) => (l3findAny x lo b (.slice (some ⟨b,o,none⟩) n vc) NM w wz hz (by rw [HN.out];exact hx8) HX.out)
                obtain ⟨KT,hKT⟩ : ∃ KT : ByteArray,(⟨F.kind.text.toArray⟩ : ByteArray) = KT:=⟨_,rfl⟩
                obtain ⟨CT,hCT⟩ : ∃ CT : ByteArray,(⟨F.kind.core.text.toArray⟩ : ByteArray) = CT:=⟨_,rfl⟩
                rw [tx,hKT] at k2
                simp only [tx,hKT,hCT] at HCORE HREF
                obtain ⟨ok,hokk⟩ : ∃ ok,(x.find NM.data.toList).isSome = ok:=⟨_,rfl⟩
                rw [hokk] at hhas HFIND
                have HHAS:=hid hhas
                have HF':=hid hF
                have HJT:=hid hjt
                clear hhas hokk hCT hKT hri hcl hkl hxT hFm k2' e0 ht69 hcell hjl hF
                by_cases hbad : is = true ∧ ok = false
                · obtain ⟨rfl,rfl⟩:=hbad
                  have HFF:=hid (show false = VB by
                    rw [← HV.out]
                    refine (valid_ref hix (j:=j) ?_ ?_ ?_).symm
                    · rw [HT.out];exact fun h => h69 (by rw [← HQ.out,h];rfl)
                    · rw [HT.out];exact HJT.out
                    · simp only [HT.out,HF'.out];exact HHAS.out)
                  go_wp2_with (first | (go_at_call 40;refine (HFIND.out _ hbz.out).mono ?_;rintro e w3 ⟨⟨fq,fN,fA,fM,fC,rfl⟩,hb3⟩;have HB3:=hid hb3;clear hb3) | (go_at_call 38;refine (HREF.out _).mono ?_;rintro e w2 ⟨rfl,rfl⟩) | (go_at_call 39;refine (HCORE.out _).mono ?_;rintro e w1 ⟨rfl,rfl⟩))
                  go_ret
                  exact ⟨ret_b HFF.out,by have B:=hbz.out.trans (HB3.out.mono hbz.out.size);repeat (first | with_reducible exact B | with_reducible refine Below.drew ?_ | with_reducible refine Below.setCell ?_ (by simp) _ | with_reducible refine Below.alloc ?_ (by first | exact B.size | (simp;omega)) _)⟩
                · have HK:=hid (show Wf.hasRef x F.kind = true by
                    rw [HHAS.out];cases is <;> cases ok <;> simp_all)
                  have HREL:=hid (show ∀ a (ha : a < T.fields.length),a < j + 1 → Wf.hasRef x (T.fields[a]).kind = true from fun a ha haj => by
                    by_cases haj2 : a = j
                    · subst haj2;rw [HF'.out];exact HK.out
                    · exact hok.out a ha (by omega))
                  have hio : (is && !ok) = false:=by cases is <;> cases ok <;> simp_all
                  clear hbad
                  rcases Bool.eq_false_or_eq_true is with rfl | rfl
                  · have hok1 : ok = true:=by cases ok <;> simp_all
                    subst hok1
                    go_wp2_with (first | (go_at_call 40;refine (HFIND.out _ hbz.out).mono ?_;rintro e w3 ⟨⟨fq,fN,fA,fM,fC,rfl⟩,hb3⟩;have HB3:=hid hb3;clear hb3) | (go_at_call 38;refine (HREF.out _).mono ?_;rintro e w2 ⟨rfl,rfl⟩) | (go_at_call 39;refine (HCORE.out _).mono ?_;rintro e w1 ⟨rfl,rfl⟩))
                    go_roundw
                    case rel => exact ⟨j + 1,by go_num,by omega,hid (by have B:=hbz.out.trans (HB3.out.mono hbz.out.size);repeat (first | with_reducible exact B | with_reducible refine Below.drew ?_ | with_reducible refine Below.setCell ?_ (by simp) _ | with_reducible refine Below.alloc ?_ (by first | exact B.size | (simp;omega)) _)),HREL⟩
                    case measure => simp [RowKit.intOf];omega
                  · go_wp2_with (first | (go_at_call 40;refine (HFIND.out _ hbz.out).mono ?_;rintro e w3 ⟨⟨fq,fN,fA,fM,fC,rfl⟩,hb3⟩;have HB3:=hid hb3;clear hb3) | (go_at_call 38;refine (HREF.out _).mono ?_;rintro e w2 ⟨rfl,rfl⟩) | (go_at_call 39;refine (HCORE.out _).mono ?_;rintro e w1 ⟨rfl,rfl⟩))
                    go_roundw
                    case rel => exact ⟨j + 1,by go_num,by omega,hid (by have B:=hbz.out.trans (HB3.out.mono hbz.out.size);repeat (first | with_reducible exact B | with_reducible refine Below.drew ?_ | with_reducible refine Below.setCell ?_ (by simp) _ | with_reducible refine Below.alloc ?_ (by first | exact B.size | (simp;omega)) _)),HREL⟩
                    case measure => simp [RowKit.intOf];omega
              · have hjm2 : j = m:=by omega
                subst hjm2
                have HS:=hid (seen_step hseen.out hix (by rw [HT.out];exact HNO.out) (.inr (by
                  rw [HT.out];intro f hf
                  obtain ⟨a,ha,rfl⟩:=List.mem_iff_getElem.1 hf
                  exact hok.out a ha (by rw [← HM.out];exact ha))))
                go_wp2
                go_roundw
                case rel => exact ⟨k + 1,by go_num,by omega,HS,hbz⟩
                case measure => simp [RowKit.intOf];omega
    · have hin : i = n:=by omega
      subst hin
      have HSEEN:=hid (show Seen x x.length by rw [HN.out];exact hseen.out)
      go_wp2
      go_loopw [10] (fun v10 wz => ∃ j : Nat,v10 = .int .i64 j ∧ j ≤ i ∧ Hid (Below w.heap.size w wz) ∧ Hid (∀ a (ha : a < x.length),a < j → Wf.endsIn x (x.length + 1) x[a] = true)) (fun v10 _ => i - (RowKit.intOf v10).toNat)
      case atStart => exact ⟨0,rfl,Nat.zero_le _,hbel,hid fun a _ h => by omega⟩
      case round =>
        obtain ⟨j,rfl,hj,hbz,hok⟩:=hrel
        by_cases hjn : j < i
        · have hjx : j < x.length:=by rw [HN.out];exact hjn
          obtain ⟨o,fb,fa,fc,rfl,hbw,g0',g1',g2',hrow,_⟩:=HX.out.get hjx
          have hbwr : b < wr.heap.size:=Nat.lt_of_lt_of_le hbw hbz.out.size
          obtain ⟨T,hT⟩ : ∃ T,x[j] = T:=⟨_,rfl⟩
          rw [hT] at g0' g1' g2' hrow
          have g0:=(hbz.out.cell (p:=⟨b,o + j * 3,none⟩) hbw).trans g0'
          have g1:=(hbz.out.cell (p:=⟨b,o + j * 3 + 1,none⟩) hbw).trans g1'
          have g2:=(hbz.out.cell (p:=⟨b,o + j * 3 + 2,none⟩) hbw).trans g2'
          have HEND:=hid (l3ends x lo b (.slice (some ⟨b,o,none⟩) i vc) w wr hbz.out (by rw [HN.out];exact hx8) HX.out HG.out T (by rw [← hT];exact HG.out _ (List.getElem_mem hjx)) fb fa fc hrow)
          have HT:=hid hT
          have HJX:=hid hjx
          clear g0' g1' g2' hrow hT
          cases hEE : Wf.endsIn x (x.length + 1) T with
          | false =>
            rw [hEE] at HEND
            have HFF:=hid (show false = VB by rw [← HV.out];exact (valid_end HJX.out (by rw [HT.out];exact hEE)).symm)
            clear hEE
            go_wp2_with (go_at_call 59;refine HEND.out.mono ?_;rintro e w3 ⟨rfl,hb3⟩;have HB3:=hid hb3;clear hb3)
            go_ret
            exact ⟨ret_b HFF.out,by have B:=hbz.out.trans (HB3.out.mono hbz.out.size);repeat (first | with_reducible exact B | with_reducible refine Below.drew ?_)⟩
          | true =>
            rw [hEE] at HEND
            have HREL:=hid (show ∀ a (ha : a < x.length),a < j + 1 → Wf.endsIn x (x.length + 1) x[a] = true from fun a ha haj => by
              by_cases haj2 : a = j
              · subst haj2;rw [HT.out];exact hEE
              · exact hok.out a ha (by omega))
            clear hEE
            go_wp2_with (go_at_call 59;refine HEND.out.mono ?_;rintro e w3 ⟨rfl,hb3⟩;have HB3:=hid hb3;clear hb3)
            go_roundw
            case rel => exact ⟨j + 1,by go_num,by omega,hid (by have B:=hbz.out.trans (HB3.out.mono hbz.out.size);repeat (first | with_reducible exact B | with_reducible refine Below.drew ?_)),HREL⟩
            case measure => simp [RowKit.intOf];omega
        · have hji : j = i:=by omega
          subst hji
          have HFF:=hid (show true = VB by rw [← HV.out];exact (valid_yes HSEEN.out fun a ha => hok.out a ha (by rw [← HN.out];exact ha)).symm)
          go_wp2
          go_ret
          exact ⟨ret_b HFF.out,hbz.out⟩
end Go.Proofs.Ytidjpalnmnehmaa
