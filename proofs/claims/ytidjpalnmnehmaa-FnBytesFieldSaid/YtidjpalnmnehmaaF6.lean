/- Packed by pack.py: Xd Xe. -/
import Derived.Test.YtidjpalnmnehmaaF5
import Derived.Test.YtidjpalnmnehmaaF1
namespace Go.Proofs.Ytidjpalnmnehmaa
open Go.ChangeShapes Go.WideShapes Go.ChangeAt Go.RowKit Go.Lib
set_option linter.unusedVariables false
set_option linter.unusedSimpArgs false
set_option maxRecDepth 20000 in
theorem out_named (b : Nat) (KD O : ByteArray) (w : World) (hlt : b < w.heap.size) (hs : 0 < KD.size) (e0 : ∀ h,(KD[0]'h).toNat = 64) (c0 : w.cell? ⟨b,0,none⟩ = some (.string KD))
    (hn : Calls Try.prog 44 #[ptr b] w fun e w' => e = .returned (.string O) ∧ Below w.heap.size w w') :
    Calls Try.prog 30 #[ptr b] w fun e w' => e = .returned (.string O) ∧ Below w.heap.size w w':=by
  have HN:=hid hn
  clear hn
  go_enter Try.func30,Try.ntmps30
  go_wp2_with (go_at_call 44;refine HN.out.mono ?_;rintro e w2 ⟨rfl,hb2⟩;have HB2:=hid hb2;clear hb2)
  go_ret
  exact ⟨rfl,HB2.out⟩
theorem LV.at {W w : World} {P : Nat → Prop} {v : Wf.V} {b : Nat} (h : LV W P v b) (hw : v.what ≠ 61) (hW : Below W.heap.size W w) : b < w.heap.size ∧ ∃ (kd t : List UInt8) (tv kv : Value) (tb kb : Nat) (bs : List Nat),
      w.cell? ⟨b,0,none⟩ = some (tx kd) ∧ w.cell? ⟨b,1,none⟩ = some (tx t) ∧ w.cell? ⟨b,2,none⟩ = some tv ∧ w.cell? ⟨b,3,none⟩ = some kv ∧
      RowAt w tb tv ((tagsOf v.what v.tag v.kids).map ix) ∧ RowAt w kb kv (bs.map ptr) ∧ shapeR v.what v.text kd t ∧ LVs W P v.kids bs:=by
  obtain ⟨_,hb,kd,t,tv,kv,tb,kb,bs,c0,c1,c2,c3,r1,r2,hs,hk⟩:=h.form hw
  exact ⟨Nat.lt_of_lt_of_le hb hW.size,kd,t,tv,kv,tb,kb,bs,(hW.cell (p:=⟨b,0,none⟩) hb).trans c0,(hW.cell (p:=⟨b,1,none⟩) hb).trans c1,(hW.cell (p:=⟨b,2,none⟩) hb).trans c2,(hW.cell (p:=⟨b,3,none⟩) hb).trans c3,r1.below hW id,r2.below hW id,hs,hk⟩
theorem LVs.one {W : World} {P : Nat → Prop} {v : Wf.V} {bs : List Nat} (h : LVs W P [v] bs) : ∃ u,bs = [u] ∧ LV W P v u:=by
  simp only [LVs] at h
  obtain ⟨u,bs',rfl,h1,rfl⟩:=h
  exact ⟨u,rfl,h1⟩
theorem LVs.none {W : World} {P : Nat → Prop} {bs : List Nat} (h : LVs W P [] bs) : bs = []:=by
  simpa only [LVs] using h
theorem LVs.fields {W : World} {P : Nat → Prop} : ∀ {l : List (Wf.Fd × Wf.V)} {bs : List Nat},LVs W P (l.map fun e => .mk 61 [] e.1.tag [e.2]) bs → LVs W P (l.map (·.2)) bs:=by
  intro l
  induction l with
  | nil => intro bs h;exact h
  | cons e l ih =>
    intro bs h
    simp only [List.map_cons,LVs] at h ⊢
    obtain ⟨b,bs',rfl,h1,h2⟩:=h
    exact ⟨b,bs',rfl,LV.field.1 h1,ih h2⟩
theorem tags_rec (l : List (Wf.Fd × Wf.V)) : tagsOf 82 0 (l.map fun e => .mk 61 [] e.1.tag [e.2]) = l.map (fun e => e.1.tag):=by
  unfold tagsOf
  rw [if_pos rfl,List.map_map]
  rfl
theorem parts_rec (l : List (Wf.Fd × Wf.V)) : (((l.map fun e => e.1.tag).zip (l.map fun e => e.2.print)).map fun y => Wf.dec y.1 ++ 61 :: y.2) = (l.map fun e => Wf.V.mk 61 [] e.1.tag [e.2]).map Wf.V.print:=by
  induction l with
  | nil => rfl
  | cons e l ih => simp only [List.map_cons,List.zip_cons_cons,ih,Wf.print_tag]
theorem out {x : Wf.Sc} : ∀ (n : Nat) (k : Wf.K) (v : Wf.V),Wf.Typed x n k v → ∀ (P : Nat → Prop) (b : Nat) (W w : World),LV W P v b → Below W.heap.size W w → v.print.length ≤ 2000000 → Calls Try.prog 30 #[ptr b] w fun e w' => e = .returned (tx v.print) ∧ Below w.heap.size w w':=by
  intro n
  induction n with
  | zero => intro k v h;exact h.elim
  | succ n ih =>
    intro k v h P b W w hL hW hlen
    obtain ⟨hlt,kd,t,tv,kv,tb,kb,bs,c0,c1,c2,c3,r1,r2,hs,hk⟩:=hL.at (Wf.typed_ne h) hW
    have leaf : ∀ q : UInt8,(q.toNat = 110 ∨ q.toNat = 116 ∨ q.toNat = 102) → kd.head? = some q → t = v.print → Calls Try.prog 30 #[ptr b] w fun e w' => e = .returned (tx v.print) ∧ Below w.heap.size w w':=by
      intro q hq hkd ht
      obtain ⟨h1,h2⟩:=kd_first hkd
      refine (out_leaf b q.toNat ⟨kd.toArray⟩ ⟨t.toArray⟩ w hlt h1 h2 hq c0 c1).mono ?_
      rintro e w' ⟨rfl,rfl⟩
      exact ⟨by rw [ht],Below.refl _ _⟩
    cases k with
    | num =>
      obtain ⟨m,hm,rfl⟩:=h
      simp only [Wf.V.what,Wf.V.text,shapeR] at hs
      exact leaf 110 (.inl rfl) hs.1 (by rw [hs.2,Wf.print_num])
    | txt =>
      obtain ⟨d,h1,h2,rfl⟩:=h
      simp only [Wf.V.what,Wf.V.text,shapeR] at hs
      exact leaf 116 (.inr (.inl rfl)) hs.1 (by rw [hs.2,Wf.print_txt])
    | flag =>
      rcases h with rfl | rfl
      all_goals
        simp only [Wf.V.what,Wf.V.text,shapeR] at hs
        exact leaf 102 (.inr (.inr rfl)) hs.1 (by rw [hs.2,Wf.print_flag])
    | list k =>
      obtain ⟨l,h20,hl,rfl⟩:=h
      simp only [Wf.V.what,Wf.V.text,Wf.V.kids,shapeR] at hs hk
      obtain ⟨h1,h2⟩:=kd_first hs.1
      rw [Wf.print_list] at hlen ⊢
      have hcl : (Wf.commas (l.map Wf.V.print)).length ≤ 2000000:=by simp at hlen;omega
      refine out_list b kb ⟨kd.toArray⟩ kv bs (l.map Wf.V.print) w hlt h1 h2 c0 c3 r2 (by rw [hk.len,List.length_map]) hcl fun i g1 g2 wz hz => ?_
      have g3 : i < l.length:=by simpa using g2
      rw [List.getElem_map]
      exact ih k l[i] (hl _ (List.getElem_mem g3)) P bs[i] W wz (hk.get i g3 g1) (hW.trans (hz.mono hW.size)) (Nat.le_trans (Wf.commas_mem (List.mem_map.2 ⟨_,List.getElem_mem g3,rfl⟩)) hcl)
    | opt k =>
      rcases h with rfl | ⟨u,hu,rfl⟩
      · simp only [Wf.V.what,Wf.V.text,Wf.V.kids,shapeR] at hs hk
        obtain ⟨h1,h2⟩:=kd_first hs.1
        obtain rfl:=hk.none
        obtain ⟨a,c,rfl,_,_⟩:=r2.form
        refine (out_none b c ⟨kd.toArray⟩ a w hlt h1 h2 c0 c3).mono ?_
        rintro e w' ⟨rfl,rfl⟩
        exact ⟨by rw [Wf.print_none],Below.refl _ _⟩
      · simp only [Wf.V.what,Wf.V.text,Wf.V.kids,shapeR] at hs hk
        obtain ⟨h1,h2⟩:=kd_first hs.1
        obtain ⟨ub,rfl,hu2⟩:=hk.one
        obtain ⟨a,c,rfl,hnc,hcm⟩:=r2.form
        obtain ⟨o,rfl,hkb,_,_,ck⟩:=r2.get (i:=0) (by simp)
        rw [Wf.print_some] at hlen ⊢
        have hul : u.print.length ≤ 2000000:=by simp at hlen;omega
        exact out_some b kb o ub c ⟨kd.toArray⟩ ⟨u.print.toArray⟩ w hlt h1 h2 c0 c3 hkb ck hnc hcm (by rw [← size_list];exact hul) fun wz hz => ih k u hu P ub W wz hu2 (hW.trans (hz.mono hW.size)) hul
    | ref nm =>
      obtain ⟨ty,hty,h⟩:=h
      rcases h with ⟨_,f,hf,hf2,rfl⟩ | ⟨_,_,f,u,hf,hf2,hu,rfl⟩ | ⟨_,_,l,hasc,hl,rfl⟩
      · simp only [Wf.V.what,Wf.V.text,Wf.V.kids,Wf.V.tag,shapeR] at hs hk r1
        obtain ⟨h1,h2⟩:=kd_first hs.1
        have htl : t = [69]:=hs.2
        subst htl
        obtain ⟨a,c,rfl,hnc,hcm⟩:=r1.form
        obtain ⟨o,rfl,htb,_,_,ct⟩:=r1.get (i:=0) (by simp [tagsOf])
        rw [Wf.print_enm]
        exact out_named b ⟨kd.toArray⟩ ⟨(35 :: Wf.dec f.tag).toArray⟩ w hlt h1 h2 c0 (named_enm b tb o f.tag c _ w hlt c1 c2 (by simp [tagsOf]) hnc hcm htb (by simpa [tagsOf] using ct) (by omega))
      · simp only [Wf.V.what,Wf.V.text,Wf.V.kids,Wf.V.tag,shapeR] at hs hk r1
        obtain ⟨h1,h2⟩:=kd_first hs.1
        have htl : t = [85]:=hs.2
        subst htl
        obtain ⟨ub,rfl,hu2⟩:=hk.one
        obtain ⟨a,c,rfl,hnc,hcm⟩:=r1.form
        obtain ⟨o,rfl,htb,_,_,ct⟩:=r1.get (i:=0) (by simp [tagsOf])
        obtain ⟨ka,kc,rfl,hkc,hkm⟩:=r2.form
        obtain ⟨p,rfl,hkb,_,_,ck⟩:=r2.get (i:=0) (by simp)
        rw [Wf.print_uni] at hlen ⊢
        have hul : u.print.length ≤ 2000000:=by simp at hlen;omega
        exact out_named b ⟨kd.toArray⟩ ⟨(60 :: (Wf.dec f.tag ++ 61 :: (u.print ++ [62]))).toArray⟩ w hlt h1 h2 c0 (named_uni b tb kb o p ub f.tag c _ _ kc ⟨u.print.toArray⟩ w hlt c1 c2 (by simp [tagsOf]) hnc hcm htb (by simpa [tagsOf] using ct) (by omega) c3 (by simp) hkc hkm hkb ck (by rw [← size_list];exact hul) fun wz hz => ih f.kind u hu P ub W wz hu2 (hW.trans (hz.mono hW.size)) hul)
      · simp only [Wf.V.what,Wf.V.text,Wf.V.kids,Wf.V.tag,shapeR] at hs hk r1
        obtain ⟨h1,h2⟩:=kd_first hs.1
        have htl : t = [82]:=hs.2
        subst htl
        rw [tags_rec] at r1
        have hk2:=hk.fields
        have hbl : bs.length = l.length:=by rw [hk2.len,List.length_map]
        rw [Wf.print_rec,← parts_rec] at hlen ⊢
        have hcl : (Wf.commas (((l.map fun e => e.1.tag).zip (l.map fun e => e.2.print)).map fun y => Wf.dec y.1 ++ 61 :: y.2)).length ≤ 2000000:=by simp only [List.length_cons,List.length_append,List.length_nil] at hlen;omega
        refine out_named b ⟨kd.toArray⟩ ⟨_⟩ w hlt h1 h2 c0 (named_rec b tb kb tv kv (l.map fun e => e.1.tag) bs (l.map fun e => e.2.print) w hlt c1 c2 c3 r1 r2 (by rw [List.length_map,hbl]) (by rw [List.length_map,hbl]) (fun g hg => ?_) hcl fun i g1 g2 wz hz => ?_)
        · obtain ⟨e,he,rfl⟩:=List.mem_map.1 hg
          have:=(hl e he).2.2.1
          omega
        · have g3 : i < l.length:=by simpa using g2
          have g4 : i < (l.map (·.2)).length:=by simpa using g3
          have hv:=hk2.get i g4 g1
          rw [List.getElem_map] at hv
          rw [List.getElem_map]
          refine ih (l[i]).1.kind (l[i]).2 (hl _ (List.getElem_mem g3)).2.2.2.1 P bs[i] W wz hv (hW.trans (hz.mono hW.size)) ?_
          rw [parts_rec] at hcl
          have h3:=Wf.commas_mem (l:=(l.map fun e => Wf.V.mk 61 [] e.1.tag [e.2]).map Wf.V.print) (a:=(Wf.V.mk 61 [] (l[i]).1.tag [(l[i]).2]).print) (List.mem_map.2 ⟨_,List.mem_map.2 ⟨l[i],List.getElem_mem g3,rfl⟩,rfl⟩)
          rw [Wf.print_tag] at h3
          simp only [List.length_append,List.length_cons] at h3
          omega

end Go.Proofs.Ytidjpalnmnehmaa
