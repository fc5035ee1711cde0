/- Packed by pack.py: Xd Xe PlainR PlainV Xf Du. -/
import Derived.Test.YtmdacedmjbiekaaGreatDoorR27
import Derived.Test.YtmdacedmjbiekaaGreatDoorR25
import Derived.Test.YtmdacedmjbiekaaGreatDoorR4
import Derived.Test.YtmdacedmjbiekaaGreatDoorR16
import Derived.Deep.RegionHeld3
import Derived.Deep.QuietTactic
import Derived.BigQuiet
import Derived.Test.YtmdacedmjbiekaaGreatDoorR17
namespace Go.Proofs.YtmdacedmjbiekaaGreatDoor
open Go.ChangeShapes Go.WideShapes Go.ChangeAt Go.RowKit Go.Lib
set_option linter.unusedVariables false
set_option linter.unusedSimpArgs false
set_option maxRecDepth 20000 in
theorem out_named (b : Nat) (KD O : ByteArray) (w : World) (hlt : b < w.heap.size) (hs : 0 < KD.size) (e0 : ∀ h,(KD[0]'h).toNat = 64) (c0 : w.cell? ⟨b,0,none⟩ = some (.string KD))
    (hn : Calls Tryz.prog 88 #[ptr b] w fun e w' => e = .returned (.string O) ∧ Below w.heap.size w w') :
    Calls Tryz.prog 59 #[ptr b] w fun e w' => e = .returned (.string O) ∧ Below w.heap.size w w':=by
  have HN:=hid hn
  clear hn
  go_enter Tryz.func59,Tryz.ntmps59
  go_wp2_with (go_at_call 88;refine HN.out.mono ?_;rintro e w2 ⟨rfl,hb2⟩;have HB2:=hid hb2;clear hb2)
  go_ret
  exact ⟨rfl,HB2.out⟩
theorem LV.at {W w : World} {P : Nat → Prop} {v : Wf.V} {b : Nat} (h : LV W P v b) (hw : v.what ≠ 61) (hW : Below W.heap.size W w) : b < w.heap.size ∧ ∃ (kd t : List UInt8) (tv kv : Value) (tb kb : Nat) (bs : List Nat),
      w.cell? ⟨b,0,none⟩ = some (tx kd) ∧ w.cell? ⟨b,1,none⟩ = some (tx t) ∧ w.cell? ⟨b,2,none⟩ = some tv ∧ w.cell? ⟨b,3,none⟩ = some kv ∧
      RowAt w tb tv ((tagsOf v.what v.tag v.kids).map ix) ∧ RowAt w kb kv (bs.map ptr) ∧ shapeR v.what v.text kd t ∧ LVs W P v.kids bs:=by
  obtain ⟨_,hb,kd,t,tv,kv,tb,kb,bs,c0,c1,c2,c3,r1,r2,hs,hk⟩:=h.form hw
  exact ⟨Nat.lt_of_lt_of_le hb hW.size,kd,t,tv,kv,tb,kb,bs,(hW.cell (p:=⟨b,0,none⟩) hb).trans c0,(hW.cell (p:=⟨b,1,none⟩) hb).trans c1,(hW.cell (p:=⟨b,2,none⟩) hb).trans c2,(hW.cell (p:=⟨b,3,none⟩) hb).trans c3,r1.below hW id,r2.below hW id,hs,hk⟩
theorem LVs.one {W : World} {P : Nat → Prop} {v : Wf.V} {bs : List Nat} (h : LVs W P [v] bs) : ∃ u,bs = [u] ∧ LV W P v u:=by
  simp only [LVs] at h
  obtain ⟨u,bs',rfl,h1,rfl⟩:=h
  exact ⟨u,rfl,h1⟩
theorem LVs.none {W : World} {P : Nat → Prop} {bs : List Nat} (h : LVs W P [] bs) : bs = []:=by
  simpa only [LVs] using h
theorem LVs.fields {W : World} {P : Nat → Prop} : ∀ {l : List (Wf.Fd × Wf.V)} {bs : List Nat},LVs W P (l.map fun e => .mk 61 [] e.1.tag [e.2]) bs → LVs W P (l.map (·.2)) bs:=by
  intro l
  induction l with
  | nil => intro bs h;exact h
  | cons e l ih =>
    intro bs h
    simp only [List.map_cons,LVs] at h ⊢
    obtain ⟨b,bs',rfl,h1,h2⟩:=h
    exact ⟨b,bs',rfl,LV.field.1 h1,ih h2⟩
theorem tags_rec (l : List (Wf.Fd × Wf.V)) : tagsOf 82 0 (l.map fun e => .mk 61 [] e.1.tag [e.2]) = l.map (fun e => e.1.tag):=by
  unfold tagsOf
  rw [if_pos rfl,List.map_map]
  rfl
theorem parts_rec (l : List (Wf.Fd × Wf.V)) : (((l.map fun e => e.1.tag).zip (l.map fun e => e.2.print)).map fun y => Wf.dec y.1 ++ 61 :: y.2) = (l.map fun e => Wf.V.mk 61 [] e.1.tag [e.2]).map Wf.V.print:=by
  induction l with
  | nil => rfl
  | cons e l ih => simp only [List.map_cons,List.zip_cons_cons,ih,Wf.print_tag]
theorem out {x : Wf.Sc} : ∀ (n : Nat) (k : Wf.K) (v : Wf.V),Wf.Typed x n k v → ∀ (P : Nat → Prop) (b : Nat) (W w : World),LV W P v b → Below W.heap.size W w → v.print.length ≤ 2000000 → Calls Tryz.prog 59 #[ptr b] w fun e w' => e = .returned (tx v.print) ∧ Below w.heap.size w w':=by
  intro n
  induction n with
  | zero => intro k v h;exact h.elim
  | succ n ih =>
    intro k v h P b W w hL hW hlen
    obtain ⟨hlt,kd,t,tv,kv,tb,kb,bs,c0,c1,c2,c3,r1,r2,hs,hk⟩:=hL.at (Wf.typed_ne h) hW
    have leaf : ∀ q : UInt8,(q.toNat = 110 ∨ q.toNat = 116 ∨ q.toNat = 102) → kd.head? = some q → t = v.print → Calls Tryz.prog 59 #[ptr b] w fun e w' => e = .returned (tx v.print) ∧ Below w.heap.size w w':=by
      intro q hq hkd ht
      obtain ⟨h1,h2⟩:=kd_first hkd
      refine (out_leaf b q.toNat ⟨kd.toArray⟩ ⟨t.toArray⟩ w hlt h1 h2 hq c0 c1).mono ?_
      rintro e w' ⟨rfl,rfl⟩
      exact ⟨by rw [ht],Below.refl _ _⟩
    cases k with
    | num =>
      obtain ⟨m,hm,rfl⟩:=h
      simp only [Wf.V.what,Wf.V.text,shapeR] at hs
      exact leaf 110 (.inl rfl) hs.1 (by rw [hs.2,Wf.print_num])
    | txt =>
      obtain ⟨d,h1,h2,rfl⟩:=h
      simp only [Wf.V.what,Wf.V.text,shapeR] at hs
      exact leaf 116 (.inr (.inl rfl)) hs.1 (by rw [hs.2,Wf.print_txt])
    | flag =>
      rcases h with rfl | rfl
      all_goals
        simp only [Wf.V.what,Wf.V.text,shapeR] at hs
        exact leaf 102 (.inr (.inr rfl)) hs.1 (by rw [hs.2,Wf.print_flag])
    | list k =>
      obtain ⟨l,h20,hl,rfl⟩:=h
      simp only [Wf.V.what,Wf.V.text,Wf.V.kids,shapeR] at hs hk
      obtain ⟨h1,h2⟩:=kd_first hs.1
      rw [Wf.print_list] at hlen ⊢
      have hcl : (Wf.commas (l.map Wf.V.print)).length ≤ 2000000:=by simp at hlen;omega
      refine out_list b kb ⟨kd.toArray⟩ kv bs (l.map Wf.V.print) w hlt h1 h2 c0 c3 r2 (by rw [hk.len,List.length_map]) hcl fun i g1 g2 wz hz => ?_
      have g3 : i < l.length:=by simpa using g2
      rw [List.getElem_map]
      exact ih k l[i] (hl _ (List.getElem_mem g3)) P bs[i] W wz (hk.get i g3 g1) (hW.trans (hz.mono hW.size)) (Nat.le_trans (Wf.commas_mem (List.mem_map.2 ⟨_,List.getElem_mem g3,rfl⟩)) hcl)
    | opt k =>
      rcases h with rfl | ⟨u,hu,rfl⟩
      · simp only [Wf.V.what,Wf.V.text,Wf.V.kids,shapeR] at hs hk
        obtain ⟨h1,h2⟩:=kd_first hs.1
        obtain rfl:=hk.none
        obtain ⟨a,c,rfl,_,_⟩:=r2.form
        refine (out_none b c ⟨kd.toArray⟩ a w hlt h1 h2 c0 c3).mono ?_
        rintro e w' ⟨rfl,rfl⟩
        exact ⟨by rw [Wf.print_none],Below.refl _ _⟩
      · simp only [Wf.V.what,Wf.V.text,Wf.V.kids,shapeR] at hs hk
        obtain ⟨h1,h2⟩:=kd_first hs.1
        obtain ⟨ub,rfl,hu2⟩:=hk.one
        obtain ⟨a,c,rfl,hnc,hcm⟩:=r2.form
        obtain ⟨o,rfl,hkb,_,_,ck⟩:=r2.get (i:=0) (by simp)
        rw [Wf.print_some] at hlen ⊢
        have hul : u.print.length ≤ 2000000:=by simp at hlen;omega
        exact out_some b kb o ub c ⟨kd.toArray⟩ ⟨u.print.toArray⟩ w hlt h1 h2 c0 c3 hkb ck hnc hcm (by rw [← size_list];exact hul) fun wz hz => ih k u hu P ub W wz hu2 (hW.trans (hz.mono hW.size)) hul
    | ref nm =>
      obtain ⟨ty,hty,h⟩:=h
      rcases h with ⟨_,f,hf,hf2,rfl⟩ | ⟨_,_,f,u,hf,hf2,hu,rfl⟩ | ⟨_,_,l,hasc,hl,rfl⟩
      · simp only [Wf.V.what,Wf.V.text,Wf.V.kids,Wf.V.tag,shapeR] at hs hk r1
        obtain ⟨h1,h2⟩:=kd_first hs.1
        have htl : t = [69]:=hs.2
        subst htl
        obtain ⟨a,c,rfl,hnc,hcm⟩:=r1.form
        obtain ⟨o,rfl,htb,_,_,ct⟩:=r1.get (i:=0) (by simp [tagsOf])
        rw [Wf.print_enm]
        exact out_named b ⟨kd.toArray⟩ ⟨(35 :: Wf.dec f.tag).toArray⟩ w hlt h1 h2 c0 (named_enm b tb o f.tag c _ w hlt c1 c2 (by simp [tagsOf]) hnc hcm htb (by simpa [tagsOf] using ct) (by omega))
      · simp only [Wf.V.what,Wf.V.text,Wf.V.kids,Wf.V.tag,shapeR] at hs hk r1
        obtain ⟨h1,h2⟩:=kd_first hs.1
        have htl : t = [85]:=hs.2
        subst htl
        obtain ⟨ub,rfl,hu2⟩:=hk.one
        obtain ⟨a,c,rfl,hnc,hcm⟩:=r1.form
        obtain ⟨o,rfl,htb,_,_,ct⟩:=r1.get (i:=0) (by simp [tagsOf])
        obtain ⟨ka,kc,rfl,hkc,hkm⟩:=r2.form
        obtain ⟨p,rfl,hkb,_,_,ck⟩:=r2.get (i:=0) (by simp)
        rw [Wf.print_uni] at hlen ⊢
        have hul : u.print.length ≤ 2000000:=by simp at hlen;omega
        exact out_named b ⟨kd.toArray⟩ ⟨(60 :: (Wf.dec f.tag ++ 61 :: (u.print ++ [62]))).toArray⟩ w hlt h1 h2 c0 (named_uni b tb kb o p ub f.tag c _ _ kc ⟨u.print.toArray⟩ w hlt c1 c2 (by simp [tagsOf]) hnc hcm htb (by simpa [tagsOf] using ct) (by omega) c3 (by simp) hkc hkm hkb ck (by rw [← size_list];exact hul) fun wz hz => ih f.kind u hu P ub W wz hu2 (hW.trans (hz.mono hW.size)) hul)
      · simp only [Wf.V.what,Wf.V.text,Wf.V.kids,Wf.V.tag,shapeR] at hs hk r1
        obtain ⟨h1,h2⟩:=kd_first hs.1
        have htl : t = [82]:=hs.2
        subst htl
        rw [tags_rec] at r1
        have hk2:=hk.fields
        have hbl : bs.length = l.length:=by rw [hk2.len,List.length_map]
        rw [Wf.print_rec,← parts_rec] at hlen ⊢
        have hcl : (Wf.commas (((l.map fun e => e.1.tag).zip (l.map fun e => e.2.print)).map fun y => Wf.dec y.1 ++ 61 :: y.2)).length ≤ 2000000:=by simp only [List.length_cons,List.length_append,List.length_nil] at hlen;omega
        refine out_named b ⟨kd.toArray⟩ ⟨_⟩ w hlt h1 h2 c0 (named_rec b tb kb tv kv (l.map fun e => e.1.tag) bs (l.map fun e => e.2.print) w hlt c1 c2 c3 r1 r2 (by rw [List.length_map,hbl]) (by rw [List.length_map,hbl]) (fun g hg => ?_) hcl fun i g1 g2 wz hz => ?_)
        · obtain ⟨e,he,rfl⟩:=List.mem_map.1 hg
          have:=(hl e he).2.2.1
          omega
        · have g3 : i < l.length:=by simpa using g2
          have g4 : i < (l.map (·.2)).length:=by simpa using g3
          have hv:=hk2.get i g4 g1
          rw [List.getElem_map] at hv
          rw [List.getElem_map]
          refine ih (l[i]).1.kind (l[i]).2 (hl _ (List.getElem_mem g3)).2.2.2.1 P bs[i] W wz hv (hW.trans (hz.mono hW.size)) ?_
          rw [parts_rec] at hcl
          have h3:=Wf.commas_mem (l:=(l.map fun e => Wf.V.mk 61 [] e.1.tag [e.2]).map Wf.V.print) (a:=(Wf.V.mk 61 [] (l[i]).1.tag [(l[i]).2]).print) (List.mem_map.2 ⟨_,List.mem_map.2 ⟨l[i],List.getElem_mem g3,rfl⟩,rfl⟩)
          rw [Wf.print_tag] at h3
          simp only [List.length_append,List.length_cons] at h3
          omega

def mx : List Nat → Nat
  | [] => 0
  | d :: l => max d (mx l)
theorem mx_snoc (l : List Nat) (d : Nat) : mx (l ++ [d]) = max (mx l) d:=by
  induction l with
  | nil => simp [mx]
  | cons a l ih => simp only [List.cons_append,mx,ih];omega
theorem deeps_mx (l : List Wf.V) : Wf.V.deeps l = mx (l.map Wf.V.deep):=by
  induction l with
  | nil => rfl
  | cons v l ih => simp [Wf.V.deeps,mx,ih]
set_option maxRecDepth 20000 in
set_option maxHeartbeats 2000000 in
theorem deep_w (b kb : Nat) (kv : Value) (bs ds : List Nat) (w : World) (hlt : b < w.heap.size) (c3 : w.cell? ⟨b,3,none⟩ = some kv) (hrow : RowAt w kb kv (bs.map ptr)) (hl : bs.length = ds.length) (hd : ∀ d ∈ ds,d ≤ 1000000)
    (hk : ∀ i (h1 : i < bs.length) (h2 : i < ds.length) wz,Below w.heap.size w wz → Calls Tryz.prog 55 #[ptr bs[i]] wz fun e w' => e = .returned (.int .i64 ds[i]) ∧ Below wz.heap.size wz w') :
    Calls Tryz.prog 55 #[ptr b] w fun e w' => e = .returned (.int .i64 (mx ds + 1 : Nat)) ∧ Below w.heap.size w w':=by
  obtain ⟨a,c,rfl,hnc,hcm⟩:=hrow.form
  obtain ⟨m,hm⟩ : ∃ m,(bs.map ptr).length = m:=⟨_,rfl⟩
  have hbm : bs.length = m:=by rw [← hm,List.length_map]
  have hpm : ds.length = m:=by omega
  have HBM:=hid hbm
  have HPM:=hid hpm
  have HMM:=hid hm
  rw [hm] at c3 hrow hnc
  have HROW:=hid hrow
  have HK:=hid hk
  have HD:=hid hd
  unfold maxLen at hcm
  clear hrow hk hl hd hm hbm hpm
  go_enter Tryz.func55,Tryz.ntmps55
  go_wp2_with fail
  go_loopw [3,4] (fun s3 s4 wr => ∃ (i d : Nat),s3 = .int .i64 d ∧ s4 = .int .i64 i ∧ i ≤ m ∧ d ≤ 1000000 ∧ Hid (d = mx (ds.take i) ∧ Below w.heap.size w wr)) (fun _ s4 _ => m - (RowKit.intOf s4).toNat)
  case atStart => exact ⟨0,0,rfl,rfl,Nat.zero_le _,by decide,hid ⟨rfl,Below.refl _ _⟩⟩
  case round =>
    obtain ⟨i,d,rfl,rfl,hi,hS,hh⟩:=hrel
    have hbw : b < wr.heap.size:=Nat.lt_of_lt_of_le hlt hh.out.2.size
    have y3:=(hh.out.2.cell (p:=⟨b,3,none⟩) hlt).trans c3
    by_cases hlt2 : i < m
    · have hib : i < bs.length:=by rw [HBM.out];exact hlt2
      have hip : i < ds.length:=by rw [HPM.out];exact hlt2
      obtain ⟨o,rfl,hkb,_,_,ck⟩:=HROW.out.get (i:=i) (by rw [HMM.out];exact hlt2)
      rw [List.getElem_map] at ck
      obtain ⟨u,hu⟩ : ∃ u,bs[i] = u:=⟨_,rfl⟩
      obtain ⟨D,hD⟩ : ∃ D,ds[i] = D:=⟨_,rfl⟩
      have hD6 : D ≤ 1000000:=by rw [← hD];exact HD.out _ (List.getElem_mem hip)
      rw [hu] at ck
      have hkw : kb < wr.heap.size:=Nat.lt_of_lt_of_le hkb hh.out.2.size
      have yk:=(hh.out.2.cell (p:=⟨kb,o + i,none⟩) hkb).trans ck
      have HC:=hid (show Calls Tryz.prog 55 #[ptr u] wr fun e w' => e = .returned (.int .i64 D) ∧ Below wr.heap.size wr w' by
        have:=HK.out i hib hip wr hh.out.2
        rw [hu,hD] at this
        exact this)
      have HS:=hid (show mx (ds.take (i + 1)) = max d D by
        have e : ds.take (i + 1) = ds.take i ++ [ds[i]]:=by rw [List.take_add_one,List.getElem?_eq_getElem hip];rfl
        rw [e,mx_snoc,hD,← hh.out.1])
      clear hu ck hD
      go_wp2_with (go_at_call 55;refine HC.out.mono ?_;rintro e w2 ⟨rfl,hb2⟩;have HB2:=hid hb2;clear hb2)
      go_roundw
      case rel => exact ⟨i + 1,max d D,by go_num,by go_num,by omega,by omega,hid ⟨HS.out.symm,hh.out.2.trans (HB2.out.mono hh.out.2.size)⟩⟩
      case measure => simp [RowKit.intOf];omega
    · have him : i = m:=by omega
      subst him
      have HX:=hid (show d + 1 = mx ds + 1 by rw [hh.out.1,List.take_of_length_le (by rw [HPM.out];exact Nat.le_refl _)])
      go_wp2_with fail
      go_ret
      exact ⟨by rw [← HX.out];rfl,hh.out.2⟩
theorem ldeep {x : Wf.Sc} : ∀ (n : Nat) (k : Wf.K) (v : Wf.V),Wf.Typed x n k v → n ≤ 1000000 → ∀ (P : Nat → Prop) (b : Nat) (W w : World),LV W P v b → Below W.heap.size W w → Calls Tryz.prog 55 #[ptr b] w fun e w' => e = .returned (.int .i64 v.deep) ∧ Below w.heap.size w w':=by
  intro n
  induction n with
  | zero => intro k v h;exact h.elim
  | succ n ih =>
    intro k v h hn P b W w hL hW
    obtain ⟨hlt,kd,t,tv,kv,tb,kb,bs,c0,c1,c2,c3,r1,r2,hs,hk⟩:=hL.at (Wf.typed_ne h) hW
    have none : v.kids = [] → Calls Tryz.prog 55 #[ptr b] w fun e w' => e = .returned (.int .i64 v.deep) ∧ Below w.heap.size w w':=fun h0 => by
      rw [h0] at hk
      obtain rfl:=hk.none
      have h1:=deep_w b kb kv [] [] w hlt c3 r2 rfl (fun d hd => by simp at hd) (fun i h1 => by simp at h1)
      have e : v.deep = mx [] + 1:=by
        cases v with
        | mk what text tag kids =>
          simp only [Wf.V.kids] at h0
          subst h0
          have hw : what ≠ 61:=Wf.typed_ne h
          rw [Wf.deep_ne hw]
          rfl
      rw [e];exact h1
    have one : ∀ u kk,v.kids = [u] → Wf.Typed x n kk u → Calls Tryz.prog 55 #[ptr b] w fun e w' => e = .returned (.int .i64 v.deep) ∧ Below w.heap.size w w':=fun u kk h0 hu => by
      rw [h0] at hk
      obtain ⟨ub,rfl,hu2⟩:=hk.one
      have hud:=(Wf.typed_deep n kk u hu).2
      have h1:=deep_w b kb kv [ub] [u.deep] w hlt c3 r2 rfl (fun d hd => by simp at hd;subst hd;omega) (fun i h1 h2 wz hz => by
        have : i = 0:=by simp at h1;exact h1
        subst this
        exact ih kk u hu (by omega) P ub W wz hu2 (hW.trans (hz.mono hW.size)))
      have e : v.deep = mx [u.deep] + 1:=by
        cases v with
        | mk what text tag kids =>
          simp only [Wf.V.kids] at h0
          subst h0
          have hw : what ≠ 61:=Wf.typed_ne h
          rw [Wf.deep_ne hw,deeps_mx]
          rfl
      rw [e];exact h1
    cases k with
    | num => obtain ⟨m,hm,rfl⟩:=h;exact none rfl
    | txt => obtain ⟨d,h1,h2,rfl⟩:=h;exact none rfl
    | flag => rcases h with rfl | rfl <;> exact none rfl
    | list k =>
      obtain ⟨l,h20,hl,rfl⟩:=h
      simp only [Wf.V.kids] at hk
      have h1:=deep_w b kb kv bs (l.map Wf.V.deep) w hlt c3 r2 (by rw [hk.len,List.length_map]) (fun d hd => by
        obtain ⟨u,hu,rfl⟩:=List.mem_map.1 hd
        have:=(Wf.typed_deep n k u (hl u hu)).2
        omega) (fun i g1 g2 wz hz => by
        have g3 : i < l.length:=by simpa using g2
        rw [List.getElem_map]
        exact ih k l[i] (hl _ (List.getElem_mem g3)) (by omega) P bs[i] W wz (hk.get i g3 g1) (hW.trans (hz.mono hW.size)))
      have e : (Wf.V.mk 91 [] 0 l).deep = mx (l.map Wf.V.deep) + 1:=by rw [Wf.deep_ne (by decide),deeps_mx]
      rw [e];exact h1
    | opt k =>
      rcases h with rfl | ⟨u,hu,rfl⟩
      · exact none rfl
      · exact one u k rfl hu
    | ref nm =>
      obtain ⟨ty,hty,h⟩:=h
      rcases h with ⟨_,f,hf,hf2,rfl⟩ | ⟨_,_,f,u,hf,hf2,hu,rfl⟩ | ⟨_,_,l,hasc,hl,rfl⟩
      · exact none rfl
      · exact one u f.kind rfl hu
      · simp only [Wf.V.kids] at hk
        have hk2:=hk.fields
        have hbl : bs.length = l.length:=by rw [hk2.len,List.length_map]
        have h1:=deep_w b kb kv bs (l.map fun e => e.2.deep) w hlt c3 r2 (by rw [hbl,List.length_map]) (fun d hd => by
          obtain ⟨e,he,rfl⟩:=List.mem_map.1 hd
          have:=(Wf.typed_deep n e.1.kind e.2 (hl e he).2.2.2.1).2
          omega) (fun i g1 g2 wz hz => by
          have g3 : i < l.length:=by simpa using g2
          have g4 : i < (l.map (·.2)).length:=by simpa using g3
          have hv:=hk2.get i g4 g1
          rw [List.getElem_map] at hv
          rw [List.getElem_map]
          exact ih (l[i]).1.kind (l[i]).2 (hl _ (List.getElem_mem g3)).2.2.2.1 (by omega) P bs[i] W wz hv (hW.trans (hz.mono hW.size)))
        have e : (Wf.V.mk 82 [] 0 (l.map fun e => Wf.V.mk 61 [] e.1.tag [e.2])).deep = mx (l.map fun e => e.2.deep) + 1:=by
          rw [Wf.deep_ne (by decide),deeps_mx,List.map_map]
          congr 2
          apply List.map_congr_left
          intro e _
          exact Wf.deep_tag e.1.tag e.2
        rw [e];exact h1
end Go.Proofs.YtmdacedmjbiekaaGreatDoor

namespace Wf
set_option linter.unusedVariables false
set_option linter.unusedSimpArgs false
def not39 (c : UInt8) : Bool:=c != 39
theorem txt_not39 {c : UInt8} (h : isTxt c = true) : not39 c = true:=by
  unfold not39
  rw [bne_iff_ne]
  intro e
  rw [e,isTxt_39] at h
  cases h
theorem span_split {p q : UInt8 → Bool} (hpq : ∀ c,p c = true → q c = true) : ∀ (b : Bs) (c : UInt8) (r : Bs),b.all p = true → q c = false → (b ++ c :: r).takeWhile q = b ∧ (b ++ c :: r).dropWhile q = c :: r:=by
  intro b
  induction b with
  | nil => intro c r _ hc;simp [hc]
  | cons a b ih =>
    intro c r hb hc
    simp only [List.all_cons,Bool.and_eq_true] at hb
    obtain ⟨h1,h2⟩:=ih c r hb.2 hc
    simp [hpq a hb.1,h1,h2]
def txtEnd (s : Bs) : Nat:=min (1 + (s.tail.takeWhile not39).length + 1) s.length
theorem txtEnd_le (s : Bs) : txtEnd s ≤ s.length:=Nat.min_le_right _ _
theorem parse_txt_ref (x : Sc) (n : Nat) (c0 : UInt8) (r : Bs) : parse x (n + 1) .txt (c0 :: r) = if quoted ((c0 :: r).take (txtEnd (c0 :: r))) = true then some (.mk 116 ((c0 :: r).take (txtEnd (c0 :: r))).tail.dropLast 0 [],(c0 :: r).drop (txtEnd (c0 :: r))) else none:=by
  have hsp:=List.takeWhile_append_dropWhile (p:=not39) (l:=r)
  cases hd : r.dropWhile not39 with
  | nil =>
    rw [hd,List.append_nil] at hsp
    have hno : (39 : UInt8) ∉ r:=by
      intro hm
      rw [← hsp] at hm
      have hall : (r.takeWhile not39).all not39 = true:=List.all_takeWhile
      have:=List.all_eq_true.1 hall 39 hm
      simp [not39] at this
    have he : txtEnd (c0 :: r) = (c0 :: r).length:=by
      unfold txtEnd
      rw [List.tail_cons,hsp]
      simp
    rw [he,List.take_length,if_neg]
    · by_cases h0 : c0 = 39
      · subst h0
        refine parse_txt_no2 x n rfl ?_
        intro h
        have hm : (39 : UInt8) ∈ r.dropWhile isTxt:=List.mem_of_head? h
        exact hno ((List.dropWhile_sublist _).subset hm)
      · exact parse_txt_no1 x n (by simpa using h0)
    · intro hq
      obtain ⟨b,hb,_,_⟩:=quoted_iff.1 hq
      simp only [List.cons.injEq] at hb
      exact hno (by rw [hb.2];simp)
  | cons d q =>
    have hd39 : d = 39:=by
      have:=List.head?_dropWhile_not (p:=not39) (l:=r)
      rw [hd] at this
      simpa [not39] using this
    subst hd39
    rw [hd] at hsp
    obtain ⟨b,hbdef⟩ : ∃ b,r.takeWhile not39 = b:=⟨_,rfl⟩
    rw [hbdef] at hsp
    have he : txtEnd (c0 :: r) = b.length + 2:=by
      unfold txtEnd
      rw [List.tail_cons,hbdef,← hsp]
      simp
      omega
    have ht : (c0 :: r).take (b.length + 2) = c0 :: (b ++ [39]):=by
      rw [← hsp,List.take_succ_cons,List.take_append,List.take_of_length_le (by omega)]
      simp
    have hdr : (c0 :: r).drop (b.length + 2) = q:=by
      rw [← hsp,List.drop_succ_cons,List.drop_append,List.drop_of_length_le (by omega)]
      simp
    rw [he,ht,hdr]
    have htl : (c0 :: (b ++ [39])).tail.dropLast = b:=by simp
    rw [htl]
    have hb39 : b.all not39 = true:=by rw [← hbdef];exact List.all_takeWhile
    by_cases h0 : c0 = 39
    · subst h0
      by_cases hall : b.all isTxt = true
      · obtain ⟨e1,e2⟩:=span_split (p:=isTxt) (q:=isTxt) (fun _ h => h) b 39 q hall isTxt_39
        rw [hsp] at e1 e2
        by_cases hl : b.length ≤ 12
        · rw [if_pos (quoted_iff.2 ⟨b,rfl,hall,hl⟩),parse_txt_yes x n rfl e2 (by rw [e1];exact hl),e1]
        · rw [if_neg,parse_txt_no3 x n rfl (by rw [e1];exact hl)]
          intro hq
          obtain ⟨b',hb',_,h12⟩:=quoted_iff.1 hq
          simp only [List.cons.injEq,true_and] at hb'
          have:=congrArg List.length hb'
          simp at this
          omega
      · rw [if_neg]
        · refine parse_txt_no2 x n rfl ?_
          intro h
          cases hdd : r.dropWhile isTxt with
          | nil => rw [hdd] at h;simp at h
          | cons d2 q2 =>
            rw [hdd] at h
            simp only [List.head?_cons,Option.some.injEq] at h
            subst h
            have hs2:=List.takeWhile_append_dropWhile (p:=isTxt) (l:=r)
            rw [hdd] at hs2
            have ha2 : (r.takeWhile isTxt).all isTxt = true:=List.all_takeWhile
            obtain ⟨e1,_⟩:=span_split (p:=isTxt) (q:=not39) (fun _ h => txt_not39 h) (r.takeWhile isTxt) 39 q2 ha2 (by decide)
            rw [hs2,hbdef] at e1
            rw [e1] at hall
            exact hall ha2
        · intro hq
          obtain ⟨b',hb',ha,_⟩:=quoted_iff.1 hq
          simp only [List.cons.injEq,true_and] at hb'
          have:=List.append_inj_left' hb' rfl
          rw [this] at hall
          exact hall ha
    · rw [if_neg,parse_txt_no1 x n (by simpa using h0)]
      intro hq
      obtain ⟨b',hb',_,_⟩:=quoted_iff.1 hq
      simp only [List.cons.injEq] at hb'
      exact h0 hb'.1
end Wf

namespace Wf
set_option linter.unusedVariables false
set_option linter.unusedSimpArgs false
theorem parse_yes (x : Sc) (n : Nat) (q : Bs) : parse x (n + 1) .flag (121 :: 101 :: 115 :: q) = some (.mk 102 [121,101,115] 0 [],q):=by simp only [parse]
theorem parse_no (x : Sc) (n : Nat) (q : Bs) : parse x (n + 1) .flag (110 :: 111 :: q) = some (.mk 102 [110,111] 0 [],q):=by simp only [parse]
theorem parse_flag_none (x : Sc) (n : Nat) {s : Bs} (h1 : ¬ [121,101,115] <+: s) (h2 : ¬ [110,111] <+: s) : parse x (n + 1) .flag s = none:=by
  simp only [parse]
  split
  · rename_i q;exact absurd ⟨q,rfl⟩ h1
  · rename_i q;exact absurd ⟨q,rfl⟩ h2
  · rfl
theorem parse_nil (x : Sc) (n : Nat) (k : K) : parse x n k [] = none:=by
  cases hp : parse x n k [] with
  | none => rfl
  | some y => have:=parse_lt (v:=y.1) (r:=y.2) hp;simp at this
theorem parse_zero (x : Sc) (k : K) (s : Bs) : parse x 0 k s = none:=rfl
def itemsL (p : Reads) (acc : List V) (s : Bs) : Option (List V × Bs):=match items p s with
  | some (l,q) => if acc.length + l.length ≤ 20 then some (acc ++ l,q) else none
  | none => none
theorem itemsL_step {p : Reads} (hp : ∀ s v r,p s = some (v,r) → r.length < s.length) (acc : List V) (s : Bs) : itemsL p acc s = match p s with
    | none => none
    | some (v,rest) =>
      match rest with
      | 44 :: r => itemsL p (acc ++ [v]) r
      | 93 :: r => if acc.length + 1 ≤ 20 then some (acc ++ [v],r) else none
      | _ => none:=by
  unfold itemsL
  rw [items_step hp]
  cases hq : p s with
  | none => rfl
  | some y =>
    obtain ⟨v,rest⟩:=y
    dsimp only
    split
    · rename_i l q hl
      split at hl
      · rename_i r
        rw [Option.map_eq_some_iff] at hl
        obtain ⟨z,hz,hz2⟩:=hl
        simp only [Prod.mk.injEq] at hz2
        obtain ⟨rfl,rfl⟩:=hz2
        simp only [hz]
        simp only [List.length_cons,List.length_append,List.length_nil,List.append_assoc,List.cons_append,List.nil_append]
        by_cases h20 : acc.length + (z.1.length + 1) ≤ 20
        · rw [if_pos h20,if_pos (by omega)]
        · rw [if_neg h20,if_neg (by omega)]
      · simp only [Option.some.injEq,Prod.mk.injEq] at hl
        obtain ⟨rfl,rfl⟩:=hl
        rfl
      · cases hl
    · rename_i hl
      split at hl
      · rename_i r
        rw [Option.map_eq_none_iff] at hl
        simp only [hl]
      · cases hl
      · rename_i h1 h2
        split
        · exact (h1 _ rfl).elim
        · exact (h2 _ rfl).elim
        · rfl
theorem itemsL_full {p : Reads} (hp : ∀ s v r,p s = some (v,r) → r.length < s.length) {acc : List V} (h : 20 ≤ acc.length) (s : Bs) : itemsL p acc s = none:=by
  unfold itemsL
  cases hi : items p s with
  | none => rfl
  | some y =>
    have:=List.length_pos_iff.2 (items_ne hp (l:=y.1) (q:=y.2) hi)
    dsimp only
    rw [if_neg (by omega)]
theorem itemsL_nil {p : Reads} (s : Bs) : itemsL p [] s = match items p s with
    | none => none
    | some (l,q) => if l.length ≤ 20 then some (l,q) else none:=by
  unfold itemsL
  cases items p s with
  | none => rfl
  | some y => simp
theorem parse_list_no (x : Sc) (n : Nat) (k : K) {s : Bs} (h : s.head? ≠ some 91) : parse x (n + 1) (.list k) s = none:=by
  rw [parse_list]
  split
  · simp at h
  · rfl
theorem parse_list_nil (x : Sc) (n : Nat) (k : K) (q : Bs) : parse x (n + 1) (.list k) (91 :: 93 :: q) = some (.mk 91 [] 0 [],q):=by simp only [parse_list]
theorem parse_list_items (x : Sc) (n : Nat) (k : K) {r : Bs} (h : r.head? ≠ some 93) : parse x (n + 1) (.list k) (91 :: r) = (itemsL (parse x n k) [] r).map fun y => (.mk 91 [] 0 y.1,y.2):=by
  simp only [parse_list]
  split
  · simp at h
  · rw [itemsL_nil]
    cases items (parse x n k) r with
    | none => rfl
    | some y => simp only [];split <;> rfl
theorem parse_opt_none (x : Sc) (n : Nat) (k : K) (q : Bs) : parse x (n + 1) (.opt k) (45 :: q) = some (.mk 63 [] 0 [],q):=by simp only [parse_opt]
theorem parse_opt_some (x : Sc) (n : Nat) (k : K) (r : Bs) : parse x (n + 1) (.opt k) (43 :: r) = (parse x n k r).map fun y => (.mk 63 [] 0 [y.1],y.2):=by simp only [parse_opt]
theorem parse_opt_no (x : Sc) (n : Nat) (k : K) {s : Bs} (h1 : s.head? ≠ some 45) (h2 : s.head? ≠ some 43) : parse x (n + 1) (.opt k) s = none:=by
  rw [parse_opt]
  split
  · simp at h1
  · simp at h2
  · rfl
def fldsL (x : Sc) (t : Ty) (p : K → Reads) (acc : List V) (last : Nat) (s : Bs) : Option (List V × Bs):=(flds x t p last s).map fun y => (acc ++ y.1,y.2)
theorem fldsL_step {x : Sc} {t : Ty} {p : K → Reads} (hp : ∀ k s v r,p k s = some (v,r) → r.length < s.length) (acc : List V) (last : Nat) (s : Bs) : fldsL x t p acc last s = match fieldTok t p s with
    | none => none
    | some (f,v,rest) =>
      if f.tag ≤ last ∨ v.print = standF x f then none else
      match rest with
      | 44 :: r => fldsL x t p (acc ++ [.mk 61 [] f.tag [v]]) f.tag r
      | 125 :: r => some (acc ++ [.mk 61 [] f.tag [v]],r)
      | _ => none:=by
  unfold fldsL
  rw [flds_step hp]
  cases hq : fieldTok t p s with
  | none => rfl
  | some y =>
    obtain ⟨f,v,rest⟩:=y
    dsimp only
    split
    · rfl
    · split
      · rw [Option.map_map]
        congr 1
        funext y
        simp
      · rfl
      · rename_i h1 h2
        split
        · exact (h1 _ rfl).elim
        · exact (h2 _ rfl).elim
        · rfl
theorem parse_rec_no (x : Sc) (n : Nat) {nm : Bs} {t : Ty} (h : x.find nm = some t) (h82 : t.sort = 82) {s : Bs} (hs : s.head? ≠ some 123) : parse x (n + 1) (.ref nm) s = none:=by
  rw [parse_ref x n nm t h,parseTy_rec _ _ _ _ h82]
  split
  · simp at hs
  · rfl
theorem parse_rec_nil (x : Sc) (n : Nat) {nm : Bs} {t : Ty} (h : x.find nm = some t) (h82 : t.sort = 82) (q : Bs) : parse x (n + 1) (.ref nm) (123 :: 125 :: q) = some (.mk 82 [] 0 [],q):=by
  simp only [parse_ref x n nm t h,parseTy_rec _ _ _ _ h82]
theorem parse_rec_flds (x : Sc) (n : Nat) {nm : Bs} {t : Ty} (h : x.find nm = some t) (h82 : t.sort = 82) {r : Bs} (hr : r.head? ≠ some 125) : parse x (n + 1) (.ref nm) (123 :: r) = (fldsL x t (fun k' s' => parse x n k' s') [] 0 r).map fun y => (.mk 82 [] 0 y.1,y.2):=by
  simp only [parse_ref x n nm t h,parseTy_rec _ _ _ _ h82]
  split
  · simp at hr
  · unfold fldsL
    rw [Option.map_map]
    congr 1
theorem parse_uni_no (x : Sc) (n : Nat) {nm : Bs} {t : Ty} (h : x.find nm = some t) (h85 : t.sort = 85) {s : Bs} (hs : s.head? ≠ some 60) : parse x (n + 1) (.ref nm) s = none:=by
  rw [parse_ref x n nm t h,parseTy_uni _ _ _ _ h85]
  split
  · simp at hs
  · rfl
theorem parse_uni_some (x : Sc) (n : Nat) {nm : Bs} {t : Ty} (h : x.find nm = some t) (h85 : t.sort = 85) {r q : Bs} {f : Fd} {v : V} (hf : fieldTok t (fun k' s' => parse x n k' s') r = some (f,v,62 :: q)) : parse x (n + 1) (.ref nm) (60 :: r) = some (.mk 85 [] f.tag [v],q):=by
  simp only [parse_ref x n nm t h,parseTy_uni _ _ _ _ h85,hf]
  rfl
theorem parse_uni_open (x : Sc) (n : Nat) {nm : Bs} {t : Ty} (h : x.find nm = some t) (h85 : t.sort = 85) {r q : Bs} {f : Fd} {v : V} (hf : fieldTok t (fun k' s' => parse x n k' s') r = some (f,v,q)) (hq : q.head? ≠ some 62) : parse x (n + 1) (.ref nm) (60 :: r) = none:=by
  simp only [parse_ref x n nm t h,parseTy_uni _ _ _ _ h85,hf]
  unfold closeU
  split
  · simp at hq
  · rfl
theorem parse_uni_bad (x : Sc) (n : Nat) {nm : Bs} {t : Ty} (h : x.find nm = some t) (h85 : t.sort = 85) {r : Bs} (hf : fieldTok t (fun k' s' => parse x n k' s') r = none) : parse x (n + 1) (.ref nm) (60 :: r) = none:=by
  simp only [parse_ref x n nm t h,parseTy_uni _ _ _ _ h85,hf]
theorem parse_enm_no (x : Sc) (n : Nat) {nm : Bs} {t : Ty} (h : x.find nm = some t) (h69 : t.sort = 69) {s : Bs} (hs : s.head? ≠ some 35) : parse x (n + 1) (.ref nm) s = none:=by
  rw [parse_ref x n nm t h,parseTy_enm _ _ _ _ h69]
  split
  · simp at hs
  · rfl
theorem parse_enm_num (x : Sc) (n : Nat) {nm : Bs} {t : Ty} (h : x.find nm = some t) (h69 : t.sort = 69) {r : Bs} (hr : numTok 200 r = none) : parse x (n + 1) (.ref nm) (35 :: r) = none:=by
  simp only [parse_ref x n nm t h,parseTy_enm _ _ _ _ h69,hr]
theorem parse_enm_tag (x : Sc) (n : Nat) {nm : Bs} {t : Ty} (h : x.find nm = some t) (h69 : t.sort = 69) {r q : Bs} {g : Nat} (hr : numTok 200 r = some (g,q)) : parse x (n + 1) (.ref nm) (35 :: r) = if (t.field g).isSome then some (.mk 69 [] g [],q) else none:=by
  simp only [parse_ref x n nm t h,parseTy_enm _ _ _ _ h69,hr]
theorem fieldTok_no (t : Ty) (p : K → Reads) {s : Bs} (h : numTok 200 s = none) : fieldTok t p s = none:=by
  unfold fieldTok
  rw [h]
theorem fieldTok_eq (t : Ty) (p : K → Reads) {s r : Bs} {g : Nat} (h : numTok 200 s = some (g,r)) (hr : r.head? ≠ some 61) : fieldTok t p s = none:=by
  unfold fieldTok
  rw [h]
  dsimp only
  split
  · simp at hr
  · rfl
theorem fieldTok_tag (t : Ty) (p : K → Reads) {s r : Bs} {g : Nat} (h : numTok 200 s = some (g,r)) (hf : t.field g = none) : fieldTok t p s = none:=by
  unfold fieldTok
  simp only [h,hf]
theorem fieldTok_some (t : Ty) (p : K → Reads) {s r : Bs} {g : Nat} {f : Fd} (h : numTok 200 s = some (g,61 :: r)) (hf : t.field g = some f) : fieldTok t p s = (p f.kind r).map fun y => (f,y.1,y.2):=by
  unfold fieldTok
  simp only [h,hf]
end Wf

namespace Go.Proofs.YtmdacedmjbiekaaGreatDoor
open Go.ChangeShapes Go.WideShapes Go.ChangeAt Go.RowKit Go.Lib
set_option linter.unusedVariables false
set_option linter.unusedSimpArgs false
theorem tw_in {p : UInt8 → Bool} : ∀ {l : List UInt8} {i : Nat},i < (l.takeWhile p).length → ∃ c,l[i]? = some c ∧ p c = true:=by
  intro l
  induction l with
  | nil => intro i h;simp at h
  | cons a l ih =>
    intro i h
    by_cases ha : p a = true
    · rw [List.takeWhile_cons_of_pos ha] at h
      cases i with
      | zero => exact ⟨a,rfl,ha⟩
      | succ i => exact ih (by simpa using h)
    · rw [List.takeWhile_cons_of_neg ha] at h;simp at h
theorem tw_at {p : UInt8 → Bool} : ∀ {l : List UInt8} {c : UInt8},l[(l.takeWhile p).length]? = some c → p c = false:=by
  intro l
  induction l with
  | nil => intro c h;simp at h
  | cons a l ih =>
    intro c h
    by_cases ha : p a = true
    · rw [List.takeWhile_cons_of_pos ha] at h
      exact ih (by simpa using h)
    · rw [List.takeWhile_cons_of_neg ha] at h
      simp at h
      subst h
      simpa using ha
theorem tw_le (p : UInt8 → Bool) (l : List UInt8) : (l.takeWhile p).length ≤ l.length:=(List.takeWhile_prefix p).length_le
theorem tw_take (p : UInt8 → Bool) (l : List UInt8) : l.take (l.takeWhile p).length = l.takeWhile p:=(List.prefix_iff_eq_take.1 (List.takeWhile_prefix p)).symm
theorem tw_drop (p : UInt8 → Bool) (l : List UInt8) : l.drop (l.takeWhile p).length = l.dropWhile p:=by
  have h:=List.takeWhile_append_dropWhile (p:=p) (l:=l)
  have h2 : (l.takeWhile p ++ l.dropWhile p).drop (l.takeWhile p).length = l.dropWhile p:=List.drop_left
  rw [h] at h2
  exact h2
set_option maxRecDepth 20000 in
set_option maxHeartbeats 1000000 in
theorem l4Digits (s : ByteArray) (w : World) (hs : s.size ≤ 1048576) : Calls Tryz.prog 134 #[.string s] w fun e w' => e = .returned (.int .i64 ((s.data.toList.takeWhile Wf.isDig).length : Nat)) ∧ w = w':=by
  obtain ⟨T,hT⟩ : ∃ T,(s.data.toList.takeWhile Wf.isDig).length = T:=⟨_,rfl⟩
  have hle : T ≤ s.size:=by rw [← hT,← size_list];exact tw_le _ _
  have HIN:=hid fun (i : Nat) (h : i < T) => (by rw [← hT] at h;exact tw_in h : ∃ c,s.data.toList[i]? = some c ∧ Wf.isDig c = true)
  have HAT:=hid fun (c : UInt8) (h : s.data.toList[T]? = some c) => (by rw [← hT] at h;exact tw_at h : Wf.isDig c = false)
  rw [hT]
  clear hT
  go_enter Tryz.func134,Tryz.ntmps134
  go_wp2_with fail
  go_loop [3] (fun v => ∃ i : Nat,i ≤ T ∧ v = .int .i64 i) (fun v => T - (RowKit.intOf v).toNat)
  case atStart => exact ⟨0,Nat.zero_le _,rfl⟩
  case round =>
    obtain ⟨i,hi,rfl⟩:=hrel
    by_cases hlt : i < T
    · have his : i < s.size:=by omega
      obtain ⟨c,hc,e1⟩:=byte_at s i his
      obtain ⟨c',hc',hd⟩:=HIN.out i hlt
      rw [hc] at hc'
      obtain rfl:=Option.some.inj hc'
      obtain ⟨b,hb⟩ : ∃ b,c.toNat = b:=⟨_,rfl⟩
      rw [hb] at e1
      have h1 : 48 ≤ b:=by simp [Wf.isDig] at hd;omega
      have h2 : b ≤ 57:=by simp [Wf.isDig] at hd;omega
      clear hc hc' hd hb
      go_wp2_with fail
      go_round
      case rel => exact ⟨i + 1,by omega,by go_num⟩
      case measure => simp [RowKit.intOf];omega
    · have hiT : i = T:=by omega
      subst hiT
      by_cases his : i < s.size
      · obtain ⟨c,hc,e1⟩:=byte_at s i his
        have hd:=HAT.out c hc
        obtain ⟨b,hb⟩ : ∃ b,c.toNat = b:=⟨_,rfl⟩
        rw [hb] at e1
        by_cases h1 : 48 ≤ b
        · have h2 : 57 < b:=by
            simp [Wf.isDig] at hd
            omega
          clear hc hd hb
          go_wp2_with fail
          go_ret
          exact ⟨rfl,rfl⟩
        · have h2 : b < 48:=by omega
          clear hc hd hb h1
          go_wp2_with fail
          go_ret
          exact ⟨rfl,rfl⟩
      · go_wp2_with fail
        go_ret
        exact ⟨rfl,rfl⟩
theorem sl_pre (S : ByteArray) (T : Nat) (h : T ≤ S.size) : ∀ wz,(Instr.slice 9 (.string S) none (some (.int .i64 T)) none).run Tryz.prog wz = .ok (.string (S.extract 0 T)) wz:=fun wz => by
  have:=run_slice_string_h (P:=Tryz.prog) wz 9 S Tryz.underlying9 .i64 (T : Int) (by omega) (by omega)
  rw [this,Int.toNat_natCast]
theorem sl_suf (S : ByteArray) (T : Nat) (h : T ≤ S.size) : ∀ wz,(Instr.slice 9 (.string S) (some (.int .i64 T)) none none).run Tryz.prog wz = .ok (.string (S.extract T S.size)) wz:=fun wz => by
  have:=run_slice_string_l (P:=Tryz.prog) wz 9 S Tryz.underlying9 .i64 (T : Int) (by omega) (by omega)
  rw [this,Int.toNat_natCast]
theorem pre_list (S : ByteArray) (p : UInt8 → Bool) : (S.extract 0 (S.data.toList.takeWhile p).length).data.toList = S.data.toList.takeWhile p:=by
  rw [ext_list,List.drop_zero,Nat.sub_zero,tw_take]
theorem suf_list (S : ByteArray) (T : Nat) : (S.extract T S.size).data.toList = S.data.toList.drop T:=by
  rw [ext_list,List.take_of_length_le (by rw [List.length_drop,size_list];exact Nat.le_refl _)]
structure ZeroF (wr : World) (b : Nat) : Prop where
  lt : b < wr.heap.size
  r0 : wr.cell? ⟨b,0,none⟩ = some (.int .i64 0)
  r1 : wr.cell? ⟨b,1,none⟩ = some (.string ⟨#[]⟩)
  r2 : wr.cell? ⟨b,2,none⟩ = some (.string ⟨#[]⟩)
  r3 : wr.cell? ⟨b,3,none⟩ = some (.string ⟨#[]⟩)
  f0 : wr.frozen? ⟨b,0,none⟩ = false
  f1 : wr.frozen? ⟨b,1,none⟩ = false
  f2 : wr.frozen? ⟨b,2,none⟩ = false
  f3 : wr.frozen? ⟨b,3,none⟩ = false
theorem ZeroF.below {wr w2 : World} {b B : Nat} (h : ZeroF wr b) (hb : Below B wr w2) (hr : b < B) : ZeroF w2 b:=by
  have h1:=hb.block b hr
  have cd:=fun o => World.cell?_of_block (w:=wr) (w':=w2) (a:=⟨b,o,none⟩) h1
  have cf:=fun o => World.frozen?_of_block (w:=wr) (w':=w2) (a:=⟨b,o,none⟩) h1
  exact ⟨Nat.lt_of_lt_of_le h.lt hb.size,(cd 0).trans h.r0,(cd 1).trans h.r1,(cd 2).trans h.r2,(cd 3).trans h.r3,(cf 0).trans h.f0,(cf 1).trans h.f1,(cf 2).trans h.f2,(cf 3).trans h.f3⟩
theorem start_tag (w : World) (v : Value) (q n c : Nat) (N : ByteArray) (fa : Option Addr) (W1 : World) (hW1 : ((w.alloc (.cells #[v] 109)).alloc (.cells #[.int .u8 q, .string N, .slice fa n c] 82)).alloc (.cells #[.int .i64 0, .string ⟨#[]⟩, .string ⟨#[]⟩, .string ⟨#[]⟩] 86) = W1) :
    W1.cell? ⟨w.heap.size + 1,0,none⟩ = some (.int .u8 q) ∧ W1.cell? ⟨w.heap.size + 1,1,none⟩ = some (.string N) ∧ W1.cell? ⟨w.heap.size + 1,2,none⟩ = some (.slice fa n c) ∧ ZeroF W1 (w.heap.size + 1 + 1) ∧ Below w.heap.size w W1:=by
  have hB : Below w.heap.size w W1:=by
    rw [← hW1]
    exact ((((Below.refl _ _).alloc (Nat.le_refl _) _).alloc (by simp) _).alloc (by simp;omega) _)
  subst hW1
  refine ⟨?_, ?_, ?_,⟨?_, ?_, ?_, ?_, ?_, ?_, ?_, ?_, ?_⟩,hB⟩
  all_goals first | (simp [go_sem];done) | (simp [go_sem];omega)
def tagF (t : Wf.Ty) (s : List UInt8) : Option Wf.Fd:=(Wf.plainN (s.takeWhile Wf.isDig) 200).bind t.field
def TagOut (t : Wf.Ty) (s : List UInt8) (e : Ending) : Prop:=match tagF t s with
  | some f => e = .returned (.tuple #[.agg #[.int .i64 f.tag,tx f.name,tx (if t.sort = 69 then [] else f.kind.text),tx f.given],tx (s.dropWhile Wf.isDig), .bool true])
  | none => ∃ (m : Int) (a b c : ByteArray),e = .returned (.tuple #[.agg #[.int .i64 m, .string a, .string b, .string c],tx (s.dropWhile Wf.isDig), .bool false])
set_option maxRecDepth 20000 in
set_option maxHeartbeats 1000000 in
theorem tag_w (v : Value) (S : ByteArray) (hS : S.size ≤ 1048576) (q n c : Nat) (N : ByteArray) (fa : Option Addr) (m g' : Int) (A B C : ByteArray) (b1 b2 : Bool) (w : World)
    (hnum : ∀ wz,Calls Tryz.prog 135 #[.string (S.extract 0 (S.data.toList.takeWhile Wf.isDig).length), .int .i64 200] wz fun e w' => e = .returned (.tuple #[.int .i64 m, .bool b1]) ∧ Below wz.heap.size wz w')
    (hfld : ∀ wz,Below w.heap.size w wz → Calls Tryz.prog 50 #[.agg #[.int .u8 q, .string N, .slice fa n c], .int .i64 m] wz fun e w' => e = .returned (.tuple #[.agg #[.int .i64 g', .string A, .string B, .string C], .bool b2]) ∧ Below wz.heap.size wz w') :
    Calls Tryz.prog 133 #[.agg #[v], .string S, .agg #[.int .u8 q, .string N, .slice fa n c]] w fun e w' => e = .returned (.tuple #[.agg #[.int .i64 g', .string A, .string B, .string C],tx (S.data.toList.dropWhile Wf.isDig), .bool (b1 && b2)]) ∧ Below w.heap.size w w':=by
  have HDG:=hid fun wz => l4Digits S wz hS
  obtain ⟨T,hT⟩ : ∃ T,(S.data.toList.takeWhile Wf.isDig).length = T:=⟨_,rfl⟩
  have hle : T ≤ S.size:=by rw [← hT,← size_list];exact tw_le _ _
  have k1:=sl_pre S T hle
  have k2:=sl_suf S T hle
  have HR:=hid (show (⟨(S.data.toList.dropWhile Wf.isDig).toArray⟩ : ByteArray) = S.extract T S.size by rw [eq_list,suf_list,← hT,tw_drop])
  rw [hT] at hnum HDG
  have HNUM:=hid hnum
  have HFLD:=hid hfld
  have ST:=hid fun W1 h => start_tag w v q n c N fa W1 h
  clear hnum hfld hT
  cases b1 <;> cases b2
  all_goals
    go_enter Tryz.func133,Tryz.ntmps133
    go_wp2_with (first | (go_at_call 50;refine (HFLD.out _ B2.out).mono ?_;rintro e w3 ⟨rfl,hb3⟩;have B3:=hid (B2.out.trans (hb3.mono B2.out.size));obtain ⟨zl,zr0,zr1,zr2,zr3,zf0,zf1,zf2,zf3⟩:=Z2.out.below hb3 Z2.out.lt;clear hb3) | (go_at_call 135;obtain ⟨t0,t1,t2,z0,b0⟩:=ST.out _ rfl;refine (HNUM.out _).mono ?_;rintro e w2 ⟨rfl,hb2⟩;have hlt1:=Nat.lt_of_lt_of_le (Nat.lt_succ_self _) (Nat.le_of_lt z0.lt);have u0:=(hb2.cell (p:=⟨w.heap.size + 1,0,none⟩) hlt1).trans t0;have u1:=(hb2.cell (p:=⟨w.heap.size + 1,1,none⟩) hlt1).trans t1;have u2:=(hb2.cell (p:=⟨w.heap.size + 1,2,none⟩) hlt1).trans t2;have hl2:=Nat.lt_of_lt_of_le hlt1 hb2.size;have B2:=hid (below_join b0 hb2);have Z2:=hid (z0.below hb2 z0.lt);clear hb2 t0 t1 t2 z0 b0 hlt1) | (go_at_call 134;refine (HDG.out _).mono ?_;rintro e w1 ⟨rfl,rfl⟩))
    go_region
    all_goals (go_wp2_with fail)
    all_goals first | exact bodyPost_ret (v:=.tuple #[.agg #[.int .i64 g', .string A, .string B, .string C], .string (S.extract T S.size), .bool false]) (by simp [results,Tryz.results133,go_sem, *]) rfl ⟨by rw [← HR.out];rfl,by have BB:=B3.out;have hB:=BB.size;repeat (first | with_reducible exact BB | with_reducible refine Below.drew ?_ | with_reducible refine Below.setCell ?_ (by first | (simp;done) | (simp;omega)) _ | with_reducible refine Below.alloc ?_ (by first | exact BB.size | (simp;omega)) _)⟩ | exact bodyPost_ret (v:=.tuple #[.agg #[.int .i64 g', .string A, .string B, .string C], .string (S.extract T S.size), .bool true]) (by simp [results,Tryz.results133,go_sem, *]) rfl ⟨by rw [← HR.out];rfl,by have BB:=B3.out;have hB:=BB.size;repeat (first | with_reducible exact BB | with_reducible refine Below.drew ?_ | with_reducible refine Below.setCell ?_ (by first | (simp;done) | (simp;omega)) _ | with_reducible refine Below.alloc ?_ (by first | exact BB.size | (simp;omega)) _)⟩
set_option maxRecDepth 20000 in
set_option maxHeartbeats 1000000 in
theorem tag_no (v : Value) (S : ByteArray) (hS : S.size ≤ 1048576) (q n c : Nat) (N : ByteArray) (fa : Option Addr) (w : World)
    (hnum : ∀ wz,Calls Tryz.prog 135 #[.string (S.extract 0 (S.data.toList.takeWhile Wf.isDig).length), .int .i64 200] wz fun e w' => (∃ m : Int,e = .returned (.tuple #[.int .i64 m, .bool false])) ∧ Below wz.heap.size wz w')
    (hfld : ∀ (m : Int) wz,Below w.heap.size w wz → Calls Tryz.prog 50 #[.agg #[.int .u8 q, .string N, .slice fa n c], .int .i64 m] wz fun e w' => (∃ (g' : Int) (A B C : ByteArray) (b2 : Bool),e = .returned (.tuple #[.agg #[.int .i64 g', .string A, .string B, .string C], .bool b2])) ∧ Below wz.heap.size wz w') :
    Calls Tryz.prog 133 #[.agg #[v], .string S, .agg #[.int .u8 q, .string N, .slice fa n c]] w fun e w' => (∃ (g' : Int) (A B C : ByteArray),e = .returned (.tuple #[.agg #[.int .i64 g', .string A, .string B, .string C],tx (S.data.toList.dropWhile Wf.isDig), .bool false])) ∧ Below w.heap.size w w':=by
  have HDG:=hid fun wz => l4Digits S wz hS
  obtain ⟨T,hT⟩ : ∃ T,(S.data.toList.takeWhile Wf.isDig).length = T:=⟨_,rfl⟩
  have hle : T ≤ S.size:=by rw [← hT,← size_list];exact tw_le _ _
  have k1:=sl_pre S T hle
  have k2:=sl_suf S T hle
  have HR:=hid (show (⟨(S.data.toList.dropWhile Wf.isDig).toArray⟩ : ByteArray) = S.extract T S.size by rw [eq_list,suf_list,← hT,tw_drop])
  rw [hT] at hnum HDG
  have HNUM:=hid hnum
  have HFLD:=hid hfld
  have ST:=hid fun W1 h => start_tag w v q n c N fa W1 h
  clear hnum hfld hT
  go_enter Tryz.func133,Tryz.ntmps133
  go_wp2_with (first | (go_at_call 50;refine (HFLD.out _ _ B2.out).mono ?_;rintro e w3 ⟨⟨g',A,B,C,b2,rfl⟩,hb3⟩;have B3:=hid (B2.out.trans (hb3.mono B2.out.size));obtain ⟨zl,zr0,zr1,zr2,zr3,zf0,zf1,zf2,zf3⟩:=Z2.out.below hb3 Z2.out.lt;clear hb3) | (go_at_call 135;obtain ⟨t0,t1,t2,z0,b0⟩:=ST.out _ rfl;refine (HNUM.out _).mono ?_;rintro e w2 ⟨⟨m,rfl⟩,hb2⟩;have hlt1:=Nat.lt_of_lt_of_le (Nat.lt_succ_self _) (Nat.le_of_lt z0.lt);have u0:=(hb2.cell (p:=⟨w.heap.size + 1,0,none⟩) hlt1).trans t0;have u1:=(hb2.cell (p:=⟨w.heap.size + 1,1,none⟩) hlt1).trans t1;have u2:=(hb2.cell (p:=⟨w.heap.size + 1,2,none⟩) hlt1).trans t2;have hl2:=Nat.lt_of_lt_of_le hlt1 hb2.size;have B2:=hid (below_join b0 hb2);have Z2:=hid (z0.below hb2 z0.lt);clear hb2 t0 t1 t2 z0 b0 hlt1) | (go_at_call 134;refine (HDG.out _).mono ?_;rintro e w1 ⟨rfl,rfl⟩))
  go_region
  all_goals (go_wp2_with fail)
  all_goals exact bodyPost_ret (v:=.tuple #[.agg #[.int .i64 g', .string A, .string B, .string C], .string (S.extract T S.size), .bool false]) (by simp [results,Tryz.results133,go_sem, *]) rfl ⟨⟨g',A,B,C,by rw [← HR.out]⟩,by have BB:=B3.out;have hB:=BB.size;repeat (first | with_reducible exact BB | with_reducible refine Below.drew ?_ | with_reducible refine Below.setCell ?_ (by first | (simp;done) | (simp;omega)) _ | with_reducible refine Below.alloc ?_ (by first | exact BB.size | (simp;omega)) _)⟩
theorem l4tag (t : Wf.Ty) (ht : t.fields.length ≤ 1000) (v : Value) (S : ByteArray) (hS : S.size ≤ 1048576) (fb c : Nat) (fa : Option Addr) (W w : World) (hW : Below W.heap.size W w) (H : RowK W fb (.slice fa t.fields.length c) 4 (t.fields.map (fdS t.sort))) :
    Calls Tryz.prog 133 #[.agg #[v], .string S, .agg #[.int .u8 t.sort.toNat,tx t.name, .slice fa t.fields.length c]] w fun e w' => TagOut t S.data.toList e ∧ Below w.heap.size w w':=by
  have hle : (S.extract 0 (S.data.toList.takeWhile Wf.isDig).length).size ≤ 9223372036854775807:=by rw [ByteArray.size_extract];omega
  have hnum:=fun wz => l3Num (S.extract 0 (S.data.toList.takeWhile Wf.isDig).length) 200 (by omega) wz hle
  rw [pre_list] at hnum
  have hf:=fun (g : Int) (wz : World) (hz : Below w.heap.size w wz) => l3field t ht g t.sort.toNat ⟨t.name.toArray⟩ fb fa c W wz (hW.trans (hz.mono hW.size)) H
  cases hp : Wf.plainN (S.data.toList.takeWhile Wf.isDig) 200 with
  | none =>
    refine (tag_no v S hS t.sort.toNat t.fields.length c ⟨t.name.toArray⟩ fa w (fun wz => (hnum wz).mono fun e w' ⟨h1,h2⟩ => ⟨by unfold NumOut at h1;rw [hp] at h1;exact h1,h2⟩) (fun m wz hz => (hf m wz hz).mono fun e w' ⟨h1,h2⟩ => ⟨?_,h2⟩)).mono fun e w' ⟨h1,h2⟩ => ⟨?_,h2⟩
    · rw [h1]
      cases fieldI t m with
      | none => exact ⟨_,_,_,_,_,rfl⟩
      | some f => exact ⟨_,_,_,_,_,rfl⟩
    · unfold TagOut tagF
      rw [hp]
      exact h1
  | some g =>
    have h1 : ∀ wz,Calls Tryz.prog 135 #[.string (S.extract 0 (S.data.toList.takeWhile Wf.isDig).length), .int .i64 200] wz fun e w' => e = .returned (.tuple #[.int .i64 g, .bool true]) ∧ Below wz.heap.size wz w':=fun wz => (hnum wz).mono fun e w' ⟨h1,h2⟩ => ⟨by unfold NumOut at h1;rw [hp] at h1;exact h1,h2⟩
    cases hg : t.field g with
    | none =>
      refine (tag_w v S hS t.sort.toNat t.fields.length c ⟨t.name.toArray⟩ fa g 0 ⟨#[]⟩ ⟨#[]⟩ ⟨#[]⟩ true false w h1 (fun wz hz => (hf g wz hz).mono fun e w' ⟨h3,h4⟩ => ⟨by rw [h3,fieldI_nat,hg];rfl,h4⟩)).mono fun e w' ⟨h5,h6⟩ => ⟨?_,h6⟩
      unfold TagOut tagF
      rw [hp,h5]
      simp only [Option.bind_some,hg]
      exact ⟨_,_,_,_,rfl⟩
    | some f =>
      refine (tag_w v S hS t.sort.toNat t.fields.length c ⟨t.name.toArray⟩ fa g f.tag ⟨f.name.toArray⟩ ⟨(if t.sort = 69 then [] else f.kind.text).toArray⟩ ⟨f.given.toArray⟩ true true w h1 (fun wz hz => (hf g wz hz).mono fun e w' ⟨h3,h4⟩ => ⟨by rw [h3,fieldI_nat,hg];rfl,h4⟩)).mono fun e w' ⟨h5,h6⟩ => ⟨?_,h6⟩
      unfold TagOut tagF
      rw [hp,h5]
      simp only [Option.bind_some,hg]
      rfl

theorem LkOut.form {l kt : List UInt8} {lo : Nat} {e : Ending} {w' : World} (h : LkOut l kt lo e w') : ∃ a n c b,e = .returned (.tuple #[.slice a n c, .bool b]):=by
  unfold LkOut at h
  cases hk : kindOf l kt with
  | none => rw [hk] at h;obtain ⟨a,n,c,rfl⟩:=h;exact ⟨_,_,_,_,rfl⟩
  | some y => rw [hk] at h;obtain ⟨b,a,c,rfl,_⟩:=h;exact ⟨_,_,_,_,rfl⟩
set_option maxRecDepth 20000 in
set_option maxHeartbeats 1000000 in
theorem l91Text (rb k : Nat) (w : World) (H : Rd w rb k) (hk : k ≤ 900000) :
    Calls Tryz.prog 144 #[.pointer (some ⟨rb,0,none⟩)] w fun e w' => ∃ b : List UInt8,e = .returned (tx (39 :: (b ++ [39]))) ∧ b.all Wf.isTxt = true ∧ b.length ≤ 12 ∧ Rd w' rb (k + 1) ∧ Beside rb w w':=by
  have R0:=H.lt
  go_enter Tryz.func144,Tryz.ntmps144
  go_wp2_with (go_at_call 44;refine (pick rb k 6 _ (H.alloc _) (by omega) (by omega)).mono ?_;rintro e w3 ⟨n,rfl,hn,_,hR3,hBs3⟩;obtain ⟨hn0,hn1⟩:=hn (by omega);obtain ⟨x,hx0,hx1,hxc⟩:=cell_picks 12 [[],[97],[104,105],[97,32,98],[122,122,57],[97,98,99,100,101,102,103,104,105,106,107,108]] hBs3 R0 n hn0 hn1 (by decide);have B3:=Lib.hid (((Beside.refl rb w).alloc _).trans hBs3);clear hBs3)
  have hall:=List.all_eq_true.1 (show ([[],[97],[104,105],[97,32,98],[122,122,57],[97,98,99,100,101,102,103,104,105,106,107,108]] : List (List UInt8)).all (fun b => b.all Wf.isTxt && decide (b.length ≤ 12)) = true by decide) _ hx1
  rw [Bool.and_eq_true,decide_eq_true_eq] at hall
  go_ret
  refine ⟨x.data.toList, ?_,hall.1,hall.2,hR3,B3.out⟩
  refine congrArg (fun s => Ending.returned (Value.string s)) ?_
  rw [eq_list]
  simp [ByteArray.data_append]
set_option maxRecDepth 20000 in
set_option maxHeartbeats 2000000 in
theorem l91Some (rb k : Nat) (s : ByteArray) (hs : s.size ≤ 1048576) (w : World) (H : Rd w rb k) (hk : k ≤ 800000) :
    Calls Tryz.prog 53 #[.pointer (some ⟨rb,0,none⟩), .string s] w fun e w' => ∃ K : ByteArray,e = .returned (.string K) ∧ K.size ≤ 100 ∧ Rd w' rb (k + 10) ∧ Beside rb w w':=by
  have R0:=H.lt
  have HK:=hid fun (kt : ByteArray) (wz : World) => l3Kind s kt wz hs
  go_enter Tryz.func53,Tryz.ntmps53
  go_wp2_with (first | (go_at_call 35;refine (HK.out x _).mono ?_;rintro e w4 ⟨ho,hb4⟩;obtain ⟨a,n,c,b,rfl⟩:=ho.form;have R4:=hid (hR3.below hb4 hR3.lt);have B4:=hid (B3.out.trans (Beside.of_below hb4 (Nat.le_refl _)));clear ho hb4;cases b) | (go_at_call 86;refine (l91Kind rb (k + 1) _ hR2 (by omega)).mono ?_;rintro e w3 ⟨K,rfl,hK,hR4,hBs4⟩;have B5:=hid (B2.out.trans hBs4);clear hBs4) | (go_at_call 44;have _u:=hR2;refine (pick rb (k + 1) 11 _ (hR2.alloc _) (by omega) (by omega)).mono ?_;rintro e w3 ⟨n,rfl,hn,_,hR3,hBs3⟩;obtain ⟨hn0,hn1⟩:=hn (by omega);obtain ⟨x,hx0,hx1,hxc⟩:=cell_picks 4 [[64,97,59],[64,97,59],[64,97,59],[64,98,59],[64,99,59],[91,110],[63,64,97,59],[110],[116],[91,64,98,59],[63,91,102]] hBs3 hR2.lt n hn0 hn1 (by decide);have B3:=Lib.hid ((B2.out.alloc _).trans hBs3);clear hBs3) | (go_at_call 44;refine (pick rb k 30 _ H (by omega) (by omega)).mono ?_;rintro e w2 ⟨v,rfl,hv,_,hR2,hBs⟩;obtain ⟨hv0,hv1⟩:=hv (by omega);have B2:=Lib.hid hBs;clear hBs hv;rcases (Bool.eq_false_or_eq_true (v == (0 : Int))) with hq | hq))
  all_goals go_ret
  all_goals first | exact ⟨K,rfl,by omega,hR4.mono (by omega),B5.out⟩ | exact ⟨_,rfl,by decide,R4.out.mono (by omega),B4.out⟩ | exact ⟨x,rfl,by omega,R4.out.mono (by omega),B4.out⟩
end Go.Proofs.YtmdacedmjbiekaaGreatDoor
