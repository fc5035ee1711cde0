/- The reference prints a value of a kind, and counts how deep it is. The reference counts how deep a value is. -/
import Derived.Test.YtmdacedmjbiekaaGreatDoorR6
import Derived.Test.YtmdacedmjbiekaaGreatDoorR4
namespace Go.Proofs.YtmdacedmjbiekaaGreatDoor
open Go.ChangeShapes Go.WideShapes Go.ChangeAt Go.RowKit Go.Lib
set_option linter.unusedVariables false
set_option linter.unusedSimpArgs false
set_option maxRecDepth 20000 in
theorem out_named (b : Nat) (KD O : ByteArray) (w : World) (hlt : b < w.heap.size) (hs : 0 < KD.size) (e0 : ∀ h, (KD[0]'h).toNat = 64) (c0 : w.cell? ⟨b, 0, none⟩ = some (.string KD))
    (hn : Calls Tryz.prog 88 #[ptr b] w fun e w' => e = .returned (.string O) ∧ Below w.heap.size w w') :
    Calls Tryz.prog 59 #[ptr b] w fun e w' => e = .returned (.string O) ∧ Below w.heap.size w w' := by
  have HN := hid hn
  clear hn
  go_enter Tryz.func59, Tryz.ntmps59
  go_wp2_with (go_at_call 88; refine HN.out.mono ?_; rintro e w2 ⟨rfl, hb2⟩; have HB2 := hid hb2; clear hb2)
  go_ret
  exact ⟨rfl, HB2.out⟩
/-- the cells of a value's block in a later world -/
theorem LV.at {W w : World} {P : Nat → Prop} {v : Wf.V} {b : Nat} (h : LV W P v b) (hw : v.what ≠ 61) (hW : Below W.heap.size W w) : b < w.heap.size ∧ ∃ (kd t : List UInt8) (tv kv : Value) (tb kb : Nat) (bs : List Nat),
      w.cell? ⟨b, 0, none⟩ = some (tx kd) ∧ w.cell? ⟨b, 1, none⟩ = some (tx t) ∧ w.cell? ⟨b, 2, none⟩ = some tv ∧ w.cell? ⟨b, 3, none⟩ = some kv ∧
      RowAt w tb tv ((tagsOf v.what v.tag v.kids).map ix) ∧ RowAt w kb kv (bs.map ptr) ∧ shapeR v.what v.text kd t ∧ LVs W P v.kids bs := by
  obtain ⟨_, hb, kd, t, tv, kv, tb, kb, bs, c0, c1, c2, c3, r1, r2, hs, hk⟩ := h.form hw
  exact ⟨Nat.lt_of_lt_of_le hb hW.size, kd, t, tv, kv, tb, kb, bs, (hW.cell (p := ⟨b, 0, none⟩) hb).trans c0, (hW.cell (p := ⟨b, 1, none⟩) hb).trans c1, (hW.cell (p := ⟨b, 2, none⟩) hb).trans c2, (hW.cell (p := ⟨b, 3, none⟩) hb).trans c3, r1.below hW id, r2.below hW id, hs, hk⟩
theorem LVs.one {W : World} {P : Nat → Prop} {v : Wf.V} {bs : List Nat} (h : LVs W P [v] bs) : ∃ u, bs = [u] ∧ LV W P v u := by
  simp only [LVs] at h
  obtain ⟨u, bs', rfl, h1, rfl⟩ := h
  exact ⟨u, rfl, h1⟩
theorem LVs.none {W : World} {P : Nat → Prop} {bs : List Nat} (h : LVs W P [] bs) : bs = [] := by
  simpa only [LVs] using h
/-- the fields of a record, without their tags -/
theorem LVs.fields {W : World} {P : Nat → Prop} : ∀ {l : List (Wf.Fd × Wf.V)} {bs : List Nat}, LVs W P (l.map fun e => .mk 61 [] e.1.tag [e.2]) bs → LVs W P (l.map (·.2)) bs := by
  intro l
  induction l with
  | nil => intro bs h; exact h
  | cons e l ih =>
    intro bs h
    simp only [List.map_cons, LVs] at h ⊢
    obtain ⟨b, bs', rfl, h1, h2⟩ := h
    exact ⟨b, bs', rfl, LV.field.1 h1, ih h2⟩
theorem tags_rec (l : List (Wf.Fd × Wf.V)) : tagsOf 82 0 (l.map fun e => .mk 61 [] e.1.tag [e.2]) = l.map (fun e => e.1.tag) := by
  unfold tagsOf
  rw [if_pos rfl, List.map_map]
  rfl
theorem parts_rec (l : List (Wf.Fd × Wf.V)) : (((l.map fun e => e.1.tag).zip (l.map fun e => e.2.print)).map fun y => Wf.dec y.1 ++ 61 :: y.2) = (l.map fun e => Wf.V.mk 61 [] e.1.tag [e.2]).map Wf.V.print := by
  induction l with
  | nil => rfl
  | cons e l ih => simp only [List.map_cons, List.zip_cons_cons, ih, Wf.print_tag]
theorem out {x : Wf.Sc} : ∀ (n : Nat) (k : Wf.K) (v : Wf.V), Wf.Typed x n k v → ∀ (P : Nat → Prop) (b : Nat) (W w : World), LV W P v b → Below W.heap.size W w → v.print.length ≤ 2000000 → Calls Tryz.prog 59 #[ptr b] w fun e w' => e = .returned (tx v.print) ∧ Below w.heap.size w w' := by
  intro n
  induction n with
  | zero => intro k v h; exact h.elim
  | succ n ih =>
    intro k v h P b W w hL hW hlen
    obtain ⟨hlt, kd, t, tv, kv, tb, kb, bs, c0, c1, c2, c3, r1, r2, hs, hk⟩ := hL.at (Wf.typed_ne h) hW
    have leaf : ∀ q : UInt8, (q.toNat = 110 ∨ q.toNat = 116 ∨ q.toNat = 102) → kd.head? = some q → t = v.print → Calls Tryz.prog 59 #[ptr b] w fun e w' => e = .returned (tx v.print) ∧ Below w.heap.size w w' := by
      intro q hq hkd ht
      obtain ⟨h1, h2⟩ := kd_first hkd
      refine (out_leaf b q.toNat ⟨kd.toArray⟩ ⟨t.toArray⟩ w hlt h1 h2 hq c0 c1).mono ?_
      rintro e w' ⟨rfl, rfl⟩
      exact ⟨by rw [ht], Below.refl _ _⟩
    cases k with
    | num =>
      obtain ⟨m, hm, rfl⟩ := h
      simp only [Wf.V.what, Wf.V.text, shapeR] at hs
      exact leaf 110 (.inl rfl) hs.1 (by rw [hs.2, Wf.print_num])
    | txt =>
      obtain ⟨d, h1, h2, rfl⟩ := h
      simp only [Wf.V.what, Wf.V.text, shapeR] at hs
      exact leaf 116 (.inr (.inl rfl)) hs.1 (by rw [hs.2, Wf.print_txt])
    | flag =>
      rcases h with rfl | rfl
      all_goals
        simp only [Wf.V.what, Wf.V.text, shapeR] at hs
        exact leaf 102 (.inr (.inr rfl)) hs.1 (by rw [hs.2, Wf.print_flag])
    | list k =>
      obtain ⟨l, h20, hl, rfl⟩ := h
      simp only [Wf.V.what, Wf.V.text, Wf.V.kids, shapeR] at hs hk
      obtain ⟨h1, h2⟩ := kd_first hs.1
      rw [Wf.print_list] at hlen ⊢
      have hcl : (Wf.commas (l.map Wf.V.print)).length ≤ 2000000 := by simp at hlen; omega
      refine out_list b kb ⟨kd.toArray⟩ kv bs (l.map Wf.V.print) w hlt h1 h2 c0 c3 r2 (by rw [hk.len, List.length_map]) hcl fun i g1 g2 wz hz => ?_
      have g3 : i < l.length := by simpa using g2
      rw [List.getElem_map]
      exact ih k l[i] (hl _ (List.getElem_mem g3)) P bs[i] W wz (hk.get i g3 g1) (hW.trans (hz.mono hW.size)) (Nat.le_trans (Wf.commas_mem (List.mem_map.2 ⟨_, List.getElem_mem g3, rfl⟩)) hcl)
    | opt k =>
      rcases h with rfl | ⟨u, hu, rfl⟩
      · simp only [Wf.V.what, Wf.V.text, Wf.V.kids, shapeR] at hs hk
        obtain ⟨h1, h2⟩ := kd_first hs.1
        obtain rfl := hk.none
        obtain ⟨a, c, rfl, _, _⟩ := r2.form
        refine (out_none b c ⟨kd.toArray⟩ a w hlt h1 h2 c0 c3).mono ?_
        rintro e w' ⟨rfl, rfl⟩
        exact ⟨by rw [Wf.print_none], Below.refl _ _⟩
      · simp only [Wf.V.what, Wf.V.text, Wf.V.kids, shapeR] at hs hk
        obtain ⟨h1, h2⟩ := kd_first hs.1
        obtain ⟨ub, rfl, hu2⟩ := hk.one
        obtain ⟨a, c, rfl, hnc, hcm⟩ := r2.form
        obtain ⟨o, rfl, hkb, _, _, ck⟩ := r2.get (i := 0) (by simp)
        rw [Wf.print_some] at hlen ⊢
        have hul : u.print.length ≤ 2000000 := by simp at hlen; omega
        exact out_some b kb o ub c ⟨kd.toArray⟩ ⟨u.print.toArray⟩ w hlt h1 h2 c0 c3 hkb ck hnc hcm (by rw [← size_list]; exact hul) fun wz hz => ih k u hu P ub W wz hu2 (hW.trans (hz.mono hW.size)) hul
    | ref nm =>
      obtain ⟨ty, hty, h⟩ := h
      rcases h with ⟨_, f, hf, hf2, rfl⟩ | ⟨_, _, f, u, hf, hf2, hu, rfl⟩ | ⟨_, _, l, hasc, hl, rfl⟩
      · simp only [Wf.V.what, Wf.V.text, Wf.V.kids, Wf.V.tag, shapeR] at hs hk r1
        obtain ⟨h1, h2⟩ := kd_first hs.1
        have htl : t = [69] := hs.2
        subst htl
        obtain ⟨a, c, rfl, hnc, hcm⟩ := r1.form
        obtain ⟨o, rfl, htb, _, _, ct⟩ := r1.get (i := 0) (by simp [tagsOf])
        rw [Wf.print_enm]
        exact out_named b ⟨kd.toArray⟩ ⟨(35 :: Wf.dec f.tag).toArray⟩ w hlt h1 h2 c0 (named_enm b tb o f.tag c _ w hlt c1 c2 (by simp [tagsOf]) hnc hcm htb (by simpa [tagsOf] using ct) (by omega))
      · simp only [Wf.V.what, Wf.V.text, Wf.V.kids, Wf.V.tag, shapeR] at hs hk r1
        obtain ⟨h1, h2⟩ := kd_first hs.1
        have htl : t = [85] := hs.2
        subst htl
        obtain ⟨ub, rfl, hu2⟩ := hk.one
        obtain ⟨a, c, rfl, hnc, hcm⟩ := r1.form
        obtain ⟨o, rfl, htb, _, _, ct⟩ := r1.get (i := 0) (by simp [tagsOf])
        obtain ⟨ka, kc, rfl, hkc, hkm⟩ := r2.form
        obtain ⟨p, rfl, hkb, _, _, ck⟩ := r2.get (i := 0) (by simp)
        rw [Wf.print_uni] at hlen ⊢
        have hul : u.print.length ≤ 2000000 := by simp at hlen; omega
        exact out_named b ⟨kd.toArray⟩ ⟨(60 :: (Wf.dec f.tag ++ 61 :: (u.print ++ [62]))).toArray⟩ w hlt h1 h2 c0 (named_uni b tb kb o p ub f.tag c _ _ kc ⟨u.print.toArray⟩ w hlt c1 c2 (by simp [tagsOf]) hnc hcm htb (by simpa [tagsOf] using ct) (by omega) c3 (by simp) hkc hkm hkb ck (by rw [← size_list]; exact hul) fun wz hz => ih f.kind u hu P ub W wz hu2 (hW.trans (hz.mono hW.size)) hul)
      · simp only [Wf.V.what, Wf.V.text, Wf.V.kids, Wf.V.tag, shapeR] at hs hk r1
        obtain ⟨h1, h2⟩ := kd_first hs.1
        have htl : t = [82] := hs.2
        subst htl
        rw [tags_rec] at r1
        have hk2 := hk.fields
        have hbl : bs.length = l.length := by rw [hk2.len, List.length_map]
        rw [Wf.print_rec, ← parts_rec] at hlen ⊢
        have hcl : (Wf.commas (((l.map fun e => e.1.tag).zip (l.map fun e => e.2.print)).map fun y => Wf.dec y.1 ++ 61 :: y.2)).length ≤ 2000000 := by simp only [List.length_cons, List.length_append, List.length_nil] at hlen; omega
        refine out_named b ⟨kd.toArray⟩ ⟨_⟩ w hlt h1 h2 c0 (named_rec b tb kb tv kv (l.map fun e => e.1.tag) bs (l.map fun e => e.2.print) w hlt c1 c2 c3 r1 r2 (by rw [List.length_map, hbl]) (by rw [List.length_map, hbl]) (fun g hg => ?_) hcl fun i g1 g2 wz hz => ?_)
        · obtain ⟨e, he, rfl⟩ := List.mem_map.1 hg
          have := (hl e he).2.2.1
          omega
        · have g3 : i < l.length := by simpa using g2
          have g4 : i < (l.map (·.2)).length := by simpa using g3
          have hv := hk2.get i g4 g1
          rw [List.getElem_map] at hv
          rw [List.getElem_map]
          refine ih (l[i]).1.kind (l[i]).2 (hl _ (List.getElem_mem g3)).2.2.2.1 P bs[i] W wz hv (hW.trans (hz.mono hW.size)) ?_
          rw [parts_rec] at hcl
          have h3 := Wf.commas_mem (l := (l.map fun e => Wf.V.mk 61 [] e.1.tag [e.2]).map Wf.V.print) (a := (Wf.V.mk 61 [] (l[i]).1.tag [(l[i]).2]).print) (List.mem_map.2 ⟨_, List.mem_map.2 ⟨l[i], List.getElem_mem g3, rfl⟩, rfl⟩)
          rw [Wf.print_tag] at h3
          simp only [List.length_append, List.length_cons] at h3
          omega
end Go.Proofs.YtmdacedmjbiekaaGreatDoor

namespace Go.Proofs.YtmdacedmjbiekaaGreatDoor
open Go.ChangeShapes Go.WideShapes Go.ChangeAt Go.RowKit Go.Lib
set_option linter.unusedVariables false
set_option linter.unusedSimpArgs false
/-- the greatest of some numbers -/
def mx : List Nat → Nat
  | [] => 0
  | d :: l => max d (mx l)
theorem mx_snoc (l : List Nat) (d : Nat) : mx (l ++ [d]) = max (mx l) d := by
  induction l with
  | nil => simp [mx]
  | cons a l ih => simp only [List.cons_append, mx, ih]; omega
theorem deeps_mx (l : List Wf.V) : Wf.V.deeps l = mx (l.map Wf.V.deep) := by
  induction l with
  | nil => rfl
  | cons v l ih => simp [Wf.V.deeps, mx, ih]
set_option maxRecDepth 20000 in
set_option maxHeartbeats 2000000 in
theorem deep_w (b kb : Nat) (kv : Value) (bs ds : List Nat) (w : World) (hlt : b < w.heap.size) (c3 : w.cell? ⟨b, 3, none⟩ = some kv) (hrow : RowAt w kb kv (bs.map ptr)) (hl : bs.length = ds.length) (hd : ∀ d ∈ ds, d ≤ 1000000)
    (hk : ∀ i (h1 : i < bs.length) (h2 : i < ds.length) wz, Below w.heap.size w wz → Calls Tryz.prog 55 #[ptr bs[i]] wz fun e w' => e = .returned (.int .i64 ds[i]) ∧ Below wz.heap.size wz w') :
    Calls Tryz.prog 55 #[ptr b] w fun e w' => e = .returned (.int .i64 (mx ds + 1 : Nat)) ∧ Below w.heap.size w w' := by
  obtain ⟨a, c, rfl, hnc, hcm⟩ := hrow.form
  obtain ⟨m, hm⟩ : ∃ m, (bs.map ptr).length = m := ⟨_, rfl⟩
  have hbm : bs.length = m := by rw [← hm, List.length_map]
  have hpm : ds.length = m := by omega
  have HBM := hid hbm
  have HPM := hid hpm
  have HMM := hid hm
  rw [hm] at c3 hrow hnc
  have HROW := hid hrow
  have HK := hid hk
  have HD := hid hd
  unfold maxLen at hcm
  clear hrow hk hl hd hm hbm hpm
  go_enter Tryz.func55, Tryz.ntmps55
  go_wp2_with fail
  go_loopw [3, 4] (fun s3 s4 wr => ∃ (i d : Nat), s3 = .int .i64 d ∧ s4 = .int .i64 i ∧ i ≤ m ∧ d ≤ 1000000 ∧ Hid (d = mx (ds.take i) ∧ Below w.heap.size w wr)) (fun _ s4 _ => m - (RowKit.intOf s4).toNat)
  case atStart => exact ⟨0, 0, rfl, rfl, Nat.zero_le _, by decide, hid ⟨rfl, Below.refl _ _⟩⟩
  case round =>
    obtain ⟨i, d, rfl, rfl, hi, hS, hh⟩ := hrel
    have hbw : b < wr.heap.size := Nat.lt_of_lt_of_le hlt hh.out.2.size
    have y3 := (hh.out.2.cell (p := ⟨b, 3, none⟩) hlt).trans c3
    by_cases hlt2 : i < m
    · have hib : i < bs.length := by rw [HBM.out]; exact hlt2
      have hip : i < ds.length := by rw [HPM.out]; exact hlt2
      obtain ⟨o, rfl, hkb, _, _, ck⟩ := HROW.out.get (i := i) (by rw [HMM.out]; exact hlt2)
      rw [List.getElem_map] at ck
      obtain ⟨u, hu⟩ : ∃ u, bs[i] = u := ⟨_, rfl⟩
      obtain ⟨D, hD⟩ : ∃ D, ds[i] = D := ⟨_, rfl⟩
      have hD6 : D ≤ 1000000 := by rw [← hD]; exact HD.out _ (List.getElem_mem hip)
      rw [hu] at ck
      have hkw : kb < wr.heap.size := Nat.lt_of_lt_of_le hkb hh.out.2.size
      have yk := (hh.out.2.cell (p := ⟨kb, o + i, none⟩) hkb).trans ck
      have HC := hid (show Calls Tryz.prog 55 #[ptr u] wr fun e w' => e = .returned (.int .i64 D) ∧ Below wr.heap.size wr w' by
        have := HK.out i hib hip wr hh.out.2
        rw [hu, hD] at this
        exact this)
      have HS := hid (show mx (ds.take (i + 1)) = max d D by
        have e : ds.take (i + 1) = ds.take i ++ [ds[i]] := by rw [List.take_add_one, List.getElem?_eq_getElem hip]; rfl
        rw [e, mx_snoc, hD, ← hh.out.1])
      clear hu ck hD
      go_wp2_with (go_at_call 55; refine HC.out.mono ?_; rintro e w2 ⟨rfl, hb2⟩; have HB2 := hid hb2; clear hb2)
      go_roundw
      case rel => exact ⟨i + 1, max d D, by go_num, by go_num, by omega, by omega, hid ⟨HS.out.symm, hh.out.2.trans (HB2.out.mono hh.out.2.size)⟩⟩
      case measure => simp [RowKit.intOf]; omega
    · have him : i = m := by omega
      subst him
      have HX := hid (show d + 1 = mx ds + 1 by rw [hh.out.1, List.take_of_length_le (by rw [HPM.out]; exact Nat.le_refl _)])
      go_wp2_with fail
      go_ret
      exact ⟨by rw [← HX.out]; rfl, hh.out.2⟩
theorem ldeep {x : Wf.Sc} : ∀ (n : Nat) (k : Wf.K) (v : Wf.V), Wf.Typed x n k v → n ≤ 1000000 → ∀ (P : Nat → Prop) (b : Nat) (W w : World), LV W P v b → Below W.heap.size W w → Calls Tryz.prog 55 #[ptr b] w fun e w' => e = .returned (.int .i64 v.deep) ∧ Below w.heap.size w w' := by
  intro n
  induction n with
  | zero => intro k v h; exact h.elim
  | succ n ih =>
    intro k v h hn P b W w hL hW
    obtain ⟨hlt, kd, t, tv, kv, tb, kb, bs, c0, c1, c2, c3, r1, r2, hs, hk⟩ := hL.at (Wf.typed_ne h) hW
    have none : v.kids = [] → Calls Tryz.prog 55 #[ptr b] w fun e w' => e = .returned (.int .i64 v.deep) ∧ Below w.heap.size w w' := fun h0 => by
      rw [h0] at hk
      obtain rfl := hk.none
      have h1 := deep_w b kb kv [] [] w hlt c3 r2 rfl (fun d hd => by simp at hd) (fun i h1 => by simp at h1)
      have e : v.deep = mx [] + 1 := by
        cases v with
        | mk what text tag kids =>
          simp only [Wf.V.kids] at h0
          subst h0
          have hw : what ≠ 61 := Wf.typed_ne h
          rw [Wf.deep_ne hw]
          rfl
      rw [e]; exact h1
    have one : ∀ u kk, v.kids = [u] → Wf.Typed x n kk u → Calls Tryz.prog 55 #[ptr b] w fun e w' => e = .returned (.int .i64 v.deep) ∧ Below w.heap.size w w' := fun u kk h0 hu => by
      rw [h0] at hk
      obtain ⟨ub, rfl, hu2⟩ := hk.one
      have hud := (Wf.typed_deep n kk u hu).2
      have h1 := deep_w b kb kv [ub] [u.deep] w hlt c3 r2 rfl (fun d hd => by simp at hd; subst hd; omega) (fun i h1 h2 wz hz => by
        have : i = 0 := by simp at h1; exact h1
        subst this
        exact ih kk u hu (by omega) P ub W wz hu2 (hW.trans (hz.mono hW.size)))
      have e : v.deep = mx [u.deep] + 1 := by
        cases v with
        | mk what text tag kids =>
          simp only [Wf.V.kids] at h0
          subst h0
          have hw : what ≠ 61 := Wf.typed_ne h
          rw [Wf.deep_ne hw, deeps_mx]
          rfl
      rw [e]; exact h1
    cases k with
    | num => obtain ⟨m, hm, rfl⟩ := h; exact none rfl
    | txt => obtain ⟨d, h1, h2, rfl⟩ := h; exact none rfl
    | flag => rcases h with rfl | rfl <;> exact none rfl
    | list k =>
      obtain ⟨l, h20, hl, rfl⟩ := h
      simp only [Wf.V.kids] at hk
      have h1 := deep_w b kb kv bs (l.map Wf.V.deep) w hlt c3 r2 (by rw [hk.len, List.length_map]) (fun d hd => by
        obtain ⟨u, hu, rfl⟩ := List.mem_map.1 hd
        have := (Wf.typed_deep n k u (hl u hu)).2
        omega) (fun i g1 g2 wz hz => by
        have g3 : i < l.length := by simpa using g2
        rw [List.getElem_map]
        exact ih k l[i] (hl _ (List.getElem_mem g3)) (by omega) P bs[i] W wz (hk.get i g3 g1) (hW.trans (hz.mono hW.size)))
      have e : (Wf.V.mk 91 [] 0 l).deep = mx (l.map Wf.V.deep) + 1 := by rw [Wf.deep_ne (by decide), deeps_mx]
      rw [e]; exact h1
    | opt k =>
      rcases h with rfl | ⟨u, hu, rfl⟩
      · exact none rfl
      · exact one u k rfl hu
    | ref nm =>
      obtain ⟨ty, hty, h⟩ := h
      rcases h with ⟨_, f, hf, hf2, rfl⟩ | ⟨_, _, f, u, hf, hf2, hu, rfl⟩ | ⟨_, _, l, hasc, hl, rfl⟩
      · exact none rfl
      · exact one u f.kind rfl hu
      · simp only [Wf.V.kids] at hk
        have hk2 := hk.fields
        have hbl : bs.length = l.length := by rw [hk2.len, List.length_map]
        have h1 := deep_w b kb kv bs (l.map fun e => e.2.deep) w hlt c3 r2 (by rw [hbl, List.length_map]) (fun d hd => by
          obtain ⟨e, he, rfl⟩ := List.mem_map.1 hd
          have := (Wf.typed_deep n e.1.kind e.2 (hl e he).2.2.2.1).2
          omega) (fun i g1 g2 wz hz => by
          have g3 : i < l.length := by simpa using g2
          have g4 : i < (l.map (·.2)).length := by simpa using g3
          have hv := hk2.get i g4 g1
          rw [List.getElem_map] at hv
          rw [List.getElem_map]
          exact ih (l[i]).1.kind (l[i]).2 (hl _ (List.getElem_mem g3)).2.2.2.1 (by omega) P bs[i] W wz hv (hW.trans (hz.mono hW.size)))
        have e : (Wf.V.mk 82 [] 0 (l.map fun e => Wf.V.mk 61 [] e.1.tag [e.2])).deep = mx (l.map fun e => e.2.deep) + 1 := by
          rw [Wf.deep_ne (by decide), deeps_mx, List.map_map]
          congr 2
          apply List.map_congr_left
          intro e _
          exact Wf.deep_tag e.1.tag e.2
        rw [e]; exact h1
end Go.Proofs.YtmdacedmjbiekaaGreatDoor
