/- The program's functions on schemas. The program's SchemaField. Slices of numbers that a call made: compared, marked. Plain words that the laws on schemas want. -/
import Derived.Test.YtbkfjopoacbdgaaDoorQ25
import Derived.Test.YtbkfjopoacbdgaaDoorQ5
namespace Go.Proofs.YtbkfjopoacbdgaaDoor
open Go.ChangeShapes Go.WideShapes Go.ChangeAt Go.RowKit Go.Lib
set_option linter.unusedVariables false
set_option linter.unusedSimpArgs false
theorem RsOut.ok {l : List UInt8} {lo : Nat} {e : Ending} {w' : World} (h : RsOut l lo e w') : ∃ p, e = .returned (.tuple #[.pointer p, .bool (okL l)]) := by
  unfold RsOut at h
  unfold okL
  cases hl : Wf.schemaOf l with
  | none => rw [hl] at h; exact h
  | some x => rw [hl] at h; obtain ⟨sb, he, _⟩ := h; exact ⟨_, he⟩
set_option maxRecDepth 20000 in
theorem schemaOk_i (s : ByteArray) (m : Int) (w : World) (hm : ML m w) (hs : s.size ≤ 1048576) : Calls Tryd.prog 14 #[.string s] w fun e w' => e = .returned (.bool (okL s.data.toList)) ∧ Below w.heap.size w w' := by
  have HR := hid (readSchema s m w hm hs)
  clear hm
  go_enter Tryd.func14, Tryd.ntmps14
  go_wp2_with (go_at_call 38; refine HR.out.mono ?_; rintro e w2 ⟨ho, hb2⟩; obtain ⟨p, rfl⟩ := ho.ok; have HB2 := hid hb2; clear ho hb2)
  go_ret
  exact ⟨rfl, HB2.out⟩
theorem TnOut.no {l nm : List UInt8} {lo : Nat} {e : Ending} {w' : World} (h : TnOut l nm lo e w') (hl : typeIn l nm = none) : e = .returned (.tuple #[.pointer none, .pointer none, .bool false]) := by
  unfold TnOut at h; rw [hl] at h; exact h
theorem TnOut.yes {l nm : List UInt8} {lo : Nat} {e : Ending} {w' : World} {y : Wf.Sc × Wf.Ty} (h : TnOut l nm lo e w') (hl : typeIn l nm = some y) : ∃ sb tb, e = .returned (.tuple #[ptr sb, ptr tb, .bool true]) ∧ ScL w' lo sb y.1 ∧ TyL w' lo tb y.2 := by
  unfold TnOut at h; rw [hl] at h; exact h
set_option maxRecDepth 20000 in
set_option maxHeartbeats 1000000 in
theorem schemaSort_i (s nm : ByteArray) (m : Int) (w : World) (hm : ML m w) (hs : s.size ≤ 1048576) (hn6 : nm.size ≤ 1048576) : Calls Tryd.prog 16 #[.string s, .string nm] w fun e w' => e = .returned (sortV s.data.toList nm.data.toList) ∧ Below w.heap.size w w' := by
  have kc := run_convert_lit (P := Tryd.prog) 36 9 5 Tryd.underlying36 Tryd.underlying5 Tryd.underlying9
  have HTN := hid (typeNamed s nm m w hm hs hn6)
  clear hm
  cases hty : typeIn s.data.toList nm.data.toList with
  | none =>
    have HTY := hid hty
    have HF := hid (show sortV s.data.toList nm.data.toList = .tuple #[tx [], .bool false] by unfold sortV; rw [hty])
    clear hty
    go_enter Tryd.func16, Tryd.ntmps16
    go_wp2_with (go_at_call 40; refine HTN.out.mono ?_; rintro e w2 ⟨ho, hb2⟩; obtain rfl := ho.no HTY.out; have HB2 := hid hb2; clear ho hb2)
    go_ret2
    exact ⟨by rw [HF.out]; rfl, HB2.out⟩
  | some y =>
    obtain ⟨x, t⟩ := y
    have HTY := hid hty
    have HF := hid (show sortV s.data.toList nm.data.toList = .tuple #[tx [t.sort], .bool true] by unfold sortV; rw [hty])
    obtain ⟨q, hq⟩ : ∃ q, t.sort.toNat = q := ⟨_, rfl⟩
    have HQ := hid hq
    have HQ2 := hid (show UInt8.ofNat q = t.sort by rw [← hq]; simp)
    have kc1 := fun W a c h => run_convert_one (P := Tryd.prog) 36 9 5 Tryd.underlying36 Tryd.underlying5 Tryd.underlying9 W a c (q : Int) h
    clear hty hq kc
    go_enter Tryd.func16, Tryd.ntmps16
    go_wp2_with (go_at_call 40; refine HTN.out.mono ?_; rintro e w2 ⟨ho, hb2⟩; obtain ⟨sb, tb, rfl, hsl, hT⟩ := ho.yes HTY.out; obtain ⟨htb, c0⟩ := hT.sort; rw [HQ.out] at c0; have HB2 := hid hb2; clear ho hb2 hsl hT)
    go_ret2
    exact ⟨by rw [HF.out, ← HQ2.out]; rfl, by have B := HB2.out; repeat (first | with_reducible exact B | with_reducible refine Below.drew ?_ | with_reducible refine Below.alloc ?_ (by first | exact B.size | (simp; done) | (simp; omega) | omega) _)⟩
theorem BothOut.no {l kt : List UInt8} {lo : Nat} {e : Ending} {w' : World} (h : BothOut l kt lo e w') (hl : kindOf l kt = none) : ∃ p a b c, e = .returned (.tuple #[.pointer p, .agg #[.string a, .string b, .string c], .bool false]) := by
  unfold BothOut at h; rw [hl] at h; exact h
theorem BothOut.yes {l kt : List UInt8} {lo : Nat} {e : Ending} {w' : World} {y : Wf.Sc × Wf.K} (h : BothOut l kt lo e w') (hl : kindOf l kt = some y) : ∃ sb, e = .returned (.tuple #[ptr sb, kV y.2, .bool true]) ∧ ScL w' lo sb y.1 := by
  unfold BothOut at h; rw [hl] at h; exact h
set_option maxRecDepth 20000 in
set_option maxHeartbeats 1000000 in
theorem schemaStands_i (s kt : ByteArray) (m : Int) (w : World) (hm : ML m w) (hs : s.size ≤ 1048576) (hk6 : kt.size ≤ 1048576) : Calls Tryd.prog 28 #[.string s, .string kt] w fun e w' => e = .returned (standsV s.data.toList kt.data.toList) ∧ Below w.heap.size w w' := by
  have HBO := hid (both s kt m w hm hs hk6)
  clear hm
  cases hty : kindOf s.data.toList kt.data.toList with
  | none =>
    have HTY := hid hty
    have HF := hid (show standsV s.data.toList kt.data.toList = .tuple #[tx [], .bool false] by unfold standsV; rw [hty])
    clear hty
    go_enter Tryd.func28, Tryd.ntmps28
    go_wp2_with (go_at_call 44; refine HBO.out.mono ?_; rintro e w2 ⟨ho, hb2⟩; obtain ⟨p, ka, kb, kc, rfl⟩ := ho.no HTY.out; have HB2 := hid hb2; clear ho hb2)
    go_ret2
    exact ⟨by rw [HF.out]; rfl, by have B := HB2.out; repeat (first | with_reducible exact B | with_reducible refine Below.drew ?_ | with_reducible refine Below.alloc ?_ (by first | exact B.size | (simp; done) | (simp; omega) | omega) _)⟩
  | some y =>
    obtain ⟨hsc, hpk, hhas, hkt, hkl⟩ := kindOf_text hty
    obtain ⟨x, k⟩ := y
    have hx := Wf.schemaOf_ok hsc
    have HTY := hid hty
    have HF := hid (show standsV s.data.toList kt.data.toList = .tuple #[tx (Wf.stands x 9 k), .bool true] by unfold standsV; rw [hty])
    obtain ⟨O, hO⟩ : ∃ O : ByteArray, (⟨(Wf.stands x 9 k).toArray⟩ : ByteArray) = O := ⟨_, rfl⟩
    have hST := fun lo sb W wz hW H => stands x hx lo sb k W wz hW H (by rw [show k.text = kt.data.toList from hkt]; exact hkl) hhas
    obtain ⟨SG, hSG⟩ : ∃ SG : ByteArray, (⟨k.signs.toArray⟩ : ByteArray) = SG := ⟨_, rfl⟩
    obtain ⟨BS, hBS⟩ : ∃ BS : ByteArray, (⟨k.base.toArray⟩ : ByteArray) = BS := ⟨_, rfl⟩
    obtain ⟨NM, hNM⟩ : ∃ NM : ByteArray, (⟨k.name.toArray⟩ : ByteArray) = NM := ⟨_, rfl⟩
    simp only [kV, tx, hSG, hBS, hNM, hO] at hST
    have HKV := hid (show kV k = .agg #[.string SG, .string BS, .string NM] by simp only [kV, tx, hSG, hBS, hNM])
    have HOO := hid hO
    have HST := hid hST
    clear hty hO hST hsc hpk hhas hkt hkl hx hSG hBS hNM
    go_enter Tryd.func28, Tryd.ntmps28
    go_wp2_with (first | (go_at_call 45; refine (HST.out _ _ w2 _ (by have B := Below.refl w2.heap.size w2; repeat (first | with_reducible exact B | with_reducible refine Below.drew ?_ | with_reducible refine Below.alloc ?_ (by first | exact B.size | (simp; done) | (simp; omega) | omega) _)) HSL.out).mono ?_; rintro e w3 ⟨rfl, hb3⟩; have HB3 := hid hb3; clear hb3) | (go_at_call 44; refine HBO.out.mono ?_; rintro e w2 ⟨ho, hb2⟩; obtain ⟨sb, rfl, hsl⟩ := ho.yes HTY.out; rw [HKV.out]; have HSL := hid hsl; have HB2 := hid hb2; clear ho hb2 hsl))
    go_ret2
    exact ⟨by rw [HF.out, tx, HOO.out]; rfl, by have B := (HB2.out.alloc HB2.out.size (.cells #[.string SG, .string BS, .string NM] 70)).trans (HB3.out.mono (by have := HB2.out.size; simp; omega)); exact B⟩
set_option maxRecDepth 20000 in
set_option maxHeartbeats 1000000 in
theorem schemaTypes_i (s : ByteArray) (m : Int) (w : World) (hm : ML m w) (hs : s.size ≤ 1048576) : Calls Tryd.prog 18 #[.string s] w fun e w' => (∃ b v, e = .returned (.tuple #[v, .bool (okL s.data.toList)]) ∧ w.heap.size ≤ b ∧ RowAt w' b v ((typesL s.data.toList).map tx)) ∧ Below w.heap.size w w' := by
  have HR := hid (readSchema s m w hm hs)
  clear hm
  cases hsc : Wf.schemaOf s.data.toList with
  | none =>
    have HSC := hid hsc
    have HF := hid (show okL s.data.toList = false ∧ typesL s.data.toList = [] by unfold okL typesL; rw [hsc]; exact ⟨rfl, rfl⟩)
    clear hsc
    go_enter Tryd.func18, Tryd.ntmps18
    go_wp2_with (go_at_call 38; refine HR.out.mono ?_; rintro e w2 ⟨ho, hb2⟩; obtain ⟨p, rfl⟩ := ho.no HSC.out; have HB2 := hid hb2; clear ho hb2)
    go_ret2
    refine ⟨⟨w.heap.size, .slice none 0 0, by rw [HF.out.1]; rfl, Nat.le_refl _, ?_⟩, HB2.out⟩
    rw [HF.out.2]
    exact ⟨_, 0, rfl, Nat.le_refl _, by unfold maxLen; omega, .inl rfl⟩
  | some x =>
    have HSC := hid hsc
    have hx8 := (Wf.schemaOf_ok hsc).len
    have HF := hid (show okL s.data.toList = true ∧ typesL s.data.toList = x.map (·.name) by unfold okL typesL; rw [hsc]; exact ⟨rfl, rfl⟩)
    obtain ⟨n, hn⟩ : ∃ n, x.length = n := ⟨_, rfl⟩
    have HN := hid hn
    rw [hn] at hx8
    obtain ⟨XS, hXS⟩ : ∃ XS, x.map (fun t => tx t.name) = XS := ⟨_, rfl⟩
    have HXS := hid hXS
    have HTP := hid fun lo sb w2 (H : ScL w2 lo sb x) => (by
      obtain ⟨rb, xa, xc, h1, h2, h3, h4, h5⟩ := H.types
      rw [hn] at h2 h3
      exact ⟨rb, xa, xc, h1, h2, h3, h4, hid h5⟩ : ∃ rb xa xc, sb < w2.heap.size ∧ w2.cell? ⟨sb, 0, none⟩ = some (.slice xa n xc) ∧ n ≤ xc ∧ xc ≤ maxLen ∧ Hid (∀ i (h1 : i < x.length), ∃ o b, xa = some ⟨rb, o, none⟩ ∧ rb < w2.heap.size ∧ w2.cell? ⟨rb, o + i, none⟩ = some (ptr b) ∧ TyL w2 lo b x[i]))
    clear hsc hn hXS
    go_enter Tryd.func18, Tryd.ntmps18
    go_wp2_with (go_at_call 38; refine HR.out.mono ?_; rintro e w2 ⟨ho, hb2⟩; obtain ⟨sb, rfl, hsl⟩ := ho.yes HSC.out; obtain ⟨rb, xa, xc, hsb, x0, hnc, hcm, hty⟩ := HTP.out _ _ _ hsl; have HB2 := hid hb2; clear ho hb2 hsl)
    go_loopw [6, 21] (fun v6 v21 wr => ∃ (k : Nat) (a' : Option Addr) (c' : Nat), v6 = .slice a' k c' ∧ v21 = .int .i64 k ∧ k ≤ n ∧ Hid (wr.ownsRow w2.heap.size 9 1 v6 k (XS.take k) ∧ Below w2.heap.size w2 wr)) (fun _ v _ => n - (RowKit.intOf v).toNat)
    case atStart => exact ⟨0, _, _, rfl, rfl, Nat.zero_le _, hid ⟨World.ownsRow_nil _ _ _ _, Below.refl _ _⟩⟩
    case round =>
      obtain ⟨k, a', c', rfl, rfl, hk, hg⟩ := hrel
      by_cases hlt : k < n
      · have hkx : k < x.length := by rw [HN.out]; exact hlt
        obtain ⟨o, b, rfl, hrb, cb, hT⟩ := hty.out k hkx
        have hbl := hT.lt
        have ycb := (hg.out.2.cell (p := ⟨rb, o + k, none⟩) hrb).trans cb
        have yn := (hg.out.2.cell (p := ⟨b, 1, none⟩) hbl).trans hT.name
        obtain ⟨TN, hTN⟩ : ∃ TN : ByteArray, (⟨(x[k]).name.toArray⟩ : ByteArray) = TN := ⟨_, rfl⟩
        rw [tx, hTN] at yn
        have HX := hid (show XS.take (k + 1) = XS.take k ++ [.string TN] by
          rw [List.take_add_one, ← HXS.out, List.getElem?_map, List.getElem?_eq_getElem hkx, ← hTN]; rfl)
        obtain ⟨i0, hi0, hz0, hz1, hz2⟩ := info_parts info_tx
        have HI0 := hid hi0
        have HZ0 := hid hz0
        have HZ1 := hid hz1
        have HZ2 := hid hz2
        have hsz := hg.out.2.size
        clear hTN hi0 hz0 hz1 hz2 hT
        go_wp2_with (at_builtin; refine wpList_append_own_at _ rfl (.tmp 25) (.tmp 30) 26 rfl w2.heap.size 9 i0 (.string ⟨#[]⟩) 1 16 Tryd.underlying26 HI0.out HZ0.out HZ1.out HZ2.out rfl (by decide) (.slice a' k c') k _ rfl (hg.out.1.alloc _) ⟨wr.heap.size, 0, none⟩ 1 1 [.string TN] rfl rfl ?hn ?h1 (by unfold maxLen; omega) (by omega) ?hb ?next)
        case hn => exact newOne wr _ _
        case h1 => intro u hu; rw [List.mem_singleton.1 hu]; rfl
        case hb => simp; omega
        case next =>
          intro v1 w3 ho3 hg3 _ _
          obtain ⟨a2, c2, rfl⟩ := owns_slice ho3
          rw [← HX.out] at ho3
          have B3 := below_grown2 hg3 (fun g h => (owns_lt hg.out.1 g h).1) (by simp; omega)
          have HG := hid (show w3.ownsRow w2.heap.size 9 1 (.slice a2 (k + 1) c2) (k + 1) (XS.take (k + 1)) ∧ Below w2.heap.size w2 w3 from ⟨ho3, (hg.out.2.alloc hsz _).trans B3⟩)
          clear ho3 hg3 B3
          go_wp2
          go_roundw
          case rel => exact ⟨k + 1, a2, c2, rfl, by go_num, by omega, HG⟩
          case measure => simp [RowKit.intOf]; omega
      · have hkn : k = n := by omega
        subst hkn
        have HG := hid (show wr.ownsRow w2.heap.size 9 1 (.slice a' k c') ((typesL s.data.toList).map tx).length ((typesL s.data.toList).map tx) by
          have h := hg.out.1
          rw [List.take_of_length_le (by rw [← HXS.out, List.length_map, HN.out]; exact Nat.le_refl _), ← HXS.out] at h
          rw [HF.out.2, List.map_map, List.length_map, HN.out]
          exact h)
        have HB := hid (HB2.out.trans (hg.out.2.mono HB2.out.size))
        have hs2 := HB2.out.size
        go_wp2
        go_ret2
        obtain ⟨b2, hb2, hr2⟩ := RowAt.of_owns HG.out
        exact ⟨⟨b2, _, by rw [HF.out.1]; rfl, by omega, hr2⟩, HB.out⟩
set_option maxRecDepth 20000 in
set_option maxHeartbeats 1000000 in
theorem schemaTags_i (s nm : ByteArray) (m : Int) (w : World) (hm : ML m w) (hs : s.size ≤ 1048576) (hn6 : nm.size ≤ 1048576) : Calls Tryd.prog 23 #[.string s, .string nm] w fun e w' => (∃ b v, e = .returned (.tuple #[v, .bool (typeIn s.data.toList nm.data.toList).isSome]) ∧ w.heap.size ≤ b ∧ RowAt w' b v ((tagsL s.data.toList nm.data.toList).map fun (g : Nat) => .int .i64 g)) ∧ Below w.heap.size w w' := by
  have HTN := hid (typeNamed s nm m w hm hs hn6)
  clear hm
  cases hty : typeIn s.data.toList nm.data.toList with
  | none =>
    have HTY := hid hty
    have HF := hid (show tagsL s.data.toList nm.data.toList = [] by unfold tagsL; rw [hty])
    clear hty
    go_enter Tryd.func23, Tryd.ntmps23
    go_wp2_with (go_at_call 40; refine HTN.out.mono ?_; rintro e w2 ⟨ho, hb2⟩; obtain rfl := ho.no HTY.out; have HB2 := hid hb2; clear ho hb2)
    go_ret2
    refine ⟨⟨w.heap.size, .slice none 0 0, rfl, Nat.le_refl _, ?_⟩, HB2.out⟩
    rw [HF.out]
    exact ⟨_, 0, rfl, Nat.le_refl _, by unfold maxLen; omega, .inl rfl⟩
  | some y =>
    obtain ⟨x, t⟩ := y
    have HTY := hid hty
    have ht8 : t.fields.length ≤ 8 := by
      obtain ⟨_, h2, _, h4⟩ := typeIn_ok hty
      exact (h2.tys _ h4).len
    have HF := hid (show tagsL s.data.toList nm.data.toList = t.fields.map (·.tag) by unfold tagsL; rw [hty])
    obtain ⟨n, hn⟩ : ∃ n, t.fields.length = n := ⟨_, rfl⟩
    have HN := hid hn
    rw [hn] at ht8
    obtain ⟨XS, hXS⟩ : ∃ XS : List Value, t.fields.map (fun f => Value.int .i64 f.tag) = XS := ⟨_, rfl⟩
    have HXS := hid hXS
    have HTP := hid fun lo tb w2 (H : TyL w2 lo tb t) => (by
      obtain ⟨fb, a, c, h1, h2, h3, h4, h5⟩ := H.row
      rw [hn] at h2 h3
      exact ⟨fb, a, c, h1, h2, h3, h4, hid h5⟩ : ∃ fb a c, tb < w2.heap.size ∧ w2.cell? ⟨tb, 2, none⟩ = some (.slice a n c) ∧ n ≤ c ∧ c ≤ maxLen ∧ Hid (∀ i (hi : i < t.fields.length), ∃ o, a = some ⟨fb, o, none⟩ ∧ FdAt w2 fb (o + i * 6) t.sort t.fields[i]))
    clear hty hn hXS
    go_enter Tryd.func23, Tryd.ntmps23
    go_wp2_with (go_at_call 40; refine HTN.out.mono ?_; rintro e w2 ⟨ho, hb2⟩; obtain ⟨sb, tb, rfl, hsl, hT⟩ := ho.yes HTY.out; obtain ⟨fb, fa, fc, htb, c2, hnc, hcm, hrow⟩ := HTP.out _ _ _ hT; have HB2 := hid hb2; clear ho hb2 hsl hT)
    go_loopw [9, 26] (fun v9 v26 wr => ∃ (k : Nat) (a' : Option Addr) (c' : Nat), v9 = .slice a' k c' ∧ v26 = .int .i64 k ∧ k ≤ n ∧ Hid (wr.ownsRow w2.heap.size 3 1 v9 k (XS.take k) ∧ Below w2.heap.size w2 wr)) (fun _ v _ => n - (RowKit.intOf v).toNat)
    case atStart => exact ⟨0, _, _, rfl, rfl, Nat.zero_le _, hid ⟨World.ownsRow_nil _ _ _ _, Below.refl _ _⟩⟩
    case round =>
      obtain ⟨k, a', c', rfl, rfl, hk, hg⟩ := hrel
      by_cases hlt : k < n
      · have hkx : k < t.fields.length := by rw [HN.out]; exact hlt
        obtain ⟨o, rfl, hfd⟩ := hrow.out k hkx
        obtain ⟨s2, s3, s4, s5, hfc⟩ := fdC_form t.sort t.fields[k]
        have hf2 := hfd.2
        rw [hfc] at hf2
        have hfb := hfd.1
        have g := fun j u hu => (hg.out.2.cell (p := ⟨fb, o + k * 6 + j, none⟩) hfb).trans (hf2 j u hu)
        obtain ⟨G, hG⟩ : ∃ G, (t.fields[k]).tag = G := ⟨_, rfl⟩
        have g0 : wr.cell? ⟨fb, o + k * 6, none⟩ = some (.int .i64 G) := by rw [← hG]; exact g 0 _ rfl
        have g1 := g 1 _ rfl
        have g2 := g 2 _ rfl
        have g3 := g 3 _ rfl
        have g4 := g 4 _ rfl
        have g5 := g 5 _ rfl
        have HX := hid (show XS.take (k + 1) = XS.take k ++ [.int .i64 G] by
          rw [List.take_add_one, ← HXS.out, List.getElem?_map, List.getElem?_eq_getElem hkx, ← hG]; rfl)
        obtain ⟨i0, hi0, hz0, hz1, hz2⟩ := info_parts info_int
        have HI0 := hid hi0
        have HZ0 := hid hz0
        have HZ1 := hid hz1
        have HZ2 := hid hz2
        have hsz := hg.out.2.size
        clear hG hi0 hz0 hz1 hz2 hfd hf2 g hfc
        go_wp2_with (at_builtin; refine wpList_append_own_at _ rfl (.tmp 30) (.tmp 33) 31 rfl w2.heap.size 3 i0 (.int .i64 0) 1 8 Tryd.underlying31 HI0.out HZ0.out HZ1.out HZ2.out rfl (by decide) (.slice a' k c') k _ rfl ((hg.out.1.alloc _).alloc _) ⟨wr.heap.size + 1, 0, none⟩ 1 1 [.int .i64 G] rfl rfl ?hn ?h1 (by unfold maxLen; omega) (by omega) ?hb ?next)
        case hn => simpa using newOne (wr.alloc _) _ _
        case h1 => intro u hu; rw [List.mem_singleton.1 hu]; rfl
        case hb => simp; omega
        case next =>
          intro v1 w3 ho3 hg3 _ _
          obtain ⟨a2, c2, rfl⟩ := owns_slice ho3
          rw [← HX.out] at ho3
          have B3 := below_grown2 hg3 (fun g h => (owns_lt hg.out.1 g h).1) (by simp; omega)
          have HG := hid (show w3.ownsRow w2.heap.size 3 1 (.slice a2 (k + 1) c2) (k + 1) (XS.take (k + 1)) ∧ Below w2.heap.size w2 w3 from ⟨ho3, ((hg.out.2.alloc hsz _).alloc (by simp; omega) _).trans B3⟩)
          clear ho3 hg3 B3
          go_wp2
          go_roundw
          case rel => exact ⟨k + 1, a2, c2, rfl, by go_num, by omega, HG⟩
          case measure => simp [RowKit.intOf]; omega
      · have hkn : k = n := by omega
        subst hkn
        have HG := hid (show wr.ownsRow w2.heap.size 3 1 (.slice a' k c') ((tagsL s.data.toList nm.data.toList).map fun (g : Nat) => Value.int .i64 g).length ((tagsL s.data.toList nm.data.toList).map fun (g : Nat) => Value.int .i64 g) by
          have h := hg.out.1
          rw [List.take_of_length_le (by rw [← HXS.out, List.length_map, HN.out]; exact Nat.le_refl _), ← HXS.out] at h
          rw [HF.out, List.map_map, List.length_map, HN.out]
          exact h)
        have HB := hid (HB2.out.trans (hg.out.2.mono HB2.out.size))
        have hs2 := HB2.out.size
        go_wp2
        go_ret2
        obtain ⟨b2, hb2, hr2⟩ := RowAt.of_owns HG.out
        exact ⟨⟨b2, _, rfl, by omega, hr2⟩, HB.out⟩
end Go.Proofs.YtbkfjopoacbdgaaDoor

namespace Go.Proofs.YtbkfjopoacbdgaaDoor
open Go.ChangeShapes Go.WideShapes Go.ChangeAt Go.RowKit Go.Lib
set_option linter.unusedVariables false
set_option linter.unusedSimpArgs false
theorem FieldOut.no {W : World} {t : Wf.Ty} {g : Int} {e : Ending} (h : FieldOut W t g e) (hl : fieldI t g = none) : e = .returned (.pointer none) := by
  unfold FieldOut at h; rw [hl] at h; exact h
theorem FieldOut.yes {W : World} {t : Wf.Ty} {g : Int} {e : Ending} {f : Wf.Fd} (h : FieldOut W t g e) (hl : fieldI t g = some f) : ∃ fb o, e = .returned (.pointer (some ⟨fb, o, none⟩)) ∧ FdAt W fb o t.sort f := by
  unfold FieldOut at h; rw [hl] at h; exact h
set_option maxRecDepth 20000 in
set_option maxHeartbeats 2000000 in
theorem schemaField_i (s nm : ByteArray) (g : Int) (m : Int) (w : World) (hm : ML m w) (hs : s.size ≤ 1048576) (hn6 : nm.size ≤ 1048576) : Calls Tryd.prog 34 #[.string s, .string nm, .int .i64 g] w fun e w' => e = .returned (fieldV s.data.toList nm.data.toList g) ∧ Below w.heap.size w w' := by
  have HTN := hid (typeNamed s nm m w hm hs hn6)
  clear hm
  cases hty : typeIn s.data.toList nm.data.toList with
  | none =>
    have HTY := hid hty
    have HF := hid (show fieldV s.data.toList nm.data.toList g = .tuple #[tx [], tx [], tx [], .bool false] by unfold fieldV; rw [hty])
    clear hty
    go_enter Tryd.func34, Tryd.ntmps34
    go_wp2_with (go_at_call 40; refine HTN.out.mono ?_; rintro e w2 ⟨ho, hb2⟩; obtain rfl := ho.no HTY.out; have HB2 := hid hb2; clear ho hb2)
    exact bodyPost_ret (v := .tuple #[tx [], tx [], tx [], .bool false]) (by simp [results, Tryd.results34, go_sem]) rfl ⟨by rw [HF.out], HB2.out⟩
  | some y =>
    obtain ⟨x, t⟩ := y
    have HTY := hid hty
    obtain ⟨_, hx, _, htm⟩ := typeIn_ok hty
    have htk := hx.tys t htm
    have HFD := hid fun lo tb w2 (H : TyL w2 lo tb t) => field t (by have := htk.len; omega) g lo tb w2 w2 (Below.refl _ _) H
    cases hfi : fieldI t g with
    | none =>
      have HFI := hid hfi
      have HF := hid (show fieldV s.data.toList nm.data.toList g = .tuple #[tx [], tx [], tx [], .bool false] by unfold fieldV; rw [hty]; dsimp only; rw [hfi])
      clear hty hfi
      go_enter Tryd.func34, Tryd.ntmps34
      go_wp2_with (first | (go_at_call 51; refine (HFD.out _ _ _ HT.out).mono ?_; rintro e w3 ⟨ho, rfl⟩; obtain rfl := ho.no HFI.out; clear ho) | (go_at_call 40; refine HTN.out.mono ?_; rintro e w2 ⟨ho, hb2⟩; obtain ⟨sb, tb, rfl, hsl, hT⟩ := ho.yes HTY.out; have HT := hid hT; have HB2 := hid hb2; clear ho hb2 hsl hT))
      exact bodyPost_ret (v := .tuple #[tx [], tx [], tx [], .bool false]) (by simp [results, Tryd.results34, go_sem]) rfl ⟨by rw [HF.out], HB2.out⟩
    | some f =>
      have HFI := hid hfi
      obtain ⟨N, hN⟩ : ∃ N : ByteArray, (⟨f.name.toArray⟩ : ByteArray) = N := ⟨_, rfl⟩
      by_cases h69 : t.sort = 69
      · have HF := hid (show fieldV s.data.toList nm.data.toList g = .tuple #[.string N, tx [], tx [], .bool true] by unfold fieldV; rw [hty]; dsimp only; rw [hfi]; dsimp only; rw [if_pos h69, ← hN])
        have HC := hid fun lo tb W (H : TyL W lo tb t) => (by
          have := H.sort
          rw [h69] at this
          exact this : tb < W.heap.size ∧ W.cell? ⟨tb, 0, none⟩ = some (.int .u8 (69 : UInt8).toNat))
        have HN1 := hid fun W fb o (H : FdAt W fb o t.sort f) => (by
          obtain ⟨_, _, _, _, h⟩ := fdC_form t.sort f
          have := H.2 1 (tx f.name) (by rw [h]; rfl)
          rw [tx, hN] at this
          exact this : W.cell? ⟨fb, o + 1, none⟩ = some (.string N))
        clear hty hfi hN
        go_enter Tryd.func34, Tryd.ntmps34
        go_wp2_with (first | (go_at_call 51; refine (HFD.out _ _ _ HT.out).mono ?_; rintro e w3 ⟨ho, rfl⟩; obtain ⟨fb, o, rfl, hfd⟩ := ho.yes HFI.out; have n1 := HN1.out _ _ _ hfd; clear ho hfd) | (go_at_call 40; refine HTN.out.mono ?_; rintro e w2 ⟨ho, hb2⟩; obtain ⟨sb, tb, rfl, hsl, hT⟩ := ho.yes HTY.out; obtain ⟨htb, c0⟩ := HC.out _ _ _ hT; have HT := hid hT; have HB2 := hid hb2; clear ho hb2 hsl hT))
        exact bodyPost_ret (v := .tuple #[.string N, tx [], tx [], .bool true]) (by simp [results, Tryd.results34, go_sem]) rfl ⟨by rw [HF.out], HB2.out⟩
      · obtain ⟨KT, hKT⟩ : ∃ KT : ByteArray, (⟨f.kind.text.toArray⟩ : ByteArray) = KT := ⟨_, rfl⟩
        obtain ⟨O, hO⟩ : ∃ O : ByteArray, (⟨(Wf.standF x f).toArray⟩ : ByteArray) = O := ⟨_, rfl⟩
        have HF := hid (show fieldV s.data.toList nm.data.toList g = .tuple #[.string N, .string KT, .string O, .bool true] by unfold fieldV; rw [hty]; dsimp only; rw [hfi]; dsimp only; rw [if_neg h69, ← hN, ← hKT, ← hO])
        have hfm : f ∈ t.fields := by unfold fieldI at hfi; exact List.mem_of_find?_eq_some hfi
        have hkl := fd_kind (htk.fds f hfm)
        have hfr := hx.refs t htm h69 f hfm
        have hTX := fun wz => text_impl f.kind (by omega) wz
        have hOF := fun lo sb fb o W wz hW H hf => of x hx lo sb fb o t.sort f W wz hW H h69 hf hkl hfr
        obtain ⟨SG, hSG⟩ : ∃ SG : ByteArray, (⟨f.kind.signs.toArray⟩ : ByteArray) = SG := ⟨_, rfl⟩
        obtain ⟨BS, hBS⟩ : ∃ BS : ByteArray, (⟨f.kind.base.toArray⟩ : ByteArray) = BS := ⟨_, rfl⟩
        obtain ⟨NM, hNM⟩ : ∃ NM : ByteArray, (⟨f.kind.name.toArray⟩ : ByteArray) = NM := ⟨_, rfl⟩
        simp only [kV, tx, hSG, hBS, hNM, hKT] at hTX
        simp only [tx, hO] at hOF
        have HTX := hid hTX
        have HOF := hid hOF
        obtain ⟨q, hq⟩ : ∃ q, t.sort.toNat = q := ⟨_, rfl⟩
        have hq69 : q ≠ 69 := fun e => h69 (UInt8.toNat_inj.1 (by rw [hq, e]; rfl))
        have HQ := hid hq
        have HN1 := hid fun W fb o (H : FdAt W fb o t.sort f) => (by
          have h := H.2
          have e0 : fdC t.sort f = [.int .i64 f.tag, .string N, .string SG, .string BS, .string NM, tx f.given] := by unfold fdC; rw [if_neg h69, ← hN, ← hSG, ← hBS, ← hNM]
          rw [e0] at h
          exact ⟨H.1, h 1 _ rfl, h 2 _ rfl, h 3 _ rfl, h 4 _ rfl⟩ : fb < W.heap.size ∧ W.cell? ⟨fb, o + 1, none⟩ = some (.string N) ∧ W.cell? ⟨fb, o + 2, none⟩ = some (.string SG) ∧ W.cell? ⟨fb, o + 3, none⟩ = some (.string BS) ∧ W.cell? ⟨fb, o + 4, none⟩ = some (.string NM))
        clear hty hfi hN hKT hO hTX hOF hSG hBS hNM hq
        go_enter Tryd.func34, Tryd.ntmps34
        go_wp2_with (first | (go_at_call 51; refine (HFD.out _ _ _ HT.out).mono ?_; rintro e w3 ⟨ho, rfl⟩; obtain ⟨fb, o, rfl, hfd⟩ := ho.yes HFI.out; obtain ⟨hfb, n1, n2, n3, n4⟩ := HN1.out _ _ _ hfd; have HFA := hid hfd; clear ho hfd) | (go_at_call 40; refine HTN.out.mono ?_; rintro e w2 ⟨ho, hb2⟩; obtain ⟨sb, tb, rfl, hsl, hT⟩ := ho.yes HTY.out; obtain ⟨htb, c0⟩ := hT.sort; rw [HQ.out] at c0; have HT := hid hT; have HSL := hid hsl; have HB2 := hid hb2; clear ho hb2 hsl hT))
        have F := hid fun (wz : World) (hz : Below w2.heap.size w2 wz) => (show wz.cell? ⟨fb, o + 1, none⟩ = some (.string N) ∧ wz.cell? ⟨fb, o + 2, none⟩ = some (.string SG) ∧ wz.cell? ⟨fb, o + 3, none⟩ = some (.string BS) ∧ wz.cell? ⟨fb, o + 4, none⟩ = some (.string NM) from ⟨(hz.cell (p := ⟨fb, o + 1, none⟩) hfb).trans n1, (hz.cell (p := ⟨fb, o + 2, none⟩) hfb).trans n2, (hz.cell (p := ⟨fb, o + 3, none⟩) hfb).trans n3, (hz.cell (p := ⟨fb, o + 4, none⟩) hfb).trans n4⟩)
        go_region_held3 (fun w' => w'.cell? ⟨fb, o + 1, none⟩ = some (.string N) ∧ w'.cell? ⟨fb, o + 2, none⟩ = some (.string SG) ∧ w'.cell? ⟨fb, o + 3, none⟩ = some (.string BS) ∧ w'.cell? ⟨fb, o + 4, none⟩ = some (.string NM)) (first | exact ⟨k1, k2, k3, k4⟩ | exact ⟨d1, d2, d3, d4⟩ | go_keep) (first | (go_at_call 52; refine (HTX.out _).mono ?_; rintro e w3 ⟨rfl, hb3⟩; have TD := Lib.hid (show Below w2.heap.size w2 w3 by first | exact TS.out.trans (hb3.mono TS.out.size) | (refine Below.trans (b := _) ?_ hb3; repeat (first | with_reducible exact Below.refl _ _ | with_reducible refine Below.drew ?_))); obtain ⟨d1, d2, d3, d4⟩ := F.out _ TD.out; clear hb3) | (go_at_call 53; refine (HOF.out _ _ _ _ w2 _ (by first | exact TD.out | (have B := Below.refl w2.heap.size w2; repeat (first | with_reducible exact B | with_reducible refine Below.drew ?_))) HSL.out HFA.out).mono ?_; rintro e w4 ⟨rfl, hb4⟩; have TS := Lib.hid (show Below w2.heap.size w2 w4 by first | exact TD.out.trans (hb4.mono TD.out.size) | (refine Below.trans (b := _) ?_ hb4; repeat (first | with_reducible exact Below.refl _ _ | with_reducible refine Below.drew ?_))); obtain ⟨k1, k2, k3, k4⟩ := F.out _ TS.out; clear hb4))
        all_goals go_wp2_with fail
        all_goals exact bodyPost_ret (v := .tuple #[.string N, .string KT, .string O, .bool true]) (by simp [results, Tryd.results34, go_sem]) rfl ⟨by rw [HF.out], by first | exact HB2.out.trans (TS.out.mono HB2.out.size) | exact HB2.out.trans (TD.out.mono HB2.out.size)⟩
end Go.Proofs.YtbkfjopoacbdgaaDoor

namespace Go.Proofs.YtbkfjopoacbdgaaDoor
open Go.ChangeShapes Go.WideShapes Go.ChangeAt Go.RowKit Go.Lib
set_option linter.unusedVariables false
set_option linter.unusedSimpArgs false
/-- a number as a value -/
abbrev ix (g : Nat) : Value := .int .i64 (g : Int)
set_option maxRecDepth 20000 in
theorem eqInts (l : List Nat) (hl : l.length ≤ 1048576) (b1 b2 : Nat) (v1 v2 : Value) (w : World) (H1 : RowAt w b1 v1 (l.map ix)) (H2 : RowAt w b2 v2 (l.map ix)) : Calls Tryd.prog 24 #[v1, v2] w fun e w' => e = .returned (.bool true) ∧ ∃ n, w' = w.drewN n := by
  obtain ⟨a1, c1, rfl, h11, h12, h13⟩ := H1
  obtain ⟨a2, c2, rfl, h21, h22, h23⟩ := H2
  have HA := hid h13
  have HB := hid h23
  clear h13 h23
  obtain ⟨m, hm⟩ : ∃ m, (l.map ix).length = m := ⟨_, rfl⟩
  have HM := hid hm
  have hm2 : l.length = m := by rw [← hm, List.length_map]
  rw [hm] at h11 h21 ⊢
  rw [hm2] at hl
  have HM2 := hid hm2
  clear hm hm2
  go_enter Tryd.func24, Tryd.ntmps24
  go_wp2
  go_loopw [5] (fun v wr => ∃ (i : Nat) (k : Nat), v = .int .i64 i ∧ i ≤ m ∧ wr = w.drewN k) (fun v _ => m - (RowKit.intOf v).toNat)
  case atStart => exact ⟨0, 0, rfl, by omega, rfl⟩
  case round =>
    obtain ⟨i, k, rfl, hi, rfl⟩ := hrel
    by_cases hlt : i < m
    · rcases HA.out with h0 | ⟨o1, rfl, h14, h15⟩
      · exact absurd HM.out (by rw [h0]; simp; omega)
      rcases HB.out with h0 | ⟨o2, rfl, h24, h25⟩
      · exact absurd HM.out (by rw [h0]; simp; omega)
      have p1 := (h15 i (by rw [HM.out]; exact hlt)).1
      have p2 := (h25 i (by rw [HM.out]; exact hlt)).1
      obtain ⟨s, hs⟩ : ∃ s : Nat, (l.map ix)[i]'(by rw [HM.out]; exact hlt) = .int .i64 s := ⟨(l[i]'(by rw [HM2.out]; exact hlt)), by rw [List.getElem_map]⟩
      rw [hs] at p1 p2
      clear hs h15 h25 h14 h24 HA HB
      go_wp2
      go_quiet (fail)
      go_wp2
      go_roundw
      case rel => exact ⟨i + 1, _, by go_num, by omega, rfl⟩
      case measure => simp [RowKit.intOf]; omega
    · go_wp2
      go_ret
      exact ⟨rfl, _, rfl⟩
set_option maxRecDepth 20000 in
theorem wfInts (l : List Nat) (hl : l.length ≤ 1048576) (b1 b2 : Nat) (v1 v2 : Value) (w : World) (H1 : RowAt w b1 v1 (l.map ix)) (H2 : RowAt w b2 v2 (l.map ix)) : Calls Tryd.prog 36 #[v1, v2] w fun e w' => e = .returned (.bool true) ∧ ∃ n, w' = w.drewN n := by
  obtain ⟨a1, c1, rfl, h11, h12, h13⟩ := H1
  obtain ⟨a2, c2, rfl, h21, h22, h23⟩ := H2
  have HA := hid h13
  have HB := hid h23
  clear h13 h23
  obtain ⟨m, hm⟩ : ∃ m, (l.map ix).length = m := ⟨_, rfl⟩
  have HM := hid hm
  have hm2 : l.length = m := by rw [← hm, List.length_map]
  rw [hm] at h11 h21 ⊢
  rw [hm2] at hl
  have HM2 := hid hm2
  clear hm hm2
  go_enter Tryd.func36, Tryd.ntmps36
  go_wp2
  go_loopw [5] (fun v wr => ∃ (i : Nat) (k : Nat), v = .int .i64 i ∧ i ≤ m ∧ wr = w.drewN k) (fun v _ => m - (RowKit.intOf v).toNat)
  case atStart => exact ⟨0, 0, rfl, by omega, rfl⟩
  case round =>
    obtain ⟨i, k, rfl, hi, rfl⟩ := hrel
    by_cases hlt : i < m
    · rcases HA.out with h0 | ⟨o1, rfl, h14, h15⟩
      · exact absurd HM.out (by rw [h0]; simp; omega)
      rcases HB.out with h0 | ⟨o2, rfl, h24, h25⟩
      · exact absurd HM.out (by rw [h0]; simp; omega)
      have p1 := (h15 i (by rw [HM.out]; exact hlt)).1
      have p2 := (h25 i (by rw [HM.out]; exact hlt)).1
      obtain ⟨s, hs⟩ : ∃ s : Nat, (l.map ix)[i]'(by rw [HM.out]; exact hlt) = .int .i64 s := ⟨(l[i]'(by rw [HM2.out]; exact hlt)), by rw [List.getElem_map]⟩
      rw [hs] at p1 p2
      clear hs h15 h25 h14 h24 HA HB
      go_wp2
      go_quiet (fail)
      go_wp2
      go_roundw
      case rel => exact ⟨i + 1, _, by go_num, by omega, rfl⟩
      case measure => simp [RowKit.intOf]; omega
    · go_wp2
      go_ret
      exact ⟨rfl, _, rfl⟩
/-- the marks of n numbers from k on -/
def mki (k n : Nat) : List Value := (List.range n).map fun i => ix (k + i)
theorem mki_len (k n : Nat) : (mki k n).length = n := by simp [mki]
theorem mki_at (k n i : Nat) (h : i < (mki k n).length) : (mki k n)[i] = .int .i64 ((k : Int) + i) := by simp [mki]
set_option maxRecDepth 20000 in
theorem heldI (k : Nat) (h0 : 0 < k) (b : Nat) (v : Value) (w : World) (n : Nat) (hn : n + k ≤ 2000000) (H : RowAt w b v (mki k n)) : Calls Tryd.prog 26 #[v, .int .i64 k] w fun e w' => e = .returned (.int .i64 ((k : Int) + n)) ∧ Below w.heap.size w w' := by
  obtain ⟨a, c, rfl, h11, h12, h13⟩ := H
  rw [mki_len] at h11 ⊢
  have HA := hid h13
  clear h13
  go_enter Tryd.func26, Tryd.ntmps26
  go_wp2
  go_loopw [1, 5] (fun u v wr => ∃ (i d : Nat), v = .int .i64 i ∧ u = .int .i64 ((k : Int) + i) ∧ i ≤ n ∧ wr = w.drewN d) (fun _ v _ => n - (RowKit.intOf v).toNat)
  case atStart => exact ⟨0, 0, rfl, by simp, by omega, rfl⟩
  case round =>
    obtain ⟨i, d, rfl, rfl, hi, rfl⟩ := hrel
    by_cases hlt : i < n
    · rcases HA.out with hx | ⟨o1, rfl, h14, h15⟩
      · exact absurd (mki_len k n) (by rw [hx]; simp; omega)
      have p1 := (h15 i (by rw [mki_len]; exact hlt)).1
      rw [mki_at] at p1
      clear h15 HA
      go_wp2
      go_roundw
      case rel => exact ⟨i + 1, d, by go_num, by go_num, by omega, rfl⟩
      case measure => simp [RowKit.intOf]; omega
    · have hin : i = n := by omega
      subst hin
      go_wp2
      go_ret
      exact ⟨rfl, ⟨rfl, rfl, rfl, Nat.le_refl _, fun _ _ => rfl⟩⟩
/-- a slice of n numbers, of which the first i are marks -/
def MarkedI (w : World) (b o k n i : Nat) : Prop := b < w.heap.size ∧ ∀ j, j < n → ∃ s : Int, w.cell? ⟨b, o + j, none⟩ = some (.int .i64 s) ∧ w.frozen? ⟨b, o + j, none⟩ = false ∧ (j < i → s = ((k + j : Nat) : Int))
theorem MarkedI.step {w : World} {b o k n i : Nat} (h : MarkedI w b o k n i) (hi : i < n) : MarkedI (w.setCell ⟨b, o + i, none⟩ (.int .i64 ((k : Int) + i))) b o k n (i + 1) := by
  obtain ⟨h1, h2⟩ := h
  refine ⟨Nat.lt_of_lt_of_le h1 (by simp), fun j hj => ?_⟩
  obtain ⟨s, h3, h4, h5⟩ := h2 j hj
  by_cases hji : j = i
  · subst hji
    exact ⟨_, World.cell?_setCell_same w _ _ h3, by simpa using h4, fun _ => by simp⟩
  · exact ⟨s, (World.cell?_setCell_other w _ _ _ (by first | (simp; done) | (simp; omega))).trans h3, by simpa using h4, fun hlt => h5 (by omega)⟩
set_option maxRecDepth 20000 in
theorem markedI (k : Nat) (h0 : 0 < k) (b : Nat) (v : Value) (w : World) (l : List Nat) (hn : l.length + k ≤ 2000000) (H : RowAt w b v (l.map ix)) : Calls Tryd.prog 25 #[v, .int .i64 k] w fun e w' => e = .returned (.int .i64 ((k : Int) + l.length)) ∧ RowAt w' b v (mki k l.length) ∧ Beside b w w' := by
  obtain ⟨a, c, rfl, h11, h12, h13⟩ := H
  obtain ⟨n, hn2⟩ : ∃ n, l.length = n := ⟨_, rfl⟩
  have hnl : (l.map ix).length = n := by rw [List.length_map, hn2]
  have hmm : ∀ w' : World, (∀ o, a = some ⟨b, o, none⟩ → 0 < n → MarkedI w' b o k n n) → RowAt w' b (.slice a n c) (mki k n) := by
    intro w' hm
    refine ⟨a, c, by rw [mki_len], by rw [mki_len, ← hnl]; exact h11, h12, ?_⟩
    rcases h13 with h13 | ⟨o, ha, h14, h15⟩
    · refine .inl (List.eq_nil_of_length_eq_zero ?_)
      rw [mki_len, ← hnl, h13]; rfl
    · rcases Nat.eq_zero_or_pos n with hz | hz
      · exact .inl (List.eq_nil_of_length_eq_zero (by rw [mki_len]; exact hz))
      obtain ⟨h1, h2⟩ := hm o ha hz
      refine .inr ⟨o, ha, h1, fun i hi => ?_⟩
      obtain ⟨s, h3, h4, h5⟩ := h2 i (by rw [mki_len] at hi; exact hi)
      have h6 := h5 (by rw [mki_len] at hi; exact hi)
      subst h6
      exact ⟨by rw [h3, mki_at]; simp, h4⟩
  have hst : ∀ o, a = some ⟨b, o, none⟩ → 0 < n → MarkedI w b o k n 0 := by
    intro o ha hz
    rcases h13 with h13 | ⟨o', ha', h14, h15⟩
    · exact absurd hnl (by rw [h13]; simp; omega)
    · obtain rfl : o' = o := by rw [ha] at ha'; simpa using ha'.symm
      refine ⟨h14, fun j hj => ?_⟩
      have h16 := h15 j (by rw [hnl]; exact hj)
      rw [List.getElem_map] at h16
      exact ⟨_, h16.1, h16.2, fun h => by omega⟩
  have hex : 0 < n → ∃ o, a = some ⟨b, o, none⟩ := by
    intro hz
    rcases h13 with h13 | ⟨o', ha', h14, h15⟩
    · exact absurd hnl (by rw [h13]; simp; omega)
    · exact ⟨o', ha'⟩
  have HMM := hid hmm
  have HST := hid hst
  have HEX := hid hex
  rw [hn2] at hn ⊢
  rw [hnl] at h11 ⊢
  clear hmm hst hex h13 hnl hn2
  go_enter Tryd.func25, Tryd.ntmps25
  go_wp2
  go_loopw [1, 5] (fun u v wr => ∃ (i : Nat), v = .int .i64 i ∧ u = .int .i64 ((k : Int) + i) ∧ i ≤ n ∧ Hid (Beside b w wr) ∧ Hid (∀ o, a = some ⟨b, o, none⟩ → 0 < n → MarkedI wr b o k n i)) (fun _ v _ => n - (RowKit.intOf v).toNat)
  case atStart => exact ⟨0, rfl, by simp, by omega, hid (Beside.refl _ _), HST⟩
  case round =>
    obtain ⟨i, rfl, rfl, hi, hb, hm⟩ := hrel
    by_cases hlt : i < n
    · obtain ⟨o, ha⟩ := HEX.out (by omega)
      have hm1 := hm.out o ha (by omega)
      subst ha
      obtain ⟨s, h3, h4, _⟩ := hm1.2 i hlt
      have HM1 := hid hm1
      clear hm1 HST HEX hm
      go_wp2
      go_roundw
      case rel => exact ⟨i + 1, by go_num, by go_num, by omega, hid (hb.out.trans (Beside.set b wr _ _)), hid fun o' ho' _ => by
        obtain rfl : o = o' := by simpa using ho'
        exact HM1.out.step hlt⟩
      case measure => simp [RowKit.intOf]; omega
    · have hin : i = n := by omega
      subst hin
      go_wp2
      go_ret
      exact ⟨rfl, HMM.out _ hm.out, hb.out⟩
end Go.Proofs.YtbkfjopoacbdgaaDoor

namespace Go.Proofs.YtbkfjopoacbdgaaDoor
open Go.ChangeShapes Go.WideShapes Go.ChangeAt Go.RowKit Go.Lib
set_option linter.unusedVariables false
theorem ml_of (w : World) (h : w.ShapedOpen Tryd.prog) : ∃ m, ML m w := Tryd.laysM145.s1_3 w h
theorem sortV_two (l nm : List UInt8) : ∃ (t : ByteArray) (b : Bool), sortV l nm = .tuple #[.string t, .bool b] := by
  unfold sortV; cases typeIn l nm <;> exact ⟨_, _, rfl⟩
theorem standsV_two (l kt : List UInt8) : ∃ (t : ByteArray) (b : Bool), standsV l kt = .tuple #[.string t, .bool b] := by
  unfold standsV; cases kindOf l kt <;> exact ⟨_, _, rfl⟩
theorem fieldV_four (l nm : List UInt8) (g : Int) : ∃ (t u v : ByteArray) (b : Bool), fieldV l nm g = .tuple #[.string t, .string u, .string v, .bool b] := by
  unfold fieldV
  cases typeIn l nm with
  | none => exact ⟨_, _, _, _, rfl⟩
  | some y =>
    dsimp only
    cases fieldI y.2 g with
    | none => exact ⟨_, _, _, _, rfl⟩
    | some f =>
      dsimp only
      split <;> exact ⟨_, _, _, _, rfl⟩
theorem RowAt.beside' {w w' : World} {b rb : Nat} {v : Value} {xs : List Value} (h : RowAt w b v xs) (hb : Beside rb w w') (hB : xs = [] ∨ b ≠ rb) : RowAt w' b v xs := by
  rcases hB with hB | hB
  · subst hB
    obtain ⟨a, cap, h1, h2, h3, _⟩ := h
    exact ⟨a, cap, h1, h2, h3, .inl rfl⟩
  · exact h.beside hb hB
theorem RowAt.lt {w : World} {b : Nat} {v : Value} {xs : List Value} (h : RowAt w b v xs) : xs = [] ∨ b < w.heap.size := by
  obtain ⟨a, cap, h1, h2, h3, h4 | ⟨o, h5, h6, h7⟩⟩ := h
  · exact .inl h4
  · exact .inr h6
theorem RowAt.below' {w w' : World} {b : Nat} {v : Value} {xs : List Value} (h : RowAt w b v xs) (hb : Below w.heap.size w w') : RowAt w' b v xs := h.below hb id
theorem marked1 (m : Int) (b : Nat) (v : Value) (w : World) (l : List (List UInt8)) (hn : l.length ≤ 1000000) (hm : m = 1 + l.length) (H : RowAt w b v (l.map tx)) : Calls Tryd.prog 20 #[v, .int .i64 1] w fun e w' => e = .returned (.int .i64 m) ∧ RowAt w' b v (mks 1 l.length) ∧ Beside b w w' := by
  rw [hm]; exact marked 1 (by omega) b v w l (by omega) H
theorem held1 (m : Int) (b : Nat) (v : Value) (w : World) (n : Nat) (hn : n ≤ 1000000) (hm : m = 1 + n) (H : RowAt w b v (mks 1 n)) : Calls Tryd.prog 21 #[v, .int .i64 1] w fun e w' => e = .returned (.int .i64 m) ∧ Below w.heap.size w w' := by
  rw [hm]; exact held 1 (by omega) b v w n (by omega) H
theorem marked1I (m : Int) (b : Nat) (v : Value) (w : World) (l : List Nat) (hn : l.length ≤ 1000000) (hm : m = 1 + l.length) (H : RowAt w b v (l.map ix)) : Calls Tryd.prog 25 #[v, .int .i64 1] w fun e w' => e = .returned (.int .i64 m) ∧ RowAt w' b v (mki 1 l.length) ∧ Beside b w w' := by
  rw [hm]; exact markedI 1 (by omega) b v w l (by omega) H
theorem held1I (m : Int) (b : Nat) (v : Value) (w : World) (n : Nat) (hn : n ≤ 1000000) (hm : m = 1 + n) (H : RowAt w b v (mki 1 n)) : Calls Tryd.prog 26 #[v, .int .i64 1] w fun e w' => e = .returned (.int .i64 m) ∧ Below w.heap.size w w' := by
  rw [hm]; exact heldI 1 (by omega) b v w n (by omega) H
theorem ML.drewN {m : Int} {w : World} (h : ML m w) (n : Nat) : ML m (w.drewN n) := h.below (bel_drewN (Below.refl _ _) n)
theorem ML.beside {m : Int} {w w' : World} {rb : Nat} (h : ML m w) (hb : Beside rb w w') (hn : 0 ≠ rb) : ML m w' := (hb.cell (p := ⟨0, 0, none⟩) h.lt hn).trans h
theorem ML.ne {m : Int} {w : World} {k : Nat} (h : ML m w) (hk : w.heap.size ≤ k) : 0 ≠ k := by have := h.lt; omega
theorem types_len (l : List UInt8) : (typesL l).length ≤ 8 := by
  unfold typesL
  cases h : Wf.schemaOf l with
  | none => simp
  | some x => simpa using (Wf.schemaOf_ok h).len
theorem tags_len (l nm : List UInt8) : (tagsL l nm).length ≤ 8 := by
  unfold tagsL
  cases h : typeIn l nm with
  | none => simp
  | some y =>
    obtain ⟨x, t⟩ := y
    obtain ⟨_, h2, _, h4⟩ := typeIn_ok h
    simpa using (h2.tys _ h4).len
end Go.Proofs.YtbkfjopoacbdgaaDoor
