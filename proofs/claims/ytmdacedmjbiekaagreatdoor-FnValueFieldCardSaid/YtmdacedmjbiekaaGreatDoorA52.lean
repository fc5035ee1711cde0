/- What the law of ValueField leans on besides. -/
import Derived.Test.YtmdacedmjbiekaaGreatDoorA51
set_option maxRecDepth 100000
set_option maxHeartbeats 40000000
set_option linter.all false
namespace Go.Proofs.YtmdacedmjbiekaaGreatDoor
open Go.ChangeShapes Go.WideShapes Go.ChangeAt Go.RowKit Go.Lib
set_option linter.unusedVariables false
theorem base_cases (k : Wf.K) : k.base = [110] ∨ k.base = [116] ∨ k.base = [102] ∨ k.base = [64] := by
  induction k with
  | num => exact .inl rfl
  | txt => exact .inr (.inl rfl)
  | flag => exact .inr (.inr (.inl rfl))
  | ref n => exact .inr (.inr (.inr rfl))
  | list k ih => exact ih
  | opt k ih => exact ih
end Go.Proofs.YtmdacedmjbiekaaGreatDoor

namespace Go.Proofs.YtmdacedmjbiekaaGreatDoor
open Go.ChangeShapes Go.WideShapes Go.ChangeAt Go.RowKit Go.Lib
set_option linter.unusedVariables false
set_option linter.unusedSimpArgs false
theorem text_at (k : Wf.K) : k.text = if k.base = [64] then k.signs ++ [64] ++ k.name ++ [59] else k.signs ++ k.base := by
  induction k with
  | list k ih => simp only [Wf.K.text, Wf.K.base, Wf.K.signs, Wf.K.name, ih]; by_cases h : k.base = [64] <;> simp [h]
  | opt k ih => simp only [Wf.K.text, Wf.K.base, Wf.K.signs, Wf.K.name, ih]; by_cases h : k.base = [64] <;> simp [h]
  | _ => rfl
set_option maxRecDepth 20000 in
theorem text_w (SG BS NM O : ByteArray) (h6 : SG.size ≤ 1000000 ∧ BS.size ≤ 1000000 ∧ NM.size ≤ 1000000) (h : ((BS.toList == [64]) = true ∧ SG ++ ⟨#[64]⟩ ++ NM ++ ⟨#[59]⟩ = O) ∨ ((BS.toList == [64]) = false ∧ SG ++ BS = O)) (w : World) : Calls Tryz.prog 47 #[.agg #[.string SG, .string BS, .string NM]] w fun e w' => e = .returned (.string O) ∧ Below w.heap.size w w' := by
  obtain ⟨s1, s2, s3⟩ := h6
  rcases h with ⟨h1, h2⟩ | ⟨h1, h2⟩
  · have H2 := hid h2
    have a1 := fun wz => run_string_add_sum (P := Tryz.prog) (w := wz) SG ⟨#[64]⟩ (by show SG.size + 1 ≤ _; omega)
    have a2 := fun wz => run_string_add_sum (P := Tryz.prog) (w := wz) (SG ++ ⟨#[64]⟩) NM (by rw [ByteArray.size_append]; show SG.size + 1 + NM.size ≤ _; omega)
    have a3 := fun wz => run_string_add_sum (P := Tryz.prog) (w := wz) (SG ++ ⟨#[64]⟩ ++ NM) ⟨#[59]⟩ (by rw [ByteArray.size_append, ByteArray.size_append]; show SG.size + 1 + NM.size + 1 ≤ _; omega)
    clear h2
    go_enter Tryz.func47, Tryz.ntmps47
    go_wp2_with fail
    go_ret
    exact ⟨bR H2.out, (Below.refl _ _).alloc (Nat.le_refl _) _⟩
  · have H2 := hid h2
    have a1 := fun wz => run_string_add_sum (P := Tryz.prog) (w := wz) SG BS (by omega)
    clear h2
    go_enter Tryz.func47, Tryz.ntmps47
    go_wp2_with fail
    go_ret
    exact ⟨bR H2.out, (Below.refl _ _).alloc (Nat.le_refl _) _⟩
theorem text_impl (k : Wf.K) (hk : k.text.length ≤ 1000) (w : World) : Calls Tryz.prog 47 #[kV k] w fun e w' => e = .returned (tx k.text) ∧ Below w.heap.size w w' := by
  have hn := iF k
  have ht := text_at k
  have hb : k.base.length = 1 := by rcases base_cases k with h | h | h | h <;> rw [h] <;> rfl
  have hs : k.signs.length ≤ k.text.length := by rw [ht]; split <;> simp
  refine text_w ⟨k.signs.toArray⟩ ⟨k.base.toArray⟩ ⟨k.name.toArray⟩ ⟨k.text.toArray⟩ ⟨by rw [aV]; omega, by rw [aV]; omega, by rw [aV]; omega⟩ ?_ w
  by_cases h : k.base = [64]
  · left
    refine ⟨by rw [ByteArray.toList_eq, h]; rfl, ?_⟩
    rw [aW, ht, if_pos h]
    simp
  · right
    refine ⟨by rw [ByteArray.toList_eq]; exact beq_eq_false_iff_ne.2 h, ?_⟩
    rw [aW, ht, if_neg h]
    simp
end Go.Proofs.YtmdacedmjbiekaaGreatDoor

namespace Go.Proofs.YtmdacedmjbiekaaGreatDoor
open Go.ChangeShapes Go.WideShapes Go.ChangeAt Go.RowKit Go.Lib
set_option linter.unusedVariables false
set_option linter.unusedSimpArgs false
def TnOut (l nm : List UInt8) (lo : Nat) (e : Ending) (w' : World) : Prop := match cZ l nm with
  | some y => ∃ sb tb, e = .returned (.tuple #[ptr sb, ptr tb, .bool true]) ∧ ScL w' lo sb y.1 ∧ TyL w' lo tb y.2
  | none => e = .returned (.tuple #[.pointer none, .pointer none, .bool false])
set_option maxRecDepth 20000 in
set_option maxHeartbeats 1000000 in
theorem typeNamed (s nm : ByteArray) (m : Int) (w : World) (hm : ML m w) (hs : s.size ≤ 1048576) (hn6 : nm.size ≤ 1048576) : Calls Tryz.prog 45 #[.string s, .string nm] w fun e w' => TnOut s.data.toList nm.data.toList w.heap.size e w' ∧ Below w.heap.size w w' := by
  have HR := hid (iC s m w hm hs)
  clear hm
  cases hsc : Wf.schemaOf s.data.toList with
  | none =>
    have HSC := hid hsc
    have HF := hid (show cZ s.data.toList nm.data.toList = none by unfold cZ; rw [hsc])
    clear hsc
    go_enter Tryz.func45, Tryz.ntmps45
    go_wp2_with (go_at_call 61; refine HR.out.mono ?_; rintro e w2 ⟨ho, hb2⟩; obtain ⟨p, rfl⟩ := ho.no HSC.out; have HB2 := hid hb2; clear ho hb2)
    exact bodyPost_ret (v := .tuple #[.pointer none, .pointer none, .bool false]) (by simp [results, Tryz.results45, go_sem]) rfl ⟨by unfold TnOut; rw [HF.out], HB2.out⟩
  | some x =>
    have HSC := hid hsc
    cases hf : x.find nm.data.toList with
    | none =>
      have HF := hid (show cZ s.data.toList nm.data.toList = none by unfold cZ; rw [hsc]; simp [hf])
      have HL := hid fun lo sb w2 (H : ScL w2 lo sb x) => (by
        obtain ⟨mb, h1, h2, h3⟩ := H.named
        rcases h3 nm hn6 with ⟨_, h4⟩ | ⟨t, b, h4, _⟩
        · exact ⟨mb, h1, h2, h4⟩
        · exact absurd h4 (by rw [hf]; simp) : ∃ mb, sb < w2.heap.size ∧ w2.cell? ⟨sb, 1, none⟩ = some (.map (some mb)) ∧ ∀ wz, Below w2.heap.size w2 wz → (Instr.lookup 129 (.map (some mb)) (.string nm) false).run Tryz.prog wz = .ok (.pointer none) wz)
      clear hsc hf
      go_enter Tryz.func45, Tryz.ntmps45
      go_wp2_with (go_at_call 61; refine HR.out.mono ?_; rintro e w2 ⟨ho, hb2⟩; obtain ⟨sb, rfl, hsl⟩ := ho.yes HSC.out; obtain ⟨mb, hsb, hc1, hl⟩ := HL.out _ _ _ hsl; have l0 := hl w2 (Below.refl _ _); have l1 := hl w2.drew (Below.refl _ _).drew; have HB2 := hid hb2; clear ho hb2 hsl hl)
      exact bodyPost_ret (v := .tuple #[.pointer none, .pointer none, .bool false]) (by simp [results, Tryz.results45, go_sem]) rfl ⟨by unfold TnOut; rw [HF.out], HB2.out⟩
    | some t =>
      have HF := hid (show cZ s.data.toList nm.data.toList = some (x, t) by unfold cZ; rw [hsc]; simp [hf])
      have HL := hid fun lo sb w2 (H : ScL w2 lo sb x) => (by
        obtain ⟨mb, h1, h2, h3⟩ := H.named
        rcases h3 nm hn6 with ⟨h4, _⟩ | ⟨t', b, h4, h5, h6⟩
        · rw [hf] at h4; cases h4
        · rw [hf] at h4; obtain rfl := Option.some.inj h4; exact ⟨mb, b, h1, h2, h5, h6⟩ : ∃ mb b, sb < w2.heap.size ∧ w2.cell? ⟨sb, 1, none⟩ = some (.map (some mb)) ∧ TyL w2 lo b t ∧ ∀ wz, Below w2.heap.size w2 wz → (Instr.lookup 129 (.map (some mb)) (.string nm) false).run Tryz.prog wz = .ok (ptr b) wz)
      clear hsc hf
      go_enter Tryz.func45, Tryz.ntmps45
      go_wp2_with (go_at_call 61; refine HR.out.mono ?_; rintro e w2 ⟨ho, hb2⟩; obtain ⟨sb, rfl, hsl⟩ := ho.yes HSC.out; obtain ⟨mb, b, hsb, hc1, hT, hl⟩ := HL.out _ _ _ hsl; have l0 := hl w2 (Below.refl _ _); have l1 := hl w2.drew (Below.refl _ _).drew; have HT := hid hT; have HSL := hid hsl; have HB2 := hid hb2; clear ho hb2 hsl hl hT)
      go_region
      all_goals go_wp2_with fail
      all_goals exact bodyPost_ret (v := .tuple #[ptr sb, ptr b, .bool true]) (by simp [results, Tryz.results45, go_sem]) rfl ⟨by unfold TnOut; rw [HF.out]; exact ⟨sb, b, rfl, HSL.out.below (Below.refl _ _).drew, HT.out.below (Below.refl _ _).drew⟩, HB2.out.drew⟩
end Go.Proofs.YtmdacedmjbiekaaGreatDoor

namespace Go.Proofs.YtmdacedmjbiekaaGreatDoor
open Go.ChangeShapes Go.WideShapes Go.ChangeAt Go.RowKit Go.Lib
set_option linter.unusedVariables false
set_option linter.unusedSimpArgs false
theorem TnOut.no {l nm : List UInt8} {lo : Nat} {e : Ending} {w' : World} (h : TnOut l nm lo e w') (hl : cZ l nm = none) : e = .returned (.tuple #[.pointer none, .pointer none, .bool false]) := by
  unfold TnOut at h; rw [hl] at h; exact h
theorem TnOut.yes {l nm : List UInt8} {lo : Nat} {e : Ending} {w' : World} {y : Wf.Sc × Wf.Ty} (h : TnOut l nm lo e w') (hl : cZ l nm = some y) : ∃ sb tb, e = .returned (.tuple #[ptr sb, ptr tb, .bool true]) ∧ ScL w' lo sb y.1 ∧ TyL w' lo tb y.2 := by
  unfold TnOut at h; rw [hl] at h; exact h
end Go.Proofs.YtmdacedmjbiekaaGreatDoor

namespace Go.Proofs.YtmdacedmjbiekaaGreatDoor
open Go.ChangeShapes Go.WideShapes Go.ChangeAt Go.RowKit Go.Lib
set_option linter.unusedVariables false
set_option linter.unusedSimpArgs false
set_option maxRecDepth 20000 in
set_option maxHeartbeats 2000000 in
theorem schemaField_i (s nm : ByteArray) (g : Int) (m : Int) (w : World) (hm : ML m w) (hs : s.size ≤ 1048576) (hn6 : nm.size ≤ 1048576) : Calls Tryz.prog 20 #[.string s, .string nm, .int .i64 g] w fun e w' => e = .returned (eL s.data.toList nm.data.toList g) ∧ Below w.heap.size w w' := by
  have HTN := hid (typeNamed s nm m w hm hs hn6)
  clear hm
  cases hty : cZ s.data.toList nm.data.toList with
  | none =>
    have HTY := hid hty
    have HF := hid (show eL s.data.toList nm.data.toList g = .tuple #[tx [], tx [], tx [], .bool false] by unfold eL; rw [hty])
    clear hty
    go_enter Tryz.func20, Tryz.ntmps20
    go_wp2_with (go_at_call 45; refine HTN.out.mono ?_; rintro e w2 ⟨ho, hb2⟩; obtain rfl := ho.no HTY.out; have HB2 := hid hb2; clear ho hb2)
    exact bodyPost_ret (v := .tuple #[tx [], tx [], tx [], .bool false]) (by simp [results, Tryz.results20, go_sem]) rfl ⟨by rw [HF.out], HB2.out⟩
  | some y =>
    obtain ⟨x, t⟩ := y
    have HTY := hid hty
    obtain ⟨_, hx, _, htm⟩ := nL hty
    have htk := hx.tys t htm
    have HFD := hid fun lo tb w2 (H : TyL w2 lo tb t) => field t (by have := htk.len; omega) g lo tb w2 w2 (Below.refl _ _) H
    cases hfi : aZ t g with
    | none =>
      have HFI := hid hfi
      have HF := hid (show eL s.data.toList nm.data.toList g = .tuple #[tx [], tx [], tx [], .bool false] by unfold eL; rw [hty]; dsimp only; rw [hfi])
      clear hty hfi
      go_enter Tryz.func20, Tryz.ntmps20
      go_wp2_with (first | (go_at_call 46; refine (HFD.out _ _ _ HT.out).mono ?_; rintro e w3 ⟨ho, rfl⟩; obtain rfl := ho.no HFI.out; clear ho) | (go_at_call 45; refine HTN.out.mono ?_; rintro e w2 ⟨ho, hb2⟩; obtain ⟨sb, tb, rfl, hsl, hT⟩ := ho.yes HTY.out; have HT := hid hT; have HB2 := hid hb2; clear ho hb2 hsl hT))
      exact bodyPost_ret (v := .tuple #[tx [], tx [], tx [], .bool false]) (by simp [results, Tryz.results20, go_sem]) rfl ⟨by rw [HF.out], HB2.out⟩
    | some f =>
      have HFI := hid hfi
      obtain ⟨N, hN⟩ : ∃ N : ByteArray, (⟨f.name.toArray⟩ : ByteArray) = N := ⟨_, rfl⟩
      by_cases h69 : t.sort = 69
      · have HF := hid (show eL s.data.toList nm.data.toList g = .tuple #[.string N, tx [], tx [], .bool true] by unfold eL; rw [hty]; dsimp only; rw [hfi]; dsimp only; rw [if_pos h69, ← hN])
        have HC := hid fun lo tb W (H : TyL W lo tb t) => (by
          have := H.sort
          rw [h69] at this
          exact this : tb < W.heap.size ∧ W.cell? ⟨tb, 0, none⟩ = some (.int .u8 (69 : UInt8).toNat))
        have HN1 := hid fun W fb o (H : FdAt W fb o t.sort f) => (by
          obtain ⟨_, _, _, _, h⟩ := eN t.sort f
          have := H.2 1 (tx f.name) (by rw [h]; rfl)
          rw [tx, hN] at this
          exact this : W.cell? ⟨fb, o + 1, none⟩ = some (.string N))
        clear hty hfi hN
        go_enter Tryz.func20, Tryz.ntmps20
        go_wp2_with (first | (go_at_call 46; refine (HFD.out _ _ _ HT.out).mono ?_; rintro e w3 ⟨ho, rfl⟩; obtain ⟨fb, o, rfl, hfd⟩ := ho.yes HFI.out; have n1 := HN1.out _ _ _ hfd; clear ho hfd) | (go_at_call 45; refine HTN.out.mono ?_; rintro e w2 ⟨ho, hb2⟩; obtain ⟨sb, tb, rfl, hsl, hT⟩ := ho.yes HTY.out; obtain ⟨htb, c0⟩ := HC.out _ _ _ hT; have HT := hid hT; have HB2 := hid hb2; clear ho hb2 hsl hT))
        exact bodyPost_ret (v := .tuple #[.string N, tx [], tx [], .bool true]) (by simp [results, Tryz.results20, go_sem]) rfl ⟨by rw [HF.out], HB2.out⟩
      · obtain ⟨KT, hKT⟩ : ∃ KT : ByteArray, (⟨f.kind.text.toArray⟩ : ByteArray) = KT := ⟨_, rfl⟩
        obtain ⟨O, hO⟩ : ∃ O : ByteArray, (⟨(Wf.aH x f).toArray⟩ : ByteArray) = O := ⟨_, rfl⟩
        have HF := hid (show eL s.data.toList nm.data.toList g = .tuple #[.string N, .string KT, .string O, .bool true] by unfold eL; rw [hty]; dsimp only; rw [hfi]; dsimp only; rw [if_neg h69, ← hN, ← hKT, ← hO])
        have hfm : f ∈ t.fields := by unfold aZ at hfi; exact List.mem_of_find?_eq_some hfi
        have hkl := dQ (htk.fds f hfm)
        have hfr := hx.refs t htm h69 f hfm
        have hTX := fun wz => text_impl f.kind (by omega) wz
        have hOF := fun lo sb fb o W wz hW H hf => of x hx lo sb fb o t.sort f W wz hW H h69 hf hkl hfr
        obtain ⟨SG, hSG⟩ : ∃ SG : ByteArray, (⟨f.kind.signs.toArray⟩ : ByteArray) = SG := ⟨_, rfl⟩
        obtain ⟨BS, hBS⟩ : ∃ BS : ByteArray, (⟨f.kind.base.toArray⟩ : ByteArray) = BS := ⟨_, rfl⟩
        obtain ⟨NM, hNM⟩ : ∃ NM : ByteArray, (⟨f.kind.name.toArray⟩ : ByteArray) = NM := ⟨_, rfl⟩
        simp only [kV, tx, hSG, hBS, hNM, hKT] at hTX
        simp only [tx, hO] at hOF
        have HTX := hid hTX
        have HOF := hid hOF
        obtain ⟨q, hq⟩ : ∃ q, t.sort.toNat = q := ⟨_, rfl⟩
        have hq69 : q ≠ 69 := fun e => h69 (UInt8.toNat_inj.1 (by rw [hq, e]; rfl))
        have HQ := hid hq
        have HN1 := hid fun W fb o (H : FdAt W fb o t.sort f) => (by
          have h := H.2
          have e0 : fdC t.sort f = [.int .i64 f.tag, .string N, .string SG, .string BS, .string NM, tx f.given] := by unfold fdC; rw [if_neg h69, ← hN, ← hSG, ← hBS, ← hNM]
          rw [e0] at h
          exact ⟨H.1, h 1 _ rfl, h 2 _ rfl, h 3 _ rfl, h 4 _ rfl⟩ : fb < W.heap.size ∧ W.cell? ⟨fb, o + 1, none⟩ = some (.string N) ∧ W.cell? ⟨fb, o + 2, none⟩ = some (.string SG) ∧ W.cell? ⟨fb, o + 3, none⟩ = some (.string BS) ∧ W.cell? ⟨fb, o + 4, none⟩ = some (.string NM))
        clear hty hfi hN hKT hO hTX hOF hSG hBS hNM hq
        go_enter Tryz.func20, Tryz.ntmps20
        go_wp2_with (first | (go_at_call 46; refine (HFD.out _ _ _ HT.out).mono ?_; rintro e w3 ⟨ho, rfl⟩; obtain ⟨fb, o, rfl, hfd⟩ := ho.yes HFI.out; obtain ⟨hfb, n1, n2, n3, n4⟩ := HN1.out _ _ _ hfd; have HFA := hid hfd; clear ho hfd) | (go_at_call 45; refine HTN.out.mono ?_; rintro e w2 ⟨ho, hb2⟩; obtain ⟨sb, tb, rfl, hsl, hT⟩ := ho.yes HTY.out; obtain ⟨htb, c0⟩ := hT.sort; rw [HQ.out] at c0; have HT := hid hT; have HSL := hid hsl; have HB2 := hid hb2; clear ho hb2 hsl hT))
        have F := hid fun (wz : World) (hz : Below w2.heap.size w2 wz) => (show wz.cell? ⟨fb, o + 1, none⟩ = some (.string N) ∧ wz.cell? ⟨fb, o + 2, none⟩ = some (.string SG) ∧ wz.cell? ⟨fb, o + 3, none⟩ = some (.string BS) ∧ wz.cell? ⟨fb, o + 4, none⟩ = some (.string NM) from ⟨(hz.cell (p := ⟨fb, o + 1, none⟩) hfb).trans n1, (hz.cell (p := ⟨fb, o + 2, none⟩) hfb).trans n2, (hz.cell (p := ⟨fb, o + 3, none⟩) hfb).trans n3, (hz.cell (p := ⟨fb, o + 4, none⟩) hfb).trans n4⟩)
        go_region_held3 (fun w' => w'.cell? ⟨fb, o + 1, none⟩ = some (.string N) ∧ w'.cell? ⟨fb, o + 2, none⟩ = some (.string SG) ∧ w'.cell? ⟨fb, o + 3, none⟩ = some (.string BS) ∧ w'.cell? ⟨fb, o + 4, none⟩ = some (.string NM)) (first | exact ⟨k1, k2, k3, k4⟩ | exact ⟨d1, d2, d3, d4⟩ | go_keep) (first | (go_at_call 47; refine (HTX.out _).mono ?_; rintro e w3 ⟨rfl, hb3⟩; have TD := Lib.hid (show Below w2.heap.size w2 w3 by first | exact TS.out.trans (hb3.mono TS.out.size) | (refine Below.trans (b := _) ?_ hb3; repeat (first | with_reducible exact Below.refl _ _ | with_reducible refine Below.drew ?_))); obtain ⟨d1, d2, d3, d4⟩ := F.out _ TD.out; clear hb3) | (go_at_call 48; refine (HOF.out _ _ _ _ w2 _ (by first | exact TD.out | (have B := Below.refl w2.heap.size w2; repeat (first | with_reducible exact B | with_reducible refine Below.drew ?_))) HSL.out HFA.out).mono ?_; rintro e w4 ⟨rfl, hb4⟩; have TS := Lib.hid (show Below w2.heap.size w2 w4 by first | exact TD.out.trans (hb4.mono TD.out.size) | (refine Below.trans (b := _) ?_ hb4; repeat (first | with_reducible exact Below.refl _ _ | with_reducible refine Below.drew ?_))); obtain ⟨k1, k2, k3, k4⟩ := F.out _ TS.out; clear hb4))
        all_goals go_wp2_with fail
        all_goals exact bodyPost_ret (v := .tuple #[.string N, .string KT, .string O, .bool true]) (by simp [results, Tryz.results20, go_sem]) rfl ⟨by rw [HF.out], by first | exact HB2.out.trans (TS.out.mono HB2.out.size) | exact HB2.out.trans (TD.out.mono HB2.out.size)⟩
end Go.Proofs.YtmdacedmjbiekaaGreatDoor

namespace Go.Proofs.YtmdacedmjbiekaaGreatDoor
open Go.ChangeShapes Go.WideShapes Go.ChangeAt Go.RowKit Go.Lib
set_option linter.unusedVariables false
set_option linter.unusedSimpArgs false
theorem cC.form {l kt s : List UInt8} {lo : Nat} {e : Ending} {w' : World} (h : cC l kt s lo e w') : ∃ (p : Option Addr) (a b c : ByteArray) (q g n d : Nat) (T : ByteArray) (sa : Option Addr), e = .returned (.tuple #[.pointer p, .agg #[.string a, .string b, .string c], .agg #[.int .u8 q, .string T, .int .i64 g, .slice sa n d], .bool (vOkB l kt s)]) := by
  unfold cC at h
  unfold vOkB
  cases hv : valOf l kt s with
  | none =>
    rw [hv] at h
    obtain ⟨p, a, b, c, rfl⟩ := h
    exact ⟨p, a, b, c, 0, 0, 0, 0, ⟨#[]⟩, none, rfl⟩
  | some y =>
    rw [hv] at h
    obtain ⟨sb, cs, rfl, _, hvc⟩ := h
    obtain ⟨q, g, n, d, T, sa, rfl⟩ := hvc.cF
    exact ⟨_, _, _, _, q, g, n, d, T, sa, rfl⟩
set_option maxRecDepth 20000 in
set_option maxHeartbeats 1000000 in
theorem valueOk_i (s kt v : ByteArray) (m : Int) (w : World) (hm : ML m w) (hs : s.size ≤ 1048576) (hkt : kt.size ≤ 1048576) (hv : v.size ≤ 1048576) : Calls Tryz.prog 22 #[.string s, .string kt, .string v] w fun e w' => e = .returned (.bool (vOkB s.data.toList kt.data.toList v.data.toList)) ∧ Below w.heap.size w w' := by
  have HG := hid (given s kt v m w hm hs hkt hv)
  clear hm
  go_enter Tryz.func22, Tryz.ntmps22
  go_wp2_with (go_at_call 52; refine HG.out.mono ?_; rintro e w2 ⟨ho, hb2⟩; obtain ⟨p, a, b, c, q, g, n, d, T, sa, rfl⟩ := ho.form; have HB2 := hid hb2; clear ho hb2)
  go_ret
  exact ⟨rfl, by have B := HB2.out; have hB := B.size; repeat (first | with_reducible exact B | with_reducible refine Below.drew ?_ | with_reducible refine Below.setCell ?_ (by simp) _ | with_reducible refine Below.alloc ?_ (by first | exact B.size | (simp; omega)) _)⟩
end Go.Proofs.YtmdacedmjbiekaaGreatDoor

namespace Go.Proofs.YtmdacedmjbiekaaGreatDoor
open Go.ChangeShapes Go.WideShapes Go.ChangeAt Go.RowKit Go.Lib
set_option linter.unusedVariables false
set_option linter.unusedSimpArgs false
def AtOut (es : List (Wf.Fd × Wf.V)) (g : Int) (W : World) (P : Nat → Prop) (e : Ending) : Prop := match es.find? (fun d => (d.1.tag : Int) == g) with
  | some d => ∃ p, e = .returned (.tuple #[ptr p, .bool true]) ∧ LV W P d.2 p
  | none => e = .returned (.tuple #[.pointer none, .bool false])
set_option maxRecDepth 20000 in
set_option maxHeartbeats 1000000 in
theorem lat (es : List (Wf.Fd × Wf.V)) (hes : es.length ≤ 1000) (g : Int) (b : Nat) (P : Nat → Prop) (W w : World) (hv : LV W P (Wf.recV es) b) (hW : Below W.heap.size W w) : Calls Tryz.prog 58 #[ptr b, .int .i64 g] w fun e w' => AtOut es g W P e ∧ Below w.heap.size w w' := by
  obtain ⟨hlt, kd, tt, tv, kv, tb, kb, bs, c0, c1, c2, c3, r1, r2, hs, hk⟩ := hv.at (show (82 : UInt8) ≠ 61 by decide) hW
  have htt : tt = [82] := hs.2
  subst htt
  have hk2 : LVs W P (es.map (·.2)) bs := LVs.fields hk
  have hr1 : aJ w tb tv ((es.map fun e => e.1.tag).map ix) := by
    have h : bE (Wf.recV es).what (Wf.recV es).tag (Wf.recV es).kids = es.map (fun e => e.1.tag) := mR es
    rw [h] at r1
    exact r1
  obtain ⟨n, hn⟩ : ∃ n, es.length = n := ⟨_, rfl⟩
  have hbl : bs.length = n := by rw [hk2.len, List.length_map, hn]
  obtain ⟨ta, tc, rfl, htc1, htc2⟩ := hr1.form
  obtain ⟨ka, kc, rfl, hkc1, hkc2⟩ := r2.form
  have e1 : ((es.map fun e => e.1.tag).map ix).length = n := by rw [List.length_map, List.length_map, hn]
  have e2 : (bs.map ptr).length = n := by rw [List.length_map, hbl]
  rw [e1] at c2 htc1 hr1
  rw [e2] at c3 hkc1 r2
  have HR1 := hid hr1
  have HR2 := hid r2
  have HK := hid hk2
  have HN := hid hn
  have HBL := hid hbl
  have HE1 := hid e1
  have HE2 := hid e2
  have hn1 : n ≤ 1000 := by omega
  unfold maxLen at htc2 hkc2
  clear hr1 r2 hk hk2 hn hbl e1 e2 hs c0 r1 hv
  go_enter Tryz.func58, Tryz.ntmps58
  go_wp2_with fail
  go_loopw [6] (fun s6 wr => ∃ i : Nat, s6 = .int .i64 i ∧ i ≤ n ∧ wr = w ∧ Hid (∀ j (hj : j < es.length), j < i → ((es[j]).1.tag : Int) ≠ g)) (fun s6 _ => n - (RowKit.intOf s6).toNat)
  case atStart => exact ⟨0, rfl, Nat.zero_le _, rfl, hid fun j hj h => by omega⟩
  case round =>
    obtain ⟨i, rfl, hi, rfl, hno⟩ := hrel
    by_cases hlt2 : i < n
    · have hix : i < es.length := by rw [HN.out]; exact hlt2
      obtain ⟨to', rfl, htb, _, _, ct⟩ := HR1.out.get (i := i) (by rw [HE1.out]; exact hlt2)
      obtain ⟨ko, rfl, hkb, _, _, ck⟩ := HR2.out.get (i := i) (by rw [HE2.out]; exact hlt2)
      rw [List.getElem_map, List.getElem_map] at ct
      rw [List.getElem_map] at ck
      obtain ⟨T, hT⟩ : ∃ T, (es[i]).1.tag = T := ⟨_, rfl⟩
      obtain ⟨u, hu⟩ : ∃ u, bs[i]'(by rw [HBL.out]; exact hlt2) = u := ⟨_, rfl⟩
      have ct2 : wr.cell? ⟨tb, to' + i, none⟩ = some (.int .i64 T) := by rw [ct, hT]
      rw [hu] at ck
      have hTT := hid hT
      have hUU := hid hu
      clear ct hT hu
      by_cases hg : (T : Int) = g
      · have tg : ((T : Int) == g) = true := beq_iff_eq.2 hg
        have HF := hid (zL hix hno.out (by rw [hTT.out]; exact hg))
        have HV := hid (show LV W P (es[i]).2 u by
          have := HK.out.get i (by rw [List.length_map]; exact hix) (by rw [HBL.out]; exact hlt2)
          rw [List.getElem_map, hUU.out] at this
          exact this)
        clear hg
        go_wp2_with fail
        exact bodyPost_ret (v := .tuple #[ptr u, .bool true]) (by simp [results, Tryz.results58, go_sem, *]) rfl ⟨by unfold AtOut; rw [HF.out]; exact ⟨u, rfl, HV.out⟩, Below.refl _ _⟩
      · have tg : ((T : Int) == g) = false := beq_eq_false_iff_ne.2 hg
        have HG := hid hg
        clear hg
        go_wp2_with fail
        go_roundw
        case rel => exact ⟨i + 1, by go_num, by omega, trivial, hid fun j hj hjk => by
          by_cases hj2 : j = i
          · subst hj2; rw [hTT.out]; exact HG.out
          · exact hno.out j hj (by omega)⟩
        case measure => simp [RowKit.intOf]; omega
    · have hin : i = n := by omega
      subst hin
      have HF := hid (a0U (es := es) (g := g) fun j hj => hno.out j hj (by rw [← HN.out]; exact hj))
      go_wp2_with fail
      exact bodyPost_ret (v := .tuple #[.pointer none, .bool false]) (by simp [results, Tryz.results58, go_sem, *]) rfl ⟨by unfold AtOut; rw [HF.out], Below.refl _ _⟩
set_option maxRecDepth 20000 in
set_option maxHeartbeats 2000000 in
theorem valueField_s (s kt v : ByteArray) (g : Int) (w : World) (hs : s.size ≤ 1048576) (hv : v.size ≤ 1048576) : Calls Tryz.prog 28 #[.string s, .string kt, .string v, .int .i64 g] w fun e w' => e = .returned (vfV (bP s.data.toList kt.data.toList v.data.toList g)) ∧ Below w.heap.size w w' := by
  have HG := hid (l4Of s kt v w hs hv)
  cases hvo : valOf s.data.toList kt.data.toList v.data.toList with
  | none =>
    have HF := hid (show vfV (bP s.data.toList kt.data.toList v.data.toList g) = .tuple #[tx [], .bool false] by unfold bP; rw [hvo]; rfl)
    have HO := hid fun (e : Ending) (w' : World) (h : cH s.data.toList kt.data.toList v.data.toList w.heap.size e w') => (by unfold cH at h; rw [hvo] at h; exact h : ∃ a n c p, e = .returned (.tuple #[.slice a n c, .pointer p, .bool false]))
    clear hvo
    go_enter Tryz.func28, Tryz.ntmps28
    go_wp2_with (go_at_call 54; refine HG.out.mono ?_; rintro e w2 ⟨ho, hb2⟩; obtain ⟨a, n, c, p, rfl⟩ := HO.out _ _ ho; have HB2 := hid hb2; clear ho hb2)
    exact bodyPost_ret (v := .tuple #[tx [], .bool false]) (by simp [results, Tryz.results28, go_sem, *]) rfl ⟨by rw [HF.out], HB2.out⟩
  | some y =>
    obtain ⟨⟨x, k⟩, u⟩ := y
    obtain ⟨hko, hvi⟩ := hM hvo
    obtain ⟨hx, hk⟩ := fL hko
    obtain ⟨_, _, _, hkt, _⟩ := gQ hko
    obtain ⟨hty, hsv, hs400⟩ := Wf.cY hvi
    have hkk : tx k.text = .string kt := by rw [tx, show k.text = kt.data.toList from hkt]
    obtain ⟨xn, hxn⟩ : ∃ xn, x.length = xn := ⟨_, rfl⟩
    have HO := hid fun (e : Ending) (w' : World) (h : cH s.data.toList kt.data.toList v.data.toList w.heap.size e w') => (by unfold cH at h; rw [hvo] at h; dsimp only at h; rw [hxn] at h; exact h : ∃ b a c p, e = .returned (.tuple #[.slice a xn c, ptr p, .bool true]) ∧ ScSp w' w.heap.size b (.slice a xn c) x ∧ LV w' (fun z => w.heap.size ≤ z) u p)
    have HREC := hid fun (wz : World) (b : Nat) (vv : Value) (hsp : ScSp wz w.heap.size b vv x) => (by
      have h := yW x hx w.heap.size b vv k hk g wz wz (Below.refl _ _) hsp
      rw [hkk] at h
      exact h : Calls Tryz.prog 57 #[vv, .string kt, .int .i64 g] wz fun e w' => eG x k g e ∧ Below wz.heap.size wz w')
    have HFV := hid (show bP s.data.toList kt.data.toList v.data.toList g = Wf.dE x k u g by unfold bP; rw [hvo]; rfl)
    clear hkk hxn
    cases hrf : Wf.bH x k g with
    | none =>
      have HF := hid (show vfV (bP s.data.toList kt.data.toList v.data.toList g) = .tuple #[tx [], .bool false] by rw [HFV.out]; unfold Wf.dE; rw [hrf]; rfl)
      have HO2 := hid fun (e : Ending) (h : eG x k g e) => (by unfold eG at h; rw [hrf] at h; exact h : ∃ (m : Int) (a b c : ByteArray), e = .returned (.tuple #[.agg #[.int .i64 m, .string a, .string b, .string c], .bool false]))
      clear hvo hko hvi hrf
      go_enter Tryz.func28, Tryz.ntmps28
      go_wp2_with (first | (go_at_call 57; refine (HREC.out _ _ _ HSP.out).mono ?_; rintro e w3 ⟨ho, hb3⟩; obtain ⟨m, fA, fB, fC, rfl⟩ := HO2.out _ ho; have HB3 := hid (aC HB2.out hb3); clear ho hb3) | (go_at_call 54; refine HG.out.mono ?_; rintro e w2 ⟨ho, hb2⟩; obtain ⟨b, a, c, p, rfl, hsp, hlv⟩ := HO.out _ _ ho; have HSP := hid hsp; have HLV := hid hlv; have HB2 := hid hb2; clear ho hb2 hsp hlv))
      exact bodyPost_ret (v := .tuple #[tx [], .bool false]) (by simp [results, Tryz.results28, go_sem, *]) rfl ⟨by rw [HF.out], HB3.out.alloc HB3.out.size _⟩
    | some f =>
      obtain ⟨nm, t, rfl, hft, h82, hfz⟩ := Wf.iS hrf
      obtain ⟨es, hes, rfl⟩ := Wf.iI hty hft h82
      obtain ⟨hfm, hfg, hff⟩ := Wf.dX hfz
      have htx := (Wf.aY hft).1
      have h69 : t.sort ≠ 69 := by rw [h82]; decide
      have hfk := dQ ((hx.tys t htx).fds f hfm)
      have hesl : es.length ≤ 1000 := by
        have h1 := Wf.kO (l := (es.map Wf.tagged).map Wf.V.print) (by
          intro a ha
          obtain ⟨e, he, rfl⟩ := List.mem_map.1 ha
          obtain ⟨d, hd, rfl⟩ := List.mem_map.1 he
          rw [Wf.dI]
          simp)
        have h2 : (Wf.recV es).print.length ≤ 400 := by rw [← hsv]; exact hs400
        rw [Wf.recV, Wf.dB] at h2
        simp at h1 h2
        omega
      have HFI := hid (show Wf.dE x (.ref nm) (Wf.recV es) g = some (Wf.getEs x es f) by rw [Wf.fZ hft h82, hfz]; rfl)
      have hfg2 : (f.tag : Int) = g := hfg
      have HFG := hid hfg2
      obtain ⟨FN, hFN⟩ : ∃ FN : ByteArray, (⟨f.name.toArray⟩ : ByteArray) = FN := ⟨_, rfl⟩
      obtain ⟨FK, hFK⟩ : ∃ FK : ByteArray, (⟨f.kind.text.toArray⟩ : ByteArray) = FK := ⟨_, rfl⟩
      obtain ⟨FG, hFG⟩ : ∃ FG : ByteArray, (⟨f.given.toArray⟩ : ByteArray) = FG := ⟨_, rfl⟩
      have HO2 := hid fun (e : Ending) (h : eG x (.ref nm) g e) => (by unfold eG at h; rw [hrf] at h; dsimp only at h; rw [hfg2] at h; simp only [tx, hFN, hFK, hFG] at h; exact h : e = .returned (.tuple #[.agg #[.int .i64 g, .string FN, .string FK, .string FG], .bool true]))
      have HAT := hid fun (W : World) (p : Nat) (wz : World) (hlv : LV W (fun z => w.heap.size ≤ z) (Wf.recV es) p) (hz : Below W.heap.size W wz) => lat es hesl g p _ W wz hlv hz
      have hfe : ∀ d : Wf.Fd × Wf.V, ((d.1.tag : Int) == g) = (d.1.tag == f.tag) := fun d => by
        rw [Bool.eq_iff_iff, beq_iff_eq, beq_iff_eq]; omega
      have hget : es.find? (fun d => (d.1.tag : Int) == g) = es.find? (fun d => d.1.tag == f.tag) := by
        congr 1; funext d; exact hfe d
      cases hfd : es.find? (fun d => (d.1.tag : Int) == g) with
      | none =>
        have HF := hid (show vfV (bP s.data.toList kt.data.toList v.data.toList g) = .tuple #[tx (Wf.aH x f), .bool true] by rw [HFV.out, HFI.out]; unfold Wf.getEs; rw [← hget, hfd]; rfl)
        obtain ⟨O, hO⟩ : ∃ O : ByteArray, (⟨(Wf.aH x f).toArray⟩ : ByteArray) = O := ⟨_, rfl⟩
        have HST := hid fun (W : World) (b : Nat) (vv : Value) (wz : World) (hsp : ScSp W w.heap.size b vv x) (hz : Below W.heap.size W wz) => (by
          have h := kL x hx w.heap.size b vv f W wz hz hsp hfk (hx.refs t htx h69 f hfm)
          rw [hfg2] at h
          simp only [tx, hFN, hFK, hFG, hO] at h
          exact h : Calls Tryz.prog 51 #[vv, .agg #[.int .i64 g, .string FN, .string FK, .string FG]] wz fun e w' => e = .returned (.string O) ∧ Below wz.heap.size wz w')
        have HO3 := hid fun (W : World) (e : Ending) (h : AtOut es g W (fun z => w.heap.size ≤ z) e) => (by unfold AtOut at h; rw [hfd] at h; exact h : e = .returned (.tuple #[.pointer none, .bool false]))
        have HOO := hid hO
        clear hvo hko hvi hrf hty hsv hs400 hft h82 hfz hes hfm hfg hff htx h69 hfk hesl hfg2 hFN hFK hFG hfe hget hfd hO hx hk hkt
        go_enter Tryz.func28, Tryz.ntmps28
        go_wp2_with (first | (go_at_call 51; refine (HST.out _ _ _ _ HSP.out ((HB23.out.alloc HB23.out.size _).trans (HB4.out.mono (by have := HB23.out.size; simp; omega)))).mono ?_; rintro e w5 ⟨rfl, hb5⟩; have HB5 := hid hb5; clear hb5) | (go_at_call 58; refine (HAT.out _ _ _ HLV.out (HB23.out.alloc HB23.out.size _)).mono ?_; rintro e w4 ⟨ho, hb4⟩; obtain rfl := HO3.out _ _ ho; have HB4 := hid hb4; have q0 := hb4.cell (p := ⟨w3.heap.size, 0, none⟩) (by simp); have q1 := hb4.cell (p := ⟨w3.heap.size, 1, none⟩) (by simp); have q2 := hb4.cell (p := ⟨w3.heap.size, 2, none⟩) (by simp); have q3 := hb4.cell (p := ⟨w3.heap.size, 3, none⟩) (by simp); simp only [go_sem] at q0 q1 q2 q3; clear ho hb4) | (go_at_call 57; refine (HREC.out _ _ _ HSP.out).mono ?_; rintro e w3 ⟨ho, hb3⟩; obtain rfl := HO2.out _ ho; have HB23 := hid hb3; clear ho hb3) | (go_at_call 54; refine HG.out.mono ?_; rintro e w2 ⟨ho, hb2⟩; obtain ⟨b, a, c, p, rfl, hsp, hlv⟩ := HO.out _ _ ho; have HSP := hid hsp; have HLV := hid hlv; have HB2 := hid hb2; clear ho hb2 hsp hlv))
        exact bodyPost_ret (v := .tuple #[.string O, .bool true]) (by simp [results, Tryz.results28, go_sem, *]) rfl ⟨by rw [HF.out, tx, HOO.out], (by have b3 := aC HB2.out HB23.out; have b4 := aC (b3.alloc b3.size _) HB4.out; exact aC b4 HB5.out)⟩
      | some d =>
        obtain ⟨dk, dv⟩ := d
        have HF := hid (show vfV (bP s.data.toList kt.data.toList v.data.toList g) = .tuple #[tx dv.print, .bool true] by rw [HFV.out, HFI.out]; unfold Wf.getEs; rw [← hget, hfd]; rfl)
        have hdm := List.mem_of_find?_eq_some hfd
        have hdt := (hes.2 _ hdm).2.2.2.1
        have hdl := Wf.nX hdm
        dsimp only at hdt hdl
        rw [← hsv] at hdl
        obtain ⟨O, hO⟩ : ∃ O : ByteArray, (⟨dv.print.toArray⟩ : ByteArray) = O := ⟨_, rfl⟩
        have HOUT := hid fun (W : World) (p : Nat) (wz : World) (hlv : LV W (fun z => w.heap.size ≤ z) dv p) (hz : Below W.heap.size W wz) => (by
          have h := out 11 dk.kind dv hdt _ p W wz hlv hz (by omega)
          rw [tx, hO] at h
          exact h : Calls Tryz.prog 59 #[ptr p] wz fun e w' => e = .returned (.string O) ∧ Below wz.heap.size wz w')
        have HO3 := hid fun (W : World) (e : Ending) (h : AtOut es g W (fun z => w.heap.size ≤ z) e) => (by unfold AtOut at h; rw [hfd] at h; exact h : ∃ p, e = .returned (.tuple #[ptr p, .bool true]) ∧ LV W (fun z => w.heap.size ≤ z) dv p)
        have HOO := hid hO
        clear hvo hko hvi hrf hty hsv hs400 hft h82 hfz hes hfm hfg hff htx h69 hfk hesl hfg2 hFN hFK hFG hfe hget hfd hO hx hk hkt hdm hdt hdl
        go_enter Tryz.func28, Tryz.ntmps28
        go_wp2_with (first | (go_at_call 59; refine (HOUT.out _ _ _ HLD.out ((HB23.out.alloc HB23.out.size _).trans (HB4.out.mono (by have := HB23.out.size; simp; omega)))).mono ?_; rintro e w5 ⟨rfl, hb5⟩; have HB5 := hid hb5; clear hb5) | (go_at_call 58; refine (HAT.out _ _ _ HLV.out (HB23.out.alloc HB23.out.size _)).mono ?_; rintro e w4 ⟨ho, hb4⟩; obtain ⟨pd, rfl, hld⟩ := HO3.out _ _ ho; have HLD := hid hld; have HB4 := hid hb4; clear ho hb4 hld) | (go_at_call 57; refine (HREC.out _ _ _ HSP.out).mono ?_; rintro e w3 ⟨ho, hb3⟩; obtain rfl := HO2.out _ ho; have HB23 := hid hb3; clear ho hb3) | (go_at_call 54; refine HG.out.mono ?_; rintro e w2 ⟨ho, hb2⟩; obtain ⟨b, a, c, p, rfl, hsp, hlv⟩ := HO.out _ _ ho; have HSP := hid hsp; have HLV := hid hlv; have HB2 := hid hb2; clear ho hb2 hsp hlv))
        exact bodyPost_ret (v := .tuple #[.string O, .bool true]) (by simp [results, Tryz.results28, go_sem, *]) rfl ⟨by rw [HF.out, tx, HOO.out], (by have b3 := aC HB2.out HB23.out; have b4 := aC (b3.alloc b3.size _) HB4.out; exact aC b4 HB5.out)⟩
end Go.Proofs.YtmdacedmjbiekaaGreatDoor

namespace Go.Proofs.YtmdacedmjbiekaaGreatDoor
open Go.ChangeShapes Go.WideShapes Go.ChangeAt Go.RowKit Go.Lib
set_option linter.unusedVariables false
set_option linter.unusedSimpArgs false
theorem kind_inner {kt : ByteArray} {nm : List UInt8} (h : (Wf.K.ref nm).text = kt.data.toList) : kt.size = nm.length + 2 ∧ (kt.extract 1 (kt.size - 1)).data.toList = nm := by
  have h1 : kt.data.toList = 64 :: (nm ++ [59]) := by rw [← h]; simp [Wf.K.text]
  have h2 : kt.size = nm.length + 2 := by rw [← aE, h1]; simp
  refine ⟨h2, ?_⟩
  rw [bT, h1, h2]
  simp
theorem field_law (s kt v : ByteArray) (g : Int) : vfV (bP s.data.toList kt.data.toList v.data.toList g) = .tuple #[.string ⟨#[]⟩, .bool false] ∨ ∃ X A U C : ByteArray, vfV (bP s.data.toList kt.data.toList v.data.toList g) = .tuple #[.string X, .bool true] ∧ 2 ≤ kt.size ∧ kt.size ≤ 12 ∧ eL s.data.toList (kt.extract 1 (kt.size - 1)).data.toList g = .tuple #[.string A, .string U, .string C, .bool true] ∧ U.size ≤ 12 ∧ X.size ≤ 400 ∧ vOkB s.data.toList U.data.toList X.data.toList = true ∧ vfV (aX s.data.toList kt.data.toList v.data.toList g X.data.toList) = .tuple #[.string v, .bool true] := by
  cases hf : bP s.data.toList kt.data.toList v.data.toList g with
  | none => exact .inl rfl
  | some b =>
    right
    have hf0 := hf
    unfold bP at hf
    cases hvo : valOf s.data.toList kt.data.toList v.data.toList with
    | none => rw [hvo] at hf; cases hf
    | some y =>
      obtain ⟨⟨x, k⟩, u⟩ := y
      rw [hvo] at hf
      obtain ⟨hko, hvi⟩ := hM hvo
      obtain ⟨hx, hk⟩ := fL hko
      obtain ⟨hsc, _, _, hkt, hk12⟩ := gQ hko
      dsimp only [Option.bind_some] at hf hvi hx hk hsc hkt
      obtain ⟨nm, t, f, rfl, ht, h82, hfz, hok, hset⟩ := Wf.a8G hx hvi hf
      obtain ⟨h1, h2⟩ := kind_inner hkt
      have hty : cZ s.data.toList nm = some (x, t) := by unfold cZ; rw [hsc]; dsimp only; rw [ht]; rfl
      have h69 : t.sort ≠ 69 := by rw [h82]; decide
      have hfm := (Wf.dX hfz).1
      have htx := (Wf.aY ht).1
      obtain ⟨z, hz⟩ := Option.isSome_iff_exists.1 hok
      refine ⟨⟨b.toArray⟩, ⟨f.name.toArray⟩, ⟨f.kind.text.toArray⟩, ⟨(Wf.aH x f).toArray⟩, rfl, by omega, by rw [← aE]; exact hk12, ?_, ?_, ?_, ?_, ?_⟩
      · rw [h2]
        unfold eL
        rw [hty]
        dsimp only
        rw [show aZ t g = some f from hfz]
        dsimp only
        rw [if_neg h69]
      · rw [aV]; exact dQ ((hx.tys t htx).fds f hfm)
      · rw [aV]; exact (Wf.cY hz).2.2
      · show (valOf s.data.toList f.kind.text b).isSome = true
        unfold valOf
        rw [wG hty hfm h69]
        dsimp only
        rw [hz]
        rfl
      · show vfV (aX s.data.toList kt.data.toList v.data.toList g b) = _
        unfold aX
        rw [hvo]
        dsimp only [Option.bind_some]
        rw [hset]
        exact rI v
end Go.Proofs.YtmdacedmjbiekaaGreatDoor

namespace Go.Proofs.YtmdacedmjbiekaaGreatDoor
open Go.ChangeShapes Go.WideShapes Go.ChangeAt Go.RowKit Go.Lib
set_option linter.unusedVariables false
set_option linter.unusedSimpArgs false
set_option maxRecDepth 20000 in
set_option maxHeartbeats 4000000 in
set_option maxRecDepth 20000 in
theorem drawValueField (w : World) (a : Option Addr) (len cap : Nat) (h : Bytes w w.heap.size a len cap) : Calls Tryz.prog 33 #[.slice a len cap] w fun e w' => ∃ (s K T : ByteArray) (g : Int), e = .returned (.tuple #[.string s, .string K, .string T, .int .i64 g]) ∧ s.size ≤ 1900 ∧ K.size ≤ 100 ∧ T.size ≤ 500000 ∧ Below w.heap.size w w' := by
  have HO := Lib.hid (a7D w a len cap h)
  clear h
  go_enter Tryz.func33, Tryz.ntmps33
  go_wp2_with (first | (go_at_call 44; have _u := hR3; refine (pick rb 110180 7 _ hR3.out (by omega) (by omega)).mono ?_; rintro e w3 ⟨g, rfl, hg, _, hR5, hBs5⟩; have hB3 := Lib.hid (aA.below hB2.out hB2.out.size hrb hBs5); clear hBs5 hR5 hg) | (go_at_call 69; refine (a8B rb 0 _ hR.out (by omega)).mono ?_; rintro e w2 ⟨s, K, T, rfl, hs, hK, hT, hR2, hBs⟩; have hB2 := Lib.hid (aA.below hB.out hB.out.size hrb hBs); have hR3 := Lib.hid (hR2.mono (show 0 + 110180 ≤ 110180 by omega)); clear hBs hR2) | (go_at_call 41; refine HO.out.mono ?_; rintro e w1 ⟨rb, rfl, hrb, hR1, hB1⟩; have hR := hid hR1; have hB := hid hB1; clear hR1 hB1))
  exact bodyPost_ret (v := .tuple #[.string s, .string K, .string T, .int .i64 g]) (by simp [results, Tryz.results33, go_sem, *]) rfl ⟨_, _, _, _, rfl, hs, hK, hT, hB3.out⟩
end Go.Proofs.YtmdacedmjbiekaaGreatDoor
