/- The program's standing values: what comes of them. The reference's stand, l3Kind, and its functions on schemas. -/
import Derived.Test.YtbkfjopoacbdgaaDoorQ23
import Derived.Test.YtbkfjopoacbdgaaDoorQ22
namespace Go.Proofs.YtbkfjopoacbdgaaDoor
open Go.ChangeShapes Go.WideShapes Go.ChangeAt Go.RowKit Go.Lib
set_option linter.unusedVariables false
set_option linter.unusedSimpArgs false
theorem stands_sign (sb : Nat) (k : Wf.K) (x : Wf.Sc) (w : World) (h : (∃ k', k = .list k') ∨ ∃ k', k = .opt k') : Calls Tryd.prog 45 #[ptr sb, kV k] w fun e w' => e = .returned (tx (Wf.stands x 9 k)) ∧ Below w.heap.size w w' := by
  have hs := fun wz => sign k wz
  rcases h with ⟨k', rfl⟩ | ⟨k', rfl⟩
  · exact (st_sign sb _ _ _ w 91 (.inl rfl) hs).mono fun e w' ⟨h1, h2⟩ => ⟨by rw [h1]; rfl, h2⟩
  · exact (st_sign sb _ _ _ w 63 (.inr rfl) hs).mono fun e w' ⟨h1, h2⟩ => ⟨by rw [h1]; rfl, h2⟩
theorem stands_plain (sb : Nat) (k : Wf.K) (x : Wf.Sc) (w : World) (h : k = .num ∨ k = .txt ∨ k = .flag) : Calls Tryd.prog 45 #[ptr sb, kV k] w fun e w' => e = .returned (tx (Wf.stands x 9 k)) ∧ Below w.heap.size w w' := by
  have hs := fun wz => sign k wz
  rcases h with rfl | rfl | rfl
  · exact st_plain sb _ _ _ w hs ⟨#[48]⟩ (.inl ⟨rfl, rfl⟩)
  · exact st_plain sb _ _ _ w hs ⟨#[39, 39]⟩ (.inr (.inl ⟨rfl, rfl⟩))
  · exact st_plain sb _ _ _ w hs ⟨#[110, 111]⟩ (.inr (.inr ⟨rfl, rfl⟩))
theorem standsN (x : Wf.Sc) (hx : Wf.ScOk x) (lo sb : Nat) (W : World) (H : ScL W lo sb x) : ∀ (n : Nat) (k : Wf.K) (w : World), Below W.heap.size W w → k.text.length ≤ 12 → Wf.hasRef x k = true → (∀ t, refT x k = some t → Wf.endsIn x n t = true) →
    Calls Tryd.prog 45 #[ptr sb, kV k] w fun e w' => e = .returned (tx (Wf.stands x 9 k)) ∧ Below w.heap.size w w' := by
  intro n
  induction n with
  | zero =>
    intro k w hW hk hr he
    cases k with
    | ref nm =>
      obtain ⟨t, ht⟩ := Option.isSome_iff_exists.1 (show (x.find nm).isSome = true by simpa [Wf.hasRef, Wf.K.base, Wf.K.name] using hr)
      have := he t ht
      simp [Wf.endsIn] at this
    | num => exact stands_plain sb _ x w (.inl rfl)
    | txt => exact stands_plain sb _ x w (.inr (.inl rfl))
    | flag => exact stands_plain sb _ x w (.inr (.inr rfl))
    | list k => exact stands_sign sb _ x w (.inl ⟨_, rfl⟩)
    | opt k => exact stands_sign sb _ x w (.inr ⟨_, rfl⟩)
  | succ n ih =>
    intro k w hW hk hr he
    cases k with
    | num => exact stands_plain sb _ x w (.inl rfl)
    | txt => exact stands_plain sb _ x w (.inr (.inl rfl))
    | flag => exact stands_plain sb _ x w (.inr (.inr rfl))
    | list k => exact stands_sign sb _ x w (.inl ⟨_, rfl⟩)
    | opt k => exact stands_sign sb _ x w (.inr ⟨_, rfl⟩)
    | ref nm =>
      have hs := fun wz => sign (.ref nm) wz
      obtain ⟨mb, hsz, hc1, hnm⟩ := H.named
      obtain ⟨t, ht⟩ := Option.isSome_iff_exists.1 (show (x.find nm).isSome = true by simpa [Wf.hasRef, Wf.K.base, Wf.K.name] using hr)
      have hnl : nm.length ≤ 12 := by have := kname_len (.ref nm); simp only [Wf.K.name] at this; omega
      have hm := (Wf.find_mem ht).1
      have hok := hx.tys t hm
      have hend := he t ht
      have hst := stands_ref ht
      rcases hnm ⟨nm.toArray⟩ (by rw [tx_size]; omega) with ⟨h0, _⟩ | ⟨t', b, h1, hT, hl⟩
      · rw [show (⟨nm.toArray⟩ : ByteArray).data.toList = nm from rfl, ht] at h0; cases h0
      rw [show (⟨nm.toArray⟩ : ByteArray).data.toList = nm from rfl, ht] at h1
      obtain rfl : t = t' := Option.some.inj h1
      have HA : At W lo sb ⟨nm.toArray⟩ t mb b := ⟨hsz, hc1, hT, hl⟩
      by_cases h82 : t.sort = 82
      · rw [hst, if_pos h82]
        exact st_rec W lo sb _ _ t mb b HA w hW hs h82
      · rw [if_neg h82] at hst
        obtain ⟨f, fs, hfs⟩ : ∃ f fs, t.fields = f :: fs := List.exists_cons_of_ne_nil (hok.some h82)
        have hfd := hok.fds f (by rw [hfs]; exact List.mem_cons_self ..)
        have htag : f.tag ≤ 999999 := by have := hfd.tag2; omega
        rw [hfs] at hst
        dsimp only at hst
        by_cases h69 : t.sort = 69
        · rw [hst, if_pos h69]
          exact st_enum W lo sb _ _ t mb b HA w hW hs h69 f fs hfs htag ⟨(35 :: Wf.dec f.tag).toArray⟩ rfl
        · rw [if_neg h69] at hst
          have h85 : t.sort = 85 := by
            rcases hok.sort with h | h | h
            · exact absurd h h82
            · exact h
            · exact absurd h h69
          obtain ⟨s0, hs0⟩ := hfd.kind h69
          have hfl : f.kind.text.length ≤ 12 := parseK_len hs0
          have hfr : Wf.hasRef x f.kind = true := by
            have := hx.refs t hm h69 f (by rw [hfs]; exact List.mem_cons_self ..)
            exact this
          have hs2 := stands_len hx 9 f.kind
          rw [hst, ← stands89 hx f.kind]
          refine st_union W lo sb _ _ t mb b HA w hW hs h85 f fs hfs htag ⟨(Wf.stands x 9 f.kind).toArray⟩ ⟨(60 :: (Wf.dec f.tag ++ 61 :: (Wf.stands x 9 f.kind ++ [62]))).toArray⟩ (by rw [tx_size]; omega) rfl fun wz hz => ih f.kind wz (hW.trans (hz.mono hW.size)) hfl hfr fun t' ht' => ?_
          have := ends_step (x := x) (m := n) h85 hfs
          rw [ht', hend] at this
          exact this.symm
theorem stands (x : Wf.Sc) (hx : Wf.ScOk x) (lo sb : Nat) (k : Wf.K) (W w : World) (hW : Below W.heap.size W w) (H : ScL W lo sb x) (hk : k.text.length ≤ 12) (hr : Wf.hasRef x k = true) :
    Calls Tryd.prog 45 #[ptr sb, kV k] w fun e w' => e = .returned (tx (Wf.stands x 9 k)) ∧ Below w.heap.size w w' :=
  standsN x hx lo sb W H 9 k w hW hk hr fun t ht => hx.ends t (refT_mem ht)
set_option maxRecDepth 20000 in
set_option maxHeartbeats 1000000 in
theorem of_w (sb fb o : Nat) (SG BS NM GV O : ByteArray) (w : World) (k0 : w.cell? ⟨fb, o + 2, none⟩ = some (.string SG)) (k1 : w.cell? ⟨fb, o + 3, none⟩ = some (.string BS)) (k2 : w.cell? ⟨fb, o + 4, none⟩ = some (.string NM)) (k3 : w.cell? ⟨fb, o + 5, none⟩ = some (.string GV))
    (h : (GV.toList.isEmpty = false ∧ O = GV) ∨ (GV.toList.isEmpty = true ∧ ∀ wz, Below w.heap.size w wz → Calls Tryd.prog 45 #[ptr sb, .agg #[.string SG, .string BS, .string NM]] wz fun e w' => e = .returned (.string O) ∧ Below wz.heap.size wz w')) :
    Calls Tryd.prog 53 #[ptr sb, .pointer (some ⟨fb, o, none⟩)] w fun e w' => e = .returned (.string O) ∧ Below w.heap.size w w' := by
  rcases h with ⟨h1, rfl⟩ | ⟨h1, h2⟩
  · go_enter Tryd.func53, Tryd.ntmps53
    go_wp2_with fail
    go_ret
    exact ⟨rfl, Below.refl _ _⟩
  · have H2 := hid h2
    clear h2
    go_enter Tryd.func53, Tryd.ntmps53
    go_wp2_with (go_at_call 45; refine (H2.out _ (Below.refl _ _)).mono ?_; rintro e w2 ⟨rfl, hb2⟩; have HB2 := hid hb2; clear hb2)
    go_ret
    exact ⟨rfl, HB2.out⟩
/-- the standing value of a field that lies in an older world -/
theorem of (x : Wf.Sc) (hx : Wf.ScOk x) (lo sb fb o : Nat) (sort : UInt8) (f : Wf.Fd) (W w : World) (hW : Below W.heap.size W w) (H : ScL W lo sb x) (h69 : sort ≠ 69) (hf : FdAt W fb o sort f) (hk : f.kind.text.length ≤ 12) (hr : Wf.hasRef x f.kind = true) :
    Calls Tryd.prog 53 #[ptr sb, .pointer (some ⟨fb, o, none⟩)] w fun e w' => e = .returned (tx (Wf.standF x f)) ∧ Below w.heap.size w w' := by
  have hf' := hf.2
  have e0 : fdC sort f = [.int .i64 f.tag, tx f.name, tx f.kind.signs, tx f.kind.base, tx f.kind.name, tx f.given] := by unfold fdC; rw [if_neg h69]
  rw [e0] at hf'
  have cc := fun j u hu => (hW.cell (p := ⟨fb, o + j, none⟩) hf.1).trans (hf' j u hu)
  refine of_w sb fb o ⟨f.kind.signs.toArray⟩ ⟨f.kind.base.toArray⟩ ⟨f.kind.name.toArray⟩ ⟨f.given.toArray⟩ ⟨(Wf.standF x f).toArray⟩ w (cc 2 _ rfl) (cc 3 _ rfl) (cc 4 _ rfl) (cc 5 _ rfl) ?_
  unfold Wf.standF
  by_cases hg : f.given = []
  · right
    refine ⟨by rw [ByteArray.toList_eq, hg]; rfl, fun wz hz => ?_⟩
    rw [if_pos hg]
    exact stands x hx lo sb f.kind W wz (hW.trans (hz.mono hW.size)) H hk hr
  · left
    refine ⟨by rw [ByteArray.toList_eq]; cases hh : f.given with | nil => exact absurd hh hg | cons a r => rfl, by rw [if_neg hg]⟩
end Go.Proofs.YtbkfjopoacbdgaaDoor

namespace Go.Proofs.YtbkfjopoacbdgaaDoor
open Go.ChangeShapes Go.WideShapes Go.ChangeAt Go.RowKit Go.Lib
set_option linter.unusedVariables false
set_option maxRecDepth 20000 in
set_option maxHeartbeats 1000000 in
theorem l3stand_w (v : Value) (G : Int) (N K S O : ByteArray) (w : World) (h : (S.toList.isEmpty = true ∧ Calls Tryd.prog 43 #[v, .string K] (w.alloc (.cells #[.int .i64 G, .string N, .string K, .string S] 68)) fun e w' => e = .returned (.string O) ∧ Below (w.heap.size + 1) (w.alloc (.cells #[.int .i64 G, .string N, .string K, .string S] 68)) w') ∨ (S.toList.isEmpty = false ∧ O = S)) :
    Calls Tryd.prog 50 #[v, .agg #[.int .i64 G, .string N, .string K, .string S]] w fun e w' => e = .returned (.string O) ∧ Below w.heap.size w w' := by
  rcases h with ⟨he, hc⟩ | ⟨he, rfl⟩
  · have HC := hid hc
    clear hc
    go_enter Tryd.func50, Tryd.ntmps50
    go_wp2_with (go_at_call 43; refine HC.out.mono ?_; rintro e w2 ⟨rfl, hb2⟩; have HB2 := hid hb2; clear hb2)
    go_ret
    exact ⟨rfl, ((Below.refl _ _).alloc (Nat.le_refl _) _).trans (HB2.out.mono (Nat.le_succ _))⟩
  · go_enter Tryd.func50, Tryd.ntmps50
    go_wp2_with fail
    go_ret
    exact ⟨rfl, (Below.refl _ _).alloc (Nat.le_refl _) _⟩
/-- the standing value of a field, in a schema that lies in an older world W -/
theorem l3stand (x : Wf.Sc) (hx : Wf.ScOk x) (lo b : Nat) (v : Value) (f : Wf.Fd) (W w : World) (hW : Below W.heap.size W w) (H : ScSp W lo b v x) (hk : f.kind.text.length ≤ 12) (hr : Wf.hasRef x f.kind = true) :
    Calls Tryd.prog 50 #[v, .agg #[.int .i64 f.tag, tx f.name, tx f.kind.text, tx f.given]] w fun e w' => e = .returned (tx (Wf.standF x f)) ∧ Below w.heap.size w w' := by
  refine l3stand_w v f.tag ⟨f.name.toArray⟩ ⟨f.kind.text.toArray⟩ ⟨f.given.toArray⟩ ⟨(Wf.standF x f).toArray⟩ w ?_
  unfold Wf.standF
  by_cases hg : f.given = []
  · left
    refine ⟨by rw [ByteArray.toList_eq, hg]; rfl, ?_⟩
    rw [if_pos hg]
    refine (l3stands x hx lo b v f.kind W _ (hW.alloc hW.size _) H hk hr).mono fun e w' ⟨h1, h2⟩ => ⟨h1, ?_⟩
    have : (w.alloc (.cells #[.int .i64 f.tag, .string ⟨f.name.toArray⟩, .string ⟨f.kind.text.toArray⟩, .string ⟨f.given.toArray⟩] 68)).heap.size = w.heap.size + 1 := by simp
    rw [← this]; exact h2
  · right
    refine ⟨by rw [ByteArray.toList_eq]; cases hh : f.given with | nil => exact absurd hh hg | cons a r => rfl, by rw [if_neg hg]⟩
/-- a schema and a kind of it -/
def kindOf (l kt : List UInt8) : Option (Wf.Sc × Wf.K) := match Wf.schemaOf l with
  | none => none
  | some x => match Wf.parseK kt with
    | none => none
    | some k => if Wf.hasRef x k = true then some (x, k) else none
/-- what l3Kind gives -/
def LkOut (l kt : List UInt8) (lo : Nat) (e : Ending) (w' : World) : Prop := match kindOf l kt with
  | some y => ∃ b a c, e = .returned (.tuple #[.slice a y.1.length c, .bool true]) ∧ ScSp w' lo b (.slice a y.1.length c) y.1
  | none => ∃ a n c, e = .returned (.tuple #[.slice a n c, .bool false])
theorem kindOf_text {l kt : List UInt8} {y : Wf.Sc × Wf.K} (h : kindOf l kt = some y) : Wf.schemaOf l = some y.1 ∧ Wf.parseK kt = some y.2 ∧ Wf.hasRef y.1 y.2 = true ∧ y.2.text = kt ∧ kt.length ≤ 12 := by
  unfold kindOf at h
  cases hs : Wf.schemaOf l with
  | none => rw [hs] at h; cases h
  | some x =>
    rw [hs] at h
    cases hk : Wf.parseK kt with
    | none => rw [hk] at h; cases h
    | some k =>
      rw [hk] at h
      dsimp only at h
      split at h
      · rename_i hr
        simp only [Option.some.injEq] at h
        subst h
        have hl := parseK_len hk
        unfold Wf.parseK at hk
        split at hk
        · exact ⟨rfl, rfl, hr, Wf.kindIn_text hk, by assumption⟩
        · cases hk
      · cases h
theorem lk_fin {l kt : List UInt8} {x : Wf.Sc} {k : Wf.K} {is ok : Bool} {n lo b c : Nat} {a : Option Addr} {w' : World} (h : kindOf l kt = if (!is || ok) = true then some (x, k) else none) (hn : x.length = n) (hs : ScSp w' lo b (.slice a n c) x) {r : Bool} (hr : r = (!is || ok)) : LkOut l kt lo (.returned (.tuple #[.slice a n c, .bool r])) w' := by
  subst hr
  unfold LkOut
  rw [h]
  cases hb : (!is || ok) with
  | true => rw [if_pos rfl]; exact ⟨b, a, c, by rw [hn], by rw [hn]; exact hs⟩
  | false => rw [if_neg (by decide)]; exact ⟨_, _, _, rfl⟩
set_option maxRecDepth 20000 in
set_option maxHeartbeats 1000000 in
theorem l3Kind (s kt : ByteArray) (w : World) (hs : s.size ≤ 1048576) : Calls Tryd.prog 42 #[.string s, .string kt] w fun e w' => LkOut s.data.toList kt.data.toList w.heap.size e w' ∧ Below w.heap.size w w' := by
  have HOF := hid fun wz => l3Of s wz hs
  have HOK := hid fun wz => kindOk_spec kt.size kt wz (Nat.le_refl _)
  cases hsc : Wf.schemaOf s.data.toList with
  | none =>
    have HO := hid fun e lo wz (h : OfOut s.data.toList lo e wz) => (by unfold OfOut at h; rw [hsc] at h; exact h : ∃ a n c, e = .returned (.tuple #[.slice a n c, .bool false]))
    have HF := hid (show kindOf s.data.toList kt.data.toList = none by unfold kindOf; rw [hsc])
    clear hsc
    go_enter Tryd.func42, Tryd.ntmps42
    go_wp2_with (go_at_call 37; refine (HOF.out _).mono ?_; rintro e w2 ⟨ho, hb2⟩; obtain ⟨a, n, c, rfl⟩ := HO.out _ _ _ ho; have HB2 := hid hb2; clear ho hb2)
    go_ret2
    exact ⟨by unfold LkOut; rw [HF.out]; exact ⟨_, _, _, rfl⟩, HB2.out⟩
  | some x =>
    have hx8 := (Wf.schemaOf_ok hsc).len
    have HO := hid fun e lo wz (h : OfOut s.data.toList lo e wz) => (by unfold OfOut at h; rw [hsc] at h; obtain ⟨b, v, he, hsp⟩ := h; obtain ⟨a, c, rfl, _⟩ := hsp.slice; exact ⟨b, a, c, he, hsp⟩ : ∃ b a c, e = .returned (.tuple #[.slice a x.length c, .bool true]) ∧ ScSp wz lo b (.slice a x.length c) x)
    obtain ⟨n, hn⟩ : ∃ n, x.length = n := ⟨_, rfl⟩
    rw [hn] at HO
    have HN := hid hn
    cases hk : Wf.parseK kt.data.toList with
    | none =>
      rw [ok_none hk] at HOK
      have HF := hid (show kindOf s.data.toList kt.data.toList = none by unfold kindOf; rw [hsc]; dsimp only; rw [hk])
      clear hsc hk hn
      go_enter Tryd.func42, Tryd.ntmps42
      go_wp2_with (first | (go_at_call 62; refine (HOK.out _).mono ?_; rintro e w3 ⟨rfl, rfl⟩) | (go_at_call 37; refine (HOF.out _).mono ?_; rintro e w2 ⟨ho, hb2⟩; obtain ⟨b, a, c, rfl, hs2⟩ := HO.out _ _ _ ho; have HB2 := hid hb2; clear ho hb2 hs2))
      go_ret2
      exact ⟨by unfold LkOut; rw [HF.out]; exact ⟨_, _, _, rfl⟩, HB2.out⟩
    | some k =>
      rw [ok_some hk] at HOK
      have hkl := parseK_len hk
      have hkt : tx k.text = .string kt := by
        unfold Wf.parseK at hk
        split at hk
        · rw [Wf.kindIn_text hk]
        · cases hk
      have HCORE := hid fun wz => l2Core_text k (by omega) wz
      have hcl := core_len k
      have HREF := hid fun wz => l2Ref_text k.core (by omega) wz
      obtain ⟨NM, is, hri, hhas⟩ := core_is x k
      rw [hri] at HREF
      have HFIND := hid fun wz lo b v (h : ScSp wz lo b v x) => (l3findAny x lo b v NM wz wz (Below.refl _ _) (by omega) h)
      obtain ⟨CT, hCT⟩ : ∃ CT : ByteArray, (⟨k.core.text.toArray⟩ : ByteArray) = CT := ⟨_, rfl⟩
      rw [hkt] at HCORE
      simp only [tx, hCT] at HCORE HREF
      obtain ⟨ok, hokk⟩ : ∃ ok, (x.find NM.data.toList).isSome = ok := ⟨_, rfl⟩
      rw [hokk] at hhas HFIND
      have HF := hid (show kindOf s.data.toList kt.data.toList = if (!is || ok) = true then some (x, k) else none by unfold kindOf; rw [hsc]; dsimp only; rw [hk]; dsimp only; rw [hhas])
      clear hsc hk hn hhas hokk hCT hri hcl hkl hkt
      have hcs : (is = false) ∨ (is = true ∧ ok = true) ∨ (is = true ∧ ok = false) := by cases is <;> cases ok <;> simp
      go_enter Tryd.func42, Tryd.ntmps42
      go_wp2_with (first | (go_at_call 61; refine (HFIND.out _ _ _ _ HS.out).mono ?_; rintro e w5 ⟨⟨fq, fN, fA, fM, fC, rfl⟩, hb5⟩; have HB5 := hid hb5; clear hb5) | (go_at_call 63; refine (HREF.out _).mono ?_; rintro e w4 ⟨rfl, rfl⟩) | (go_at_call 64; refine (HCORE.out _).mono ?_; rintro e w3 ⟨rfl, rfl⟩) | (go_at_call 62; refine (HOK.out _).mono ?_; rintro e w3 ⟨rfl, rfl⟩) | (go_at_call 37; refine (HOF.out _).mono ?_; rintro e w2 ⟨ho, hb2⟩; obtain ⟨b, a, c, rfl, hs2⟩ := HO.out _ _ _ ho; have HS := hid hs2; have HB2 := hid hb2; clear ho hb2 hs2))
      all_goals go_ret2
      · exact ⟨lk_fin (is := is) (ok := ok) HF.out HN.out (HS.out.below HB5.out |>.below ((Below.refl _ _).alloc (Nat.le_refl _) _)) (by simp [*]), (HB2.out.trans (HB5.out.mono HB2.out.size)).alloc (Nat.le_trans HB2.out.size HB5.out.size) _⟩
      · exact ⟨lk_fin (is := is) (ok := ok) HF.out HN.out (HS.out.below HB5.out |>.below ((Below.refl _ _).alloc (Nat.le_refl _) _)) (by simp [*]), (HB2.out.trans (HB5.out.mono HB2.out.size)).alloc (Nat.le_trans HB2.out.size HB5.out.size) _⟩
/-- what the reference and the program say of a schema's types -/
def okL (l : List UInt8) : Bool := (Wf.schemaOf l).isSome
def typesL (l : List UInt8) : List (List UInt8) := match Wf.schemaOf l with | some x => x.map (·.name) | none => []
def sortV (l nm : List UInt8) : Value := match typeIn l nm with | some y => .tuple #[tx [y.2.sort], .bool true] | none => .tuple #[tx [], .bool false]
def tagsL (l nm : List UInt8) : List Nat := match typeIn l nm with | some y => y.2.fields.map (·.tag) | none => []
def standsV (l kt : List UInt8) : Value := match kindOf l kt with | some y => .tuple #[tx (Wf.stands y.1 9 y.2), .bool true] | none => .tuple #[tx [], .bool false]
def fieldV (l nm : List UInt8) (g : Int) : Value := match typeIn l nm with
  | some y => (match fieldI y.2 g with
    | some f => if y.2.sort = 69 then .tuple #[tx f.name, tx [], tx [], .bool true] else .tuple #[tx f.name, tx f.kind.text, tx (Wf.standF y.1 f), .bool true]
    | none => .tuple #[tx [], tx [], tx [], .bool false])
  | none => .tuple #[tx [], tx [], tx [], .bool false]
theorem of_ok {l : List UInt8} {lo : Nat} {e : Ending} {w' : World} (h : OfOut l lo e w') : ∃ a n c, e = .returned (.tuple #[.slice a n c, .bool (okL l)]) := by
  unfold OfOut at h
  unfold okL
  cases hs : Wf.schemaOf l with
  | none => rw [hs] at h; exact h
  | some x =>
    rw [hs] at h
    obtain ⟨b, v, he, hsp⟩ := h
    obtain ⟨a, c, rfl, _⟩ := hsp.slice
    exact ⟨_, _, _, he⟩
set_option maxRecDepth 20000 in
theorem schemaOk_s (s : ByteArray) (w : World) (hs : s.size ≤ 1048576) : Calls Tryd.prog 13 #[.string s] w fun e w' => e = .returned (.bool (okL s.data.toList)) ∧ Below w.heap.size w w' := by
  have HOF := hid fun wz => l3Of s wz hs
  go_enter Tryd.func13, Tryd.ntmps13
  go_wp2_with (go_at_call 37; refine (HOF.out _).mono ?_; rintro e w2 ⟨ho, hb2⟩; obtain ⟨a, n, c, rfl⟩ := of_ok ho; have HB2 := hid hb2; clear ho hb2)
  go_ret
  exact ⟨rfl, HB2.out⟩
set_option maxRecDepth 20000 in
set_option maxHeartbeats 1000000 in
theorem schemaSort_s (s nm : ByteArray) (w : World) (hs : s.size ≤ 1048576) : Calls Tryd.prog 15 #[.string s, .string nm] w fun e w' => e = .returned (sortV s.data.toList nm.data.toList) ∧ Below w.heap.size w w' := by
  have kc := run_convert_lit (P := Tryd.prog) 36 9 5 Tryd.underlying36 Tryd.underlying5 Tryd.underlying9
  have HLF := hid fun wz => l3Find s nm wz hs
  cases hty : typeIn s.data.toList nm.data.toList with
  | none =>
    have HO := hid fun lo e wz (h : LfOut s.data.toList nm.data.toList lo e wz) => (by unfold LfOut at h; rw [hty] at h; exact h : ∃ a n c, e = .returned (.tuple #[.slice a n c, .agg #[.int .u8 0, tx [], .slice none 0 0], .bool false]))
    have HF := hid (show sortV s.data.toList nm.data.toList = .tuple #[tx [], .bool false] by unfold sortV; rw [hty])
    clear hty
    go_enter Tryd.func15, Tryd.ntmps15
    go_wp2_with (go_at_call 39; refine (HLF.out _).mono ?_; rintro e w2 ⟨ho, hb2⟩; obtain ⟨a, n, c, rfl⟩ := HO.out _ _ _ ho; have HB2 := hid hb2; clear ho hb2)
    go_ret2
    exact ⟨by rw [HF.out]; rfl, HB2.out.alloc HB2.out.size _⟩
  | some y =>
    obtain ⟨x, t⟩ := y
    have HO := hid fun lo e wz (h : LfOut s.data.toList nm.data.toList lo e wz) => (by unfold LfOut at h; rw [hty] at h; obtain ⟨b, a, c, fb, fa, fc, h1, h2⟩ := h; exact ⟨_, _, _, _, _, _, h1⟩ : ∃ a n c fa fn fc, e = .returned (.tuple #[.slice a n c, .agg #[.int .u8 t.sort.toNat, tx t.name, .slice fa fn fc], .bool true]))
    have HF := hid (show sortV s.data.toList nm.data.toList = .tuple #[tx [t.sort], .bool true] by unfold sortV; rw [hty])
    obtain ⟨q, hq⟩ : ∃ q, t.sort.toNat = q := ⟨_, rfl⟩
    rw [hq] at HO
    have HQ := hid (show UInt8.ofNat q = t.sort by rw [← hq]; simp)
    have kc1 := fun W a c h => run_convert_one (P := Tryd.prog) 36 9 5 Tryd.underlying36 Tryd.underlying5 Tryd.underlying9 W a c (q : Int) h
    clear hty hq kc
    go_enter Tryd.func15, Tryd.ntmps15
    go_wp2_with (go_at_call 39; refine (HLF.out _).mono ?_; rintro e w2 ⟨ho, hb2⟩; obtain ⟨a, n, c, fa, fn, fc, rfl⟩ := HO.out _ _ _ ho; have HB2 := hid hb2; clear ho hb2)
    go_ret2
    exact ⟨by rw [HF.out, ← HQ.out]; rfl, (HB2.out.alloc HB2.out.size _).alloc (by have := HB2.out.size; simp; omega) _⟩
/-- an append to a row of the call's own leaves a block apart from it, and apart -/
theorem apart_step {v v' : Value} {wx w' : World} (hg : wx.grownBy w' v.ownBlock) (hl : v'.ownBlock = v.ownBlock ∨ v'.ownBlock = some wx.heap.size) {b : Nat} (hb : b < wx.heap.size) (ha : some b ≠ v.ownBlock) : w'.heap[b]? = wx.heap[b]? ∧ some b ≠ v'.ownBlock := by
  refine ⟨hg.block b hb ha, ?_⟩
  rcases hl with h | h
  · rw [h]; exact ha
  · rw [h]; intro e; have := Option.some.inj e; omega
theorem new1 (W : World) (x : Value) (et : TypeId) : ∀ (j : Nat) (u : Value), [x][j]? = some u → (W.alloc (.cells #[x] et)).cell? (Addr.add ⟨W.heap.size, 0, none⟩ j) = some u := by
  intro j u hj
  match j, hj with
  | 0, hj => simp at hj; subst hj; simp [Addr.add]
/-- what stays on the way of a loop that gathers: the row of the call's own, and a block apart from it -/
structure Gat (w w2 wr : World) (e : TypeId) (b : Nat) (v : Value) (n : Nat) (xs : List Value) : Prop where
  own : wr.ownsRow w.heap.size e 1 v n xs
  size : w2.heap.size ≤ wr.heap.size
  block : wr.heap[b]? = w2.heap[b]?
  apart : some b ≠ v.ownBlock
  below : Below w.heap.size w wr
theorem Gat.cell {w w2 wr : World} {e : TypeId} {b : Nat} {v : Value} {n : Nat} {xs : List Value} (h : Gat w w2 wr e b v n xs) {o : Nat} {u : Value} (hu : w2.cell? ⟨b, o, none⟩ = some u) : wr.cell? ⟨b, o, none⟩ = some u := (World.cell?_of_block (w := w2) (a := ⟨b, o, none⟩) h.block).trans hu
theorem Gat.put {w w2 wr w' : World} {e : TypeId} {b : Nat} {v v' : Value} {n m : Nat} {xs ys : List Value} {o : Obj} (h : Gat w w2 wr e b v n xs) (hb : b < w2.heap.size) (hg : (wr.alloc o).grownBy w' v.ownBlock) (hl : v'.ownBlock = v.ownBlock ∨ v'.ownBlock = some (wr.alloc o).heap.size) (ho : w'.ownsRow w.heap.size e 1 v' m ys) : Gat w w2 w' e b v' m ys := by
  have hbr : b < wr.heap.size := Nat.lt_of_lt_of_le hb h.size
  have hs : (wr.alloc o).heap.size = wr.heap.size + 1 := by simp
  obtain ⟨a1, a2⟩ := apart_step hg hl (by omega) h.apart
  refine ⟨ho, ?_, ?_, a2, ?_⟩
  · have := hg.size; have := h.size; omega
  · rw [a1]
    have hA := (Below.refl wr.heap.size wr).alloc (Nat.le_refl _) o
    rw [hA.block b hbr, h.block]
  · refine (h.below.alloc h.below.size o).trans ?_
    refine below_grown2 hg (fun g hgk => (owns_lt h.own g hgk).1) ?_
    have := h.below.size; omega
set_option maxRecDepth 20000 in
set_option maxHeartbeats 1000000 in
theorem schemaTypes_s (s : ByteArray) (w : World) (hs : s.size ≤ 1048576) : Calls Tryd.prog 17 #[.string s] w fun e w' => (∃ b v, e = .returned (.tuple #[v, .bool (okL s.data.toList)]) ∧ w.heap.size ≤ b ∧ RowAt w' b v ((typesL s.data.toList).map tx)) ∧ Below w.heap.size w w' := by
  have HOF := hid fun wz => l3Of s wz hs
  cases hsc : Wf.schemaOf s.data.toList with
  | none =>
    have HO := hid fun e lo wz (h : OfOut s.data.toList lo e wz) => (by unfold OfOut at h; rw [hsc] at h; exact h : ∃ a n c, e = .returned (.tuple #[.slice a n c, .bool false]))
    have HF := hid (show okL s.data.toList = false ∧ typesL s.data.toList = [] by unfold okL typesL; rw [hsc]; exact ⟨rfl, rfl⟩)
    clear hsc
    go_enter Tryd.func17, Tryd.ntmps17
    go_wp2_with (go_at_call 37; refine (HOF.out _).mono ?_; rintro e w2 ⟨ho, hb2⟩; obtain ⟨a, n, c, rfl⟩ := HO.out _ _ _ ho; have HB2 := hid hb2; clear ho hb2)
    go_ret2
    refine ⟨⟨w.heap.size, _, by rw [HF.out.1]; rfl, Nat.le_refl _, ?_⟩, ((Below.refl _ _).alloc (Nat.le_refl _) _).trans (HB2.out.mono (by simp))⟩
    rw [HF.out.2]
    exact ⟨_, 0, rfl, Nat.le_refl _, by unfold maxLen; omega, .inl rfl⟩
  | some x =>
    have hx8 := (Wf.schemaOf_ok hsc).len
    have HO := hid fun e lo wz (h : OfOut s.data.toList lo e wz) => (by unfold OfOut at h; rw [hsc] at h; obtain ⟨b, v, he, hsp⟩ := h; obtain ⟨a, c, rfl, _⟩ := hsp.slice; exact ⟨b, a, c, he, hsp⟩ : ∃ b a c, e = .returned (.tuple #[.slice a x.length c, .bool true]) ∧ ScSp wz lo b (.slice a x.length c) x)
    have HF := hid (show okL s.data.toList = true ∧ typesL s.data.toList = x.map (·.name) by unfold okL typesL; rw [hsc]; exact ⟨rfl, rfl⟩)
    obtain ⟨n, hn⟩ : ∃ n, x.length = n := ⟨_, rfl⟩
    rw [hn] at HO
    have HN := hid hn
    have hn8 : n ≤ 8 := by omega
    obtain ⟨XS, hXS⟩ : ∃ XS, x.map (fun t => tx t.name) = XS := ⟨_, rfl⟩
    have HXS := hid hXS
    clear hsc hn hXS
    go_enter Tryd.func17, Tryd.ntmps17
    go_wp2_with (go_at_call 37; refine (HOF.out _).mono ?_; rintro e w2 ⟨ho, hb2⟩; obtain ⟨b, a, c, rfl, hs2⟩ := HO.out _ _ _ ho; have HS := hid hs2; have HB2 := hid hb2; clear ho hb2 hs2)
    go_loopw [4, 7] (fun v4 v7 wr => ∃ (k : Nat) (a' : Option Addr) (c' : Nat), v4 = .slice a' k c' ∧ v7 = .int .i64 k ∧ k ≤ n ∧ Hid (Gat w w2 wr 9 b v4 k (XS.take k))) (fun _ v7 _ => n - (RowKit.intOf v7).toNat)
    case atStart => exact ⟨0, _, _, rfl, rfl, Nat.zero_le _, hid ⟨owns_below (World.ownsRow_made w #[] 0 (Nat.le_refl _) (by decide) rfl) HB2.out, Nat.le_refl _, rfl, (by obtain ⟨_, h0, _⟩ := HS.out; simp at h0; intro e; have := Option.some.inj e; simp at this; omega), ((Below.refl _ _).alloc (Nat.le_refl _) _).trans (HB2.out.mono (by simp))⟩⟩
    case round =>
      obtain ⟨k, a', c', rfl, rfl, hk, hg⟩ := hrel
      by_cases hlt : k < n
      · have hkx : k < x.length := by rw [HN.out]; exact hlt
        obtain ⟨o, fb, fa, fc, rfl, hbw, _, g1', _, _, _⟩ := HS.out.get hkx
        have g1 := hg.out.cell g1'
        obtain ⟨TN, hTN⟩ : ∃ TN : ByteArray, (⟨(x[k]).name.toArray⟩ : ByteArray) = TN := ⟨_, rfl⟩
        rw [tx, hTN] at g1
        have HX := hid (show XS.take (k + 1) = XS.take k ++ [.string TN] by
          rw [List.take_add_one, ← HXS.out, List.getElem?_map, List.getElem?_eq_getElem hkx, ← hTN]; rfl)
        obtain ⟨i0, hi0, hz0, hz1, hz2⟩ := info_parts info_tx
        have HI0 := hid hi0
        have HZ0 := hid hz0
        have HZ1 := hid hz1
        have HZ2 := hid hz2
        have hsz := hg.out.below.size
        clear g1' hTN hi0 hz0 hz1 hz2
        go_wp2_with (at_builtin; refine wpList_append_own_at _ rfl (.tmp 23) (.tmp 29) 26 rfl w.heap.size 9 i0 (.string ⟨#[]⟩) 1 16 Tryd.underlying26 HI0.out HZ0.out HZ1.out HZ2.out rfl (by decide) (.slice a' k c') k _ rfl (hg.out.own.alloc _) ⟨wr.heap.size, 0, none⟩ 1 1 [.string TN] rfl rfl ?hn ?h1 (by unfold maxLen; omega) (by omega) ?hb ?next)
        case hn => exact new1 wr _ _
        case h1 => intro u hu; rw [List.mem_singleton.1 hu]; rfl
        case hb => simp; omega
        case next =>
          intro v1 w3 ho3 hg3 _ hloc
          obtain ⟨a2, c2, rfl⟩ := owns_slice ho3
          rw [← HX.out] at ho3
          have HG := hid (hg.out.put hbw hg3 (by simpa using hloc) ho3)
          clear ho3 hg3 hloc
          go_wp2
          go_roundw
          case rel => exact ⟨k + 1, a2, c2, rfl, by go_num, by omega, HG⟩
          case measure => simp [RowKit.intOf]; omega
      · have hkn : k = n := by omega
        subst hkn
        have HG := hid (show wr.ownsRow w.heap.size 9 1 (.slice a' k c') ((typesL s.data.toList).map tx).length ((typesL s.data.toList).map tx) by
          have h := hg.out.own
          rw [List.take_of_length_le (by rw [← HXS.out, List.length_map, HN.out]; exact Nat.le_refl _), ← HXS.out] at h
          rw [HF.out.2, List.map_map, List.length_map, HN.out]
          exact h)
        have HB := hid hg.out.below
        go_wp2
        go_ret2
        obtain ⟨b2, hb2, hr2⟩ := RowAt.of_owns HG.out
        exact ⟨⟨b2, _, by rw [HF.out.1]; rfl, hb2, hr2⟩, HB.out⟩
theorem info_int : (Tryd.prog.info? 3).map (fun i => (i.zero, i.size, i.bytes)) = some (some (.int .i64 0), 1, 8) := by kernel_rfl
set_option maxRecDepth 20000 in
set_option maxHeartbeats 1000000 in
theorem schemaTags_s (s nm : ByteArray) (w : World) (hs : s.size ≤ 1048576) : Calls Tryd.prog 22 #[.string s, .string nm] w fun e w' => (∃ b v, e = .returned (.tuple #[v, .bool (typeIn s.data.toList nm.data.toList).isSome]) ∧ w.heap.size ≤ b ∧ RowAt w' b v ((tagsL s.data.toList nm.data.toList).map fun (g : Nat) => .int .i64 g)) ∧ Below w.heap.size w w' := by
  have HLF := hid fun wz => l3Find s nm wz hs
  cases hty : typeIn s.data.toList nm.data.toList with
  | none =>
    have HO := hid fun lo e wz (h : LfOut s.data.toList nm.data.toList lo e wz) => (by unfold LfOut at h; rw [hty] at h; exact h : ∃ a n c, e = .returned (.tuple #[.slice a n c, .agg #[.int .u8 0, tx [], .slice none 0 0], .bool false]))
    have HF := hid (show tagsL s.data.toList nm.data.toList = [] by unfold tagsL; rw [hty])
    clear hty
    go_enter Tryd.func22, Tryd.ntmps22
    go_wp2_with (go_at_call 39; refine (HLF.out _).mono ?_; rintro e w2 ⟨ho, hb2⟩; obtain ⟨a, n, c, rfl⟩ := HO.out _ _ _ ho; have HB2 := hid hb2; clear ho hb2)
    go_ret2
    refine ⟨⟨w.heap.size, _, rfl, Nat.le_refl _, ?_⟩, by have B := ((Below.refl w.heap.size w).alloc (Nat.le_refl _) _).trans (HB2.out.mono (by simp)); exact B.alloc B.size _⟩
    rw [HF.out]
    exact ⟨_, 0, rfl, Nat.le_refl _, by unfold maxLen; omega, .inl rfl⟩
  | some y =>
    obtain ⟨x, t⟩ := y
    have ht8 : t.fields.length ≤ 8 := by
      unfold typeIn at hty
      cases hsc : Wf.schemaOf s.data.toList with
      | none => rw [hsc] at hty; cases hty
      | some x' =>
        rw [hsc] at hty
        dsimp only at hty
        cases hf : x'.find nm.data.toList with
        | none => rw [hf] at hty; cases hty
        | some t' =>
          rw [hf] at hty
          simp only [Option.map_some, Option.some.injEq, Prod.mk.injEq] at hty
          obtain ⟨rfl, rfl⟩ := hty
          exact ((Wf.schemaOf_ok hsc).tys _ (Wf.find_mem hf).1).len
    have HO := hid fun lo e wz (h : LfOut s.data.toList nm.data.toList lo e wz) => (by unfold LfOut at h; rw [hty] at h; obtain ⟨b, a, c, fb, fa, fc, h1, _, h2, h3⟩ := h; exact ⟨_, _, _, fb, fa, fc, h1, h2, h3⟩ : ∃ a n c fb fa fc, e = .returned (.tuple #[.slice a n c, .agg #[.int .u8 t.sort.toNat, tx t.name, .slice fa t.fields.length fc], .bool true]) ∧ lo ≤ fb ∧ RowK wz fb (.slice fa t.fields.length fc) 4 (t.fields.map (fdS t.sort)))
    have HF := hid (show tagsL s.data.toList nm.data.toList = t.fields.map (·.tag) by unfold tagsL; rw [hty])
    obtain ⟨n, hn⟩ : ∃ n, t.fields.length = n := ⟨_, rfl⟩
    rw [hn] at HO ht8
    have HN := hid hn
    obtain ⟨XS, hXS⟩ : ∃ XS : List Value, t.fields.map (fun f => Value.int .i64 f.tag) = XS := ⟨_, rfl⟩
    have HXS := hid hXS
    obtain ⟨q, hq⟩ : ∃ q, t.sort.toNat = q := ⟨_, rfl⟩
    rw [hq] at HO
    clear hty hn hXS hq
    go_enter Tryd.func22, Tryd.ntmps22
    go_wp2_with (go_at_call 39; refine (HLF.out _).mono ?_; rintro e w2 ⟨ho, hb2⟩; obtain ⟨a, m, c, fb, fa, fc, rfl, hlo, hrow⟩ := HO.out _ _ _ ho; have HLO := hid hlo; have HROW := hid hrow; have HB2 := hid hb2; clear ho hb2 hlo hrow)
    go_loopw [6, 10] (fun v6 v10 wr => ∃ (k : Nat) (a' : Option Addr) (c' : Nat), v6 = .slice a' k c' ∧ v10 = .int .i64 k ∧ k ≤ n ∧ wr.cell? ⟨w2.heap.size, 2, none⟩ = some (.slice fa n fc) ∧ Hid (Gat w (w2.alloc (.cells #[.int .u8 q, tx t.name, .slice fa n fc] 53)) wr 3 fb v6 k (XS.take k)) ∧ Hid (Gat w (w2.alloc (.cells #[.int .u8 q, tx t.name, .slice fa n fc] 53)) wr 3 w2.heap.size v6 k (XS.take k))) (fun _ v10 _ => n - (RowKit.intOf v10).toNat)
    case atStart =>
      have hlo : w.heap.size + 1 ≤ fb := by have := HLO.out; simpa using this
      have hw2 : w.heap.size + 1 ≤ w2.heap.size := by have := HB2.out.size; simpa using this
      have B : Below w.heap.size w (w2.alloc (.cells #[.int .u8 q, tx t.name, .slice fa n fc] 53)) := by
        have := ((Below.refl w.heap.size w).alloc (Nat.le_refl _) _).trans (HB2.out.mono (by simp)); exact this.alloc this.size _
      have O : (w2.alloc (.cells #[.int .u8 q, tx t.name, .slice fa n fc] 53)).ownsRow w.heap.size 3 1 (.slice (some ⟨w.heap.size, 0, none⟩) 0 0) 0 [] := (owns_below (World.ownsRow_made w #[] 0 (Nat.le_refl _) (by decide) rfl) HB2.out).alloc _
      exact ⟨0, _, _, rfl, rfl, Nat.zero_le _, by simp, hid ⟨O, Nat.le_refl _, rfl, (by intro e; have := Option.some.inj e; simp at this; omega), B⟩, hid ⟨O, Nat.le_refl _, rfl, (by intro e; have := Option.some.inj e; simp at this; omega), B⟩⟩
    case round =>
      obtain ⟨k, a', c', rfl, rfl, hk, c8, hg, hg8⟩ := hrel
      by_cases hlt : k < n
      · have hkx : k < t.fields.length := by rw [HN.out]; exact hlt
        obtain ⟨o, rfl, hbw, h1, h2, hcell⟩ := RowK.get HROW.out (i := k) (by rw [List.length_map]; exact hkx)
        have hbw2 : fb < (w2.alloc (.cells #[.int .u8 q, tx t.name, .slice (some ⟨fb, o, none⟩) n fc] 53)).heap.size := by simp; omega
        have e0 : (t.fields.map (fdS t.sort))[k]'(by rw [List.length_map]; exact hkx) = fdS t.sort t.fields[k] := by rw [List.getElem_map]
        have g0 : wr.cell? ⟨fb, o + k * 4, none⟩ = some (.int .i64 (t.fields[k]).tag) := hg.out.cell ((World.cell?_alloc_lt w2 _ _ hbw).trans (hcell 0 (.int .i64 (t.fields[k]).tag) (by decide) (by rw [e0]; rfl)))
        obtain ⟨G, hG⟩ : ∃ G, (t.fields[k]).tag = G := ⟨_, rfl⟩
        rw [hG] at g0
        have HX := hid (show XS.take (k + 1) = XS.take k ++ [.int .i64 G] by
          rw [List.take_add_one, ← HXS.out, List.getElem?_map, List.getElem?_eq_getElem hkx, ← hG]; rfl)
        obtain ⟨i0, hi0, hz0, hz1, hz2⟩ := info_parts info_int
        have HI0 := hid hi0
        have HZ0 := hid hz0
        have HZ1 := hid hz1
        have HZ2 := hid hz2
        have hsz := hg.out.below.size
        have HH := hid hbw2
        clear e0 hG hcell hi0 hz0 hz1 hz2 hbw2
        go_wp2_with (at_builtin; refine wpList_append_own_at _ rfl (.tmp 29) (.tmp 36) 31 rfl w.heap.size 3 i0 (.int .i64 0) 1 8 Tryd.underlying31 HI0.out HZ0.out HZ1.out HZ2.out rfl (by decide) (.slice a' k c') k _ rfl (hg.out.own.alloc _) ⟨wr.heap.size, 0, none⟩ 1 1 [.int .i64 G] rfl rfl ?hn ?h1 (by unfold maxLen; omega) (by omega) ?hb ?next)
        case hn => exact new1 wr _ _
        case h1 => intro u hu; rw [List.mem_singleton.1 hu]; rfl
        case hb => simp; omega
        case next =>
          intro v1 w3 ho3 hg3 _ hloc
          obtain ⟨a2, c2, rfl⟩ := owns_slice ho3
          rw [← HX.out] at ho3
          have HG := hid (hg.out.put HH.out hg3 (by simpa using hloc) ho3)
          have HG8 := hid (hg8.out.put (by simp) hg3 (by simpa using hloc) ho3)
          have c9 : w3.cell? ⟨w2.heap.size, 2, none⟩ = some (.slice (some ⟨fb, o, none⟩) n fc) := HG8.out.cell (by simp)
          clear ho3 hg3 hloc
          go_wp2
          go_roundw
          case rel => exact ⟨k + 1, a2, c2, rfl, by go_num, by omega, c9, HG, HG8⟩
          case measure => simp [RowKit.intOf]; omega
      · have hkn : k = n := by omega
        subst hkn
        have HG := hid (show wr.ownsRow w.heap.size 3 1 (.slice a' k c') ((tagsL s.data.toList nm.data.toList).map fun (g : Nat) => Value.int .i64 g).length ((tagsL s.data.toList nm.data.toList).map fun (g : Nat) => Value.int .i64 g) by
          have h := hg.out.own
          rw [List.take_of_length_le (by rw [← HXS.out, List.length_map, HN.out]; exact Nat.le_refl _), ← HXS.out] at h
          rw [HF.out, List.map_map, List.length_map, HN.out]
          exact h)
        have HB := hid hg.out.below
        go_wp2
        go_ret2
        obtain ⟨b2, hb2, hr2⟩ := RowAt.of_owns HG.out
        exact ⟨⟨b2, _, rfl, hb2, hr2⟩, HB.out⟩
set_option maxRecDepth 20000 in
set_option maxHeartbeats 1000000 in
theorem schemaStands_s (s kt : ByteArray) (w : World) (hs : s.size ≤ 1048576) : Calls Tryd.prog 27 #[.string s, .string kt] w fun e w' => e = .returned (standsV s.data.toList kt.data.toList) ∧ Below w.heap.size w w' := by
  have HLK := hid fun wz => l3Kind s kt wz hs
  cases hty : kindOf s.data.toList kt.data.toList with
  | none =>
    have HO := hid fun lo e wz (h : LkOut s.data.toList kt.data.toList lo e wz) => (by unfold LkOut at h; rw [hty] at h; exact h : ∃ a n c, e = .returned (.tuple #[.slice a n c, .bool false]))
    have HF := hid (show standsV s.data.toList kt.data.toList = .tuple #[tx [], .bool false] by unfold standsV; rw [hty])
    clear hty
    go_enter Tryd.func27, Tryd.ntmps27
    go_wp2_with (go_at_call 42; refine (HLK.out _).mono ?_; rintro e w2 ⟨ho, hb2⟩; obtain ⟨a, n, c, rfl⟩ := HO.out _ _ _ ho; have HB2 := hid hb2; clear ho hb2)
    go_ret2
    exact ⟨by rw [HF.out]; rfl, HB2.out⟩
  | some y =>
    obtain ⟨hsc, hpk, hhas, hkt, hkl⟩ := kindOf_text hty
    obtain ⟨x, k⟩ := y
    have hx := Wf.schemaOf_ok hsc
    have HO := hid fun lo e wz (h : LkOut s.data.toList kt.data.toList lo e wz) => (by unfold LkOut at h; rw [hty] at h; exact h : ∃ b a c, e = .returned (.tuple #[.slice a x.length c, .bool true]) ∧ ScSp wz lo b (.slice a x.length c) x)
    have HF := hid (show standsV s.data.toList kt.data.toList = .tuple #[tx (Wf.stands x 9 k), .bool true] by unfold standsV; rw [hty])
    obtain ⟨O, hO⟩ : ∃ O : ByteArray, (⟨(Wf.stands x 9 k).toArray⟩ : ByteArray) = O := ⟨_, rfl⟩
    have HST := hid fun wz lo b v (h : ScSp wz lo b v x) => (by
      have h1 := l3stands x hx lo b v k wz wz (Below.refl _ _) h (by rw [show k.text = kt.data.toList from hkt]; exact hkl) hhas
      rw [show k.text = kt.data.toList from hkt] at h1
      simp only [tx, hO] at h1
      exact h1 : Calls Tryd.prog 43 #[v, .string kt] wz fun e w' => e = .returned (.string O) ∧ Below wz.heap.size wz w')
    have HOO := hid hO
    clear hty hO hsc hpk hhas hkt hkl hx
    go_enter Tryd.func27, Tryd.ntmps27
    go_wp2_with (first | (go_at_call 43; refine (HST.out _ _ _ _ HS.out).mono ?_; rintro e w3 ⟨rfl, hb3⟩; have HB3 := hid hb3; clear hb3) | (go_at_call 42; refine (HLK.out _).mono ?_; rintro e w2 ⟨ho, hb2⟩; obtain ⟨b, a, c, rfl, hs2⟩ := HO.out _ _ _ ho; have HS := hid hs2; have HB2 := hid hb2; clear ho hb2 hs2))
    go_ret2
    exact ⟨by rw [HF.out, tx, HOO.out]; rfl, HB2.out.trans (HB3.out.mono HB2.out.size)⟩
theorem typeIn_ok {l nm : List UInt8} {x : Wf.Sc} {t : Wf.Ty} (h : typeIn l nm = some (x, t)) : Wf.schemaOf l = some x ∧ Wf.ScOk x ∧ x.find nm = some t ∧ t ∈ x := by
  unfold typeIn at h
  cases hsc : Wf.schemaOf l with
  | none => rw [hsc] at h; cases h
  | some x' =>
    rw [hsc] at h
    dsimp only at h
    cases hf : x'.find nm with
    | none => rw [hf] at h; cases h
    | some t' =>
      rw [hf] at h
      simp only [Option.map_some, Option.some.injEq, Prod.mk.injEq] at h
      obtain ⟨rfl, rfl⟩ := h
      exact ⟨rfl, Wf.schemaOf_ok hsc, hf, (Wf.find_mem hf).1⟩
theorem fieldI_mem {t : Wf.Ty} {g : Int} {f : Wf.Fd} (h : fieldI t g = some f) : f ∈ t.fields ∧ (f.tag : Int) = g := by
  refine ⟨List.mem_of_find?_eq_some h, ?_⟩
  have := List.find?_some h
  simpa using this
set_option maxRecDepth 20000 in
set_option maxHeartbeats 2000000 in
theorem schemaField_s (s nm : ByteArray) (g : Int) (w : World) (hs : s.size ≤ 1048576) : Calls Tryd.prog 33 #[.string s, .string nm, .int .i64 g] w fun e w' => e = .returned (fieldV s.data.toList nm.data.toList g) ∧ Below w.heap.size w w' := by
  have HLF := hid fun wz => l3Find s nm wz hs
  cases hty : typeIn s.data.toList nm.data.toList with
  | none =>
    have HO := hid fun lo e wz (h : LfOut s.data.toList nm.data.toList lo e wz) => (by unfold LfOut at h; rw [hty] at h; exact h : ∃ a n c, e = .returned (.tuple #[.slice a n c, .agg #[.int .u8 0, tx [], .slice none 0 0], .bool false]))
    have HF := hid (show fieldV s.data.toList nm.data.toList g = .tuple #[tx [], tx [], tx [], .bool false] by unfold fieldV; rw [hty])
    clear hty
    go_enter Tryd.func33, Tryd.ntmps33
    go_wp2_with (go_at_call 39; refine (HLF.out _).mono ?_; rintro e w2 ⟨ho, hb2⟩; obtain ⟨a, n, c, rfl⟩ := HO.out _ _ _ ho; have HB2 := hid hb2; clear ho hb2)
    exact bodyPost_ret (v := .tuple #[tx [], tx [], tx [], .bool false]) (by simp [results, Tryd.results33, go_sem, *]) rfl ⟨by rw [HF.out], HB2.out.alloc HB2.out.size _⟩
  | some y =>
    obtain ⟨x, t⟩ := y
    obtain ⟨_, hx, _, htm⟩ := typeIn_ok hty
    have htok := hx.tys t htm
    have HO := hid fun lo e wz (h : LfOut s.data.toList nm.data.toList lo e wz) => (by unfold LfOut at h; rw [hty] at h; exact h : ∃ b a c fb fa fc, e = .returned (.tuple #[.slice a x.length c, .agg #[.int .u8 t.sort.toNat, tx t.name, .slice fa t.fields.length fc], .bool true]) ∧ ScSp wz lo b (.slice a x.length c) x ∧ lo ≤ fb ∧ RowK wz fb (.slice fa t.fields.length fc) 4 (t.fields.map (fdS t.sort)))
    obtain ⟨q, hq⟩ : ∃ q, t.sort.toNat = q := ⟨_, rfl⟩
    obtain ⟨n, hn⟩ : ∃ n, t.fields.length = n := ⟨_, rfl⟩
    obtain ⟨N, hN⟩ : ∃ N : ByteArray, (⟨t.name.toArray⟩ : ByteArray) = N := ⟨_, rfl⟩
    have HFD := hid fun wz wy fb fa fc (hW : Below wz.heap.size wz wy) (h : RowK wz fb (.slice fa n fc) 4 (t.fields.map (fdS t.sort))) => (by rw [← hn] at h ⊢; exact l3field t (by have := htok.len; omega) g q N fb fa fc wz wy hW h : Calls Tryd.prog 49 #[.agg #[.int .u8 q, .string N, .slice fa n fc], .int .i64 g] wy fun e w' => e = .returned (fldV t.sort (fieldI t g)) ∧ Below wy.heap.size wy w')
    simp only [hq, hn, tx, hN] at HO
    have HF0 := hid (show fieldV s.data.toList nm.data.toList g = match fieldI t g with
      | some f => if t.sort = 69 then .tuple #[tx f.name, tx [], tx [], .bool true] else .tuple #[tx f.name, tx f.kind.text, tx (Wf.standF x f), .bool true]
      | none => .tuple #[tx [], tx [], tx [], .bool false] by unfold fieldV; rw [hty])
    clear hty hN
    cases hf : fieldI t g with
    | none =>
      rw [hf] at HF0 HFD
      simp only [fldV, tx] at HFD
      clear hq hn hx htok htm hf
      go_enter Tryd.func33, Tryd.ntmps33
      go_wp2_with (first | (go_at_call 49; refine (HFD.out _ _ _ _ _ (by first | exact (Below.refl _ _).alloc (Nat.le_refl _) _) HROW.out).mono ?_; rintro e w3 ⟨rfl, hb3⟩; have HB3 := hid hb3; clear hb3) | (go_at_call 39; refine (HLF.out _).mono ?_; rintro e w2 ⟨ho, hb2⟩; obtain ⟨b, a, c, fb, fa, fc, rfl, hsp, hlo, hrow⟩ := HO.out _ _ _ ho; have HROW := hid hrow; have HB2 := hid hb2; clear ho hb2 hsp hlo hrow))
      exact bodyPost_ret (v := .tuple #[tx [], tx [], tx [], .bool false]) (by simp [results, Tryd.results33, go_sem, *]) rfl ⟨by rw [HF0.out], by have B := below_join (HB2.out.alloc HB2.out.size _) HB3.out; exact B.alloc B.size _⟩
    | some f =>
      rw [hf] at HF0 HFD
      have hfm := (fieldI_mem hf).1
      have hfd := htok.fds f hfm
      obtain ⟨NN, hNN⟩ : ∃ NN : ByteArray, (⟨f.name.toArray⟩ : ByteArray) = NN := ⟨_, rfl⟩
      obtain ⟨SS, hSS⟩ : ∃ SS : ByteArray, (⟨f.given.toArray⟩ : ByteArray) = SS := ⟨_, rfl⟩
      by_cases h69 : t.sort = 69
      · have h69q : q = 69 := by rw [← hq, h69]; rfl
        subst h69q
        have e1 : fldV t.sort (some f) = .tuple #[.agg #[.int .i64 f.tag, .string NN, .string ⟨#[]⟩, .string SS], .bool true] := by simp only [fldV, h69, if_true, tx, hNN, hSS]
        rw [e1] at HFD
        simp only [h69, if_true, tx, hNN] at HF0
        clear hq hn hx htok htm hf hfm hfd hNN hSS h69 e1
        go_enter Tryd.func33, Tryd.ntmps33
        go_wp2_with (first | (go_at_call 49; refine (HFD.out _ _ _ _ _ (by first | exact (Below.refl _ _).alloc (Nat.le_refl _) _) HROW.out).mono ?_; rintro e w3 ⟨rfl, hb3⟩; obtain ⟨hc3, hc4⟩ := bcell hb3; have hz3 : w2.heap.size < w3.heap.size := (by have := hb3.size; simp at this; omega); have HB3 := hid hb3; clear hb3) | (go_at_call 39; refine (HLF.out _).mono ?_; rintro e w2 ⟨ho, hb2⟩; obtain ⟨b, a, c, fb, fa, fc, rfl, hsp, hlo, hrow⟩ := HO.out _ _ _ ho; have HROW := hid hrow; have HB2 := hid hb2; clear ho hb2 hsp hlo hrow))
        exact bodyPost_ret (v := .tuple #[.string NN, tx [], tx [], .bool true]) (by simp [results, Tryd.results33, go_sem, *]) rfl ⟨by rw [HF0.out], by have B := below_join (HB2.out.alloc HB2.out.size _) HB3.out; exact B.alloc B.size _⟩
      · have h69q : ((q : Int) == 69) = false := by rw [beq_eq_false_iff_ne]; intro e; exact h69 (UInt8.toNat_inj.1 (by rw [hq]; show q = 69; omega))
        have hk12 := fd_kind hfd
        have hhas := hx.refs t htm h69 f hfm
        obtain ⟨KK, hKK⟩ : ∃ KK : ByteArray, (⟨f.kind.text.toArray⟩ : ByteArray) = KK := ⟨_, rfl⟩
        obtain ⟨OO, hOO⟩ : ∃ OO : ByteArray, (⟨(Wf.standF x f).toArray⟩ : ByteArray) = OO := ⟨_, rfl⟩
        have HST := hid fun wz wy lo b v (hW : Below wz.heap.size wz wy) (h : ScSp wz lo b v x) => (by
          have h1 := l3stand x hx lo b v f wz wy hW h hk12 hhas
          simp only [tx, hNN, hSS, hKK, hOO] at h1
          exact h1 : Calls Tryd.prog 50 #[v, .agg #[.int .i64 f.tag, .string NN, .string KK, .string SS]] wy fun e w' => e = .returned (.string OO) ∧ Below wy.heap.size wy w')
        have e1 : fldV t.sort (some f) = .tuple #[.agg #[.int .i64 f.tag, .string NN, .string KK, .string SS], .bool true] := by simp only [fldV, h69, if_false, tx, hNN, hSS, hKK]
        rw [e1] at HFD
        simp only [h69, if_false, tx, hNN, hKK, hOO] at HF0
        clear hq hn hx htok htm hf hfm hfd hNN hSS h69 hKK hOO hk12 hhas e1
        go_enter Tryd.func33, Tryd.ntmps33
        go_wp2_with (first | (go_at_call 49; refine (HFD.out _ _ _ _ _ (by first | exact (Below.refl _ _).alloc (Nat.le_refl _) _) HROW.out).mono ?_; rintro e w3 ⟨rfl, hb3⟩; obtain ⟨hc3, hc4⟩ := bcell hb3; have hz3 : w2.heap.size < w3.heap.size := (by have := hb3.size; simp at this; omega); have HB3 := hid hb3; clear hb3) | (go_at_call 39; refine (HLF.out _).mono ?_; rintro e w2 ⟨ho, hb2⟩; obtain ⟨b, a, c, fb, fa, fc, rfl, hsp, hlo, hrow⟩ := HO.out _ _ _ ho; have HROW := hid hrow; have HSP := hid hsp; have HB2 := hid hb2; clear ho hb2 hsp hlo hrow))
        have B3 := hid (below_join (HB2.out.alloc HB2.out.size _) HB3.out)
        have B23 := hid (below_join ((Below.refl w2.heap.size w2).alloc (Nat.le_refl _) _) HB3.out)
        have F := hid fun (wz : World) (hz : Below (w3.heap.size + 1) (w3.alloc (.cells #[.int .i64 f.tag, .string NN, .string KK, .string SS] 68)) wz) => (show wz.cell? ⟨w3.heap.size, 0, none⟩ = some (.int .i64 f.tag) ∧ wz.cell? ⟨w3.heap.size, 1, none⟩ = some (.string NN) ∧ wz.cell? ⟨w3.heap.size, 2, none⟩ = some (.string KK) ∧ wz.cell? ⟨w3.heap.size, 3, none⟩ = some (.string SS) from ⟨(hz.cell (p := ⟨w3.heap.size, 0, none⟩) (by simp)).trans (by simp), (hz.cell (p := ⟨w3.heap.size, 1, none⟩) (by simp)).trans (by simp), (hz.cell (p := ⟨w3.heap.size, 2, none⟩) (by simp)).trans (by simp), (hz.cell (p := ⟨w3.heap.size, 3, none⟩) (by simp)).trans (by simp)⟩)
        clear hc3 hc4
        go_region_held3 (fun w' => w'.cell? ⟨w3.heap.size, 0, none⟩ = some (.int .i64 f.tag) ∧ w'.cell? ⟨w3.heap.size, 1, none⟩ = some (.string NN) ∧ w'.cell? ⟨w3.heap.size, 2, none⟩ = some (.string KK) ∧ w'.cell? ⟨w3.heap.size, 3, none⟩ = some (.string SS)) (first | exact ⟨k0, k1, k2, k3⟩ | go_keep) (first | (go_at_call 50; refine (HST.out _ _ _ _ _ (by exact (B23.out.alloc B23.out.size _).drew) HSP.out).mono ?_; rintro e w4 ⟨rfl, hb4⟩; have TS := Lib.hid (show Below (w3.heap.size + 1) (w3.alloc (.cells #[.int .i64 f.tag, .string NN, .string KK, .string SS] 68)) w4 by exact Below.trans ((Below.refl _ _).drew) (hb4.mono (by show _ ≤ (World.alloc _ _).heap.size; simp))); obtain ⟨k0, k1, k2, k3⟩ := F.out _ TS.out; clear hb4))
        all_goals go_wp2
        all_goals exact bodyPost_ret (v := .tuple #[.string NN, .string KK, .string OO, .bool true]) (by simp [results, Tryd.results33, go_sem, *]) rfl ⟨by rw [HF0.out], (B3.out.alloc B3.out.size _).trans (TS.out.mono (by have := B3.out.size; omega))⟩
end Go.Proofs.YtbkfjopoacbdgaaDoor
