/- The program's standing values: what comes of them. The program reads a list: what stays while its items are read. -/
import Derived.Test.YtmdacedmjbiekaaGreatDoorR34
import Derived.Test.YtmdacedmjbiekaaGreatDoorR25
import Derived.Test.YtmdacedmjbiekaaGreatDoorR28
import Derived.Test.YtmdacedmjbiekaaGreatDoorR23
import Derived.Maps.AppendAt
namespace Go.Proofs.YtmdacedmjbiekaaGreatDoor
open Go.ChangeShapes Go.WideShapes Go.ChangeAt Go.RowKit Go.Lib
set_option linter.unusedVariables false
set_option linter.unusedSimpArgs false
theorem stands_sign (sb : Nat) (k : Wf.K) (x : Wf.Sc) (w : World) (h : (∃ k', k = .list k') ∨ ∃ k', k = .opt k') : Calls Tryz.prog 84 #[ptr sb, kV k] w fun e w' => e = .returned (tx (Wf.stands x 9 k)) ∧ Below w.heap.size w w' := by
  have hs := fun wz => sign k wz
  rcases h with ⟨k', rfl⟩ | ⟨k', rfl⟩
  · exact (st_sign sb _ _ _ w 91 (.inl rfl) hs).mono fun e w' ⟨h1, h2⟩ => ⟨by rw [h1]; rfl, h2⟩
  · exact (st_sign sb _ _ _ w 63 (.inr rfl) hs).mono fun e w' ⟨h1, h2⟩ => ⟨by rw [h1]; rfl, h2⟩
theorem stands_plain (sb : Nat) (k : Wf.K) (x : Wf.Sc) (w : World) (h : k = .num ∨ k = .txt ∨ k = .flag) : Calls Tryz.prog 84 #[ptr sb, kV k] w fun e w' => e = .returned (tx (Wf.stands x 9 k)) ∧ Below w.heap.size w w' := by
  have hs := fun wz => sign k wz
  rcases h with rfl | rfl | rfl
  · exact st_plain sb _ _ _ w hs ⟨#[48]⟩ (.inl ⟨rfl, rfl⟩)
  · exact st_plain sb _ _ _ w hs ⟨#[39, 39]⟩ (.inr (.inl ⟨rfl, rfl⟩))
  · exact st_plain sb _ _ _ w hs ⟨#[110, 111]⟩ (.inr (.inr ⟨rfl, rfl⟩))
theorem standsN (x : Wf.Sc) (hx : Wf.ScOk x) (lo sb : Nat) (W : World) (H : ScL W lo sb x) : ∀ (n : Nat) (k : Wf.K) (w : World), Below W.heap.size W w → k.text.length ≤ 12 → Wf.hasRef x k = true → (∀ t, refT x k = some t → Wf.endsIn x n t = true) →
    Calls Tryz.prog 84 #[ptr sb, kV k] w fun e w' => e = .returned (tx (Wf.stands x 9 k)) ∧ Below w.heap.size w w' := by
  intro n
  induction n with
  | zero =>
    intro k w hW hk hr he
    cases k with
    | ref nm =>
      obtain ⟨t, ht⟩ := Option.isSome_iff_exists.1 (show (x.find nm).isSome = true by simpa [Wf.hasRef, Wf.K.base, Wf.K.name] using hr)
      have := he t ht
      simp [Wf.endsIn] at this
    | num => exact stands_plain sb _ x w (.inl rfl)
    | txt => exact stands_plain sb _ x w (.inr (.inl rfl))
    | flag => exact stands_plain sb _ x w (.inr (.inr rfl))
    | list k => exact stands_sign sb _ x w (.inl ⟨_, rfl⟩)
    | opt k => exact stands_sign sb _ x w (.inr ⟨_, rfl⟩)
  | succ n ih =>
    intro k w hW hk hr he
    cases k with
    | num => exact stands_plain sb _ x w (.inl rfl)
    | txt => exact stands_plain sb _ x w (.inr (.inl rfl))
    | flag => exact stands_plain sb _ x w (.inr (.inr rfl))
    | list k => exact stands_sign sb _ x w (.inl ⟨_, rfl⟩)
    | opt k => exact stands_sign sb _ x w (.inr ⟨_, rfl⟩)
    | ref nm =>
      have hs := fun wz => sign (.ref nm) wz
      obtain ⟨mb, hsz, hc1, hnm⟩ := H.named
      obtain ⟨t, ht⟩ := Option.isSome_iff_exists.1 (show (x.find nm).isSome = true by simpa [Wf.hasRef, Wf.K.base, Wf.K.name] using hr)
      have hnl : nm.length ≤ 12 := by have := kname_len (.ref nm); simp only [Wf.K.name] at this; omega
      have hm := (Wf.find_mem ht).1
      have hok := hx.tys t hm
      have hend := he t ht
      have hst := stands_ref ht
      rcases hnm ⟨nm.toArray⟩ (by rw [tx_size]; omega) with ⟨h0, _⟩ | ⟨t', b, h1, hT, hl⟩
      · rw [show (⟨nm.toArray⟩ : ByteArray).data.toList = nm from rfl, ht] at h0; cases h0
      rw [show (⟨nm.toArray⟩ : ByteArray).data.toList = nm from rfl, ht] at h1
      obtain rfl : t = t' := Option.some.inj h1
      have HA : At W lo sb ⟨nm.toArray⟩ t mb b := ⟨hsz, hc1, hT, hl⟩
      by_cases h82 : t.sort = 82
      · rw [hst, if_pos h82]
        exact st_rec W lo sb _ _ t mb b HA w hW hs h82
      · rw [if_neg h82] at hst
        obtain ⟨f, fs, hfs⟩ : ∃ f fs, t.fields = f :: fs := List.exists_cons_of_ne_nil (hok.some h82)
        have hfd := hok.fds f (by rw [hfs]; exact List.mem_cons_self ..)
        have htag : f.tag ≤ 999999 := by have := hfd.tag2; omega
        rw [hfs] at hst
        dsimp only at hst
        by_cases h69 : t.sort = 69
        · rw [hst, if_pos h69]
          exact st_enum W lo sb _ _ t mb b HA w hW hs h69 f fs hfs htag ⟨(35 :: Wf.dec f.tag).toArray⟩ rfl
        · rw [if_neg h69] at hst
          have h85 : t.sort = 85 := by
            rcases hok.sort with h | h | h
            · exact absurd h h82
            · exact h
            · exact absurd h h69
          obtain ⟨s0, hs0⟩ := hfd.kind h69
          have hfl : f.kind.text.length ≤ 12 := parseK_len hs0
          have hfr : Wf.hasRef x f.kind = true := by
            have := hx.refs t hm h69 f (by rw [hfs]; exact List.mem_cons_self ..)
            exact this
          have hs2 := stands_len hx 9 f.kind
          rw [hst, ← stands89 hx f.kind]
          refine st_union W lo sb _ _ t mb b HA w hW hs h85 f fs hfs htag ⟨(Wf.stands x 9 f.kind).toArray⟩ ⟨(60 :: (Wf.dec f.tag ++ 61 :: (Wf.stands x 9 f.kind ++ [62]))).toArray⟩ (by rw [tx_size]; omega) rfl fun wz hz => ih f.kind wz (hW.trans (hz.mono hW.size)) hfl hfr fun t' ht' => ?_
          have := ends_step (x := x) (m := n) h85 hfs
          rw [ht', hend] at this
          exact this.symm
theorem stands (x : Wf.Sc) (hx : Wf.ScOk x) (lo sb : Nat) (k : Wf.K) (W w : World) (hW : Below W.heap.size W w) (H : ScL W lo sb x) (hk : k.text.length ≤ 12) (hr : Wf.hasRef x k = true) :
    Calls Tryz.prog 84 #[ptr sb, kV k] w fun e w' => e = .returned (tx (Wf.stands x 9 k)) ∧ Below w.heap.size w w' :=
  standsN x hx lo sb W H 9 k w hW hk hr fun t ht => hx.ends t (refT_mem ht)
set_option maxRecDepth 20000 in
set_option maxHeartbeats 1000000 in
theorem of_w (sb fb o : Nat) (SG BS NM GV O : ByteArray) (w : World) (k0 : w.cell? ⟨fb, o + 2, none⟩ = some (.string SG)) (k1 : w.cell? ⟨fb, o + 3, none⟩ = some (.string BS)) (k2 : w.cell? ⟨fb, o + 4, none⟩ = some (.string NM)) (k3 : w.cell? ⟨fb, o + 5, none⟩ = some (.string GV))
    (h : (GV.toList.isEmpty = false ∧ O = GV) ∨ (GV.toList.isEmpty = true ∧ ∀ wz, Below w.heap.size w wz → Calls Tryz.prog 84 #[ptr sb, .agg #[.string SG, .string BS, .string NM]] wz fun e w' => e = .returned (.string O) ∧ Below wz.heap.size wz w')) :
    Calls Tryz.prog 48 #[ptr sb, .pointer (some ⟨fb, o, none⟩)] w fun e w' => e = .returned (.string O) ∧ Below w.heap.size w w' := by
  rcases h with ⟨h1, rfl⟩ | ⟨h1, h2⟩
  · go_enter Tryz.func48, Tryz.ntmps48
    go_wp2_with fail
    go_ret
    exact ⟨rfl, Below.refl _ _⟩
  · have H2 := hid h2
    clear h2
    go_enter Tryz.func48, Tryz.ntmps48
    go_wp2_with (go_at_call 84; refine (H2.out _ (Below.refl _ _)).mono ?_; rintro e w2 ⟨rfl, hb2⟩; have HB2 := hid hb2; clear hb2)
    go_ret
    exact ⟨rfl, HB2.out⟩
/-- the standing value of a field that lies in an older world -/
theorem of (x : Wf.Sc) (hx : Wf.ScOk x) (lo sb fb o : Nat) (sort : UInt8) (f : Wf.Fd) (W w : World) (hW : Below W.heap.size W w) (H : ScL W lo sb x) (h69 : sort ≠ 69) (hf : FdAt W fb o sort f) (hk : f.kind.text.length ≤ 12) (hr : Wf.hasRef x f.kind = true) :
    Calls Tryz.prog 48 #[ptr sb, .pointer (some ⟨fb, o, none⟩)] w fun e w' => e = .returned (tx (Wf.standF x f)) ∧ Below w.heap.size w w' := by
  have hf' := hf.2
  have e0 : fdC sort f = [.int .i64 f.tag, tx f.name, tx f.kind.signs, tx f.kind.base, tx f.kind.name, tx f.given] := by unfold fdC; rw [if_neg h69]
  rw [e0] at hf'
  have cc := fun j u hu => (hW.cell (p := ⟨fb, o + j, none⟩) hf.1).trans (hf' j u hu)
  refine of_w sb fb o ⟨f.kind.signs.toArray⟩ ⟨f.kind.base.toArray⟩ ⟨f.kind.name.toArray⟩ ⟨f.given.toArray⟩ ⟨(Wf.standF x f).toArray⟩ w (cc 2 _ rfl) (cc 3 _ rfl) (cc 4 _ rfl) (cc 5 _ rfl) ?_
  unfold Wf.standF
  by_cases hg : f.given = []
  · right
    refine ⟨by rw [ByteArray.toList_eq, hg]; rfl, fun wz hz => ?_⟩
    rw [if_pos hg]
    exact stands x hx lo sb f.kind W wz (hW.trans (hz.mono hW.size)) H hk hr
  · left
    refine ⟨by rw [ByteArray.toList_eq]; cases hh : f.given with | nil => exact absurd hh hg | cons a r => rfl, by rw [if_neg hg]⟩
end Go.Proofs.YtmdacedmjbiekaaGreatDoor

namespace Go.Proofs.YtmdacedmjbiekaaGreatDoor
open Go.ChangeShapes Go.WideShapes Go.ChangeAt Go.RowKit Go.Lib
set_option linter.unusedVariables false
set_option linter.unusedSimpArgs false
/-- a kind that a schema has -/
structure KOk (x : Wf.Sc) (k : Wf.K) : Prop where
  len : k.text.length ≤ 12
  ref : Wf.hasRef x k = true
/-- what the program's value gives, of a text that has not failed -/
def RdOut (o : Option (Wf.V × List UInt8)) (s : List UInt8) (rb sb : Nat) (w : World) (e : Ending) (w' : World) : Prop :=
  ∃ cs v r, e = .returned (.agg cs.toArray) ∧ VC w' (fun b => w.heap.size ≤ b) v cs ∧ Beside rb w w' ∧ ((o = some (v, r) ∧ Sn w' rb sb r false) ∨ (o = none ∧ Wf.Badv s r v ∧ Sn w' rb sb r true))
/-- a value with parts that is being built in block vb, its parts in a row of the call's own from base on; rb: the scanner's block, the only elder one that is written -/
structure Bld (w wr : World) (rb vb base : Nat) (q : Nat) (a : Option Addr) (c : Nat) (l : List Wf.V) (es : List (List Value)) : Prop where
  fr : Beside rb w wr
  vw : w.heap.size ≤ vb
  vlt : vb < base
  sz : base ≤ wr.heap.size
  v0 : wr.cell? ⟨vb, 0, none⟩ = some (.int .u8 q)
  v1 : wr.cell? ⟨vb, 1, none⟩ = some (tx [])
  v2 : wr.cell? ⟨vb, 2, none⟩ = some (.int .i64 0)
  v3 : wr.cell? ⟨vb, 3, none⟩ = some (.slice a es.length c)
  f3 : wr.frozen? ⟨vb, 3, none⟩ = false
  own : wr.ownsRow base 92 4 (.slice a es.length c) es.length es.flatten
  he : ∀ e ∈ es, e.length = 4
  hl : es.length = l.length
  vals : ∀ i (h1 : i < es.length) (h2 : i < l.length), VC wr (fun b => base ≤ b ∧ some b ≠ (Value.slice a es.length c).ownBlock) l[i] es[i]
section
variable {w wr : World} {rb vb base q : Nat} {a : Option Addr} {c : Nat} {l : List Wf.V} {es : List (List Value)}
theorem owns_beside {w w' : World} {b rb : Nat} {e : TypeId} {size : Nat} {v : Value} {n : Nat} {xs : List Value} (h : w.ownsRow b e size v n xs) (hb : Beside rb w w') (hr : rb < b) : w'.ownsRow b e size v n xs := by
  obtain ⟨h1, h2 | ⟨g, cap, cur, h3, h4, h5, h6⟩⟩ := h
  · exact ⟨h1, .inl h2⟩
  · refine ⟨h1, .inr ⟨g, cap, cur, h3, h4, ?_, h6⟩⟩
    rw [hb.block g (Array.getElem?_eq_some_iff.1 h5).1 (by omega)]; exact h5
theorem Beside.frozen {rb : Nat} {w w' : World} (h : Beside rb w w') {p : Addr} (hp : p.block < w.heap.size) (hr : p.block ≠ rb) : w'.frozen? p = w.frozen? p := World.frozen?_of_block (w := w) (h.block p.block hp hr)
/-- the reading goes on -/
theorem Bld.step (h : Bld w wr rb vb base q a c l es) (hr : rb < w.heap.size) {w2 : World} (hb : Beside rb wr w2) : Bld w w2 rb vb base q a c l es := by
  have h1 := h.vw
  have h2 := h.vlt
  have h3 := h.sz
  have hv : vb < wr.heap.size := by omega
  have hn : vb ≠ rb := by omega
  exact ⟨h.fr.trans hb, h1, h2, Nat.le_trans h3 hb.size, (hb.cell (p := ⟨vb, 0, none⟩) hv hn).trans h.v0, (hb.cell (p := ⟨vb, 1, none⟩) hv hn).trans h.v1, (hb.cell (p := ⟨vb, 2, none⟩) hv hn).trans h.v2, (hb.cell (p := ⟨vb, 3, none⟩) hv hn).trans h.v3, (hb.frozen (p := ⟨vb, 3, none⟩) hv hn).trans h.f3, owns_beside h.own hb (by omega), h.he, h.hl,
    fun i g1 g2 => VC.keep (fun b hp hlt => ⟨hp, hb.block b hlt (by omega)⟩) hb.size _ _ (h.vals i g1 g2)⟩
/-- a part more: it was made behind world w1, and lies in w2, whence the row was appended to -/
theorem Bld.put (h : Bld w wr rb vb base q a c l es) (hr : rb < w.heap.size) {wx w4 : World} (hx : Beside rb wr wx) (hg : wx.grownBy w4 (Value.slice a es.length c).ownBlock) {a' : Option Addr} {c' : Nat} {cs : List Value} {v : Wf.V}
    (hvc : VC wx (fun b => wr.heap.size ≤ b) v cs) (ho : w4.ownsRow base 92 4 (.slice a' (es.length + 1) c') (es.length + 1) (es.flatten ++ cs))
    (hloc : (Value.slice a' (es.length + 1) c').ownBlock = (Value.slice a es.length c).ownBlock ∨ (Value.slice a' (es.length + 1) c').ownBlock = some wx.heap.size) :
    Bld w (w4.setCell ⟨vb, 3, none⟩ (.slice a' (es.length + 1) c')) rb vb base q a' c' (l ++ [v]) (es ++ [cs]) := by
  have hs := h.step hr hx
  have h1 := h.vw
  have h2 := h.vlt
  have h3 := hs.sz
  have hlen : (es ++ [cs]).length = es.length + 1 := by simp
  have hlo := owns_lt hs.own
  have hown : ∀ g, (Value.slice a es.length c).ownBlock = some g → base ≤ g ∧ g < wr.heap.size := fun g hg => owns_lt h.own g hg
  have hB : Below base wx w4 := below_grown2 hg (fun g hgk => (hlo g hgk).1) h3
  have hvB : vb < base := h2
  have hss : (w4.setCell ⟨vb, 3, none⟩ (.slice a' (es.length + 1) c')).heap.size = w4.heap.size := by simp
  have c3 : w4.cell? ⟨vb, 3, none⟩ = some (.slice a es.length c) := (hB.cell (p := ⟨vb, 3, none⟩) hvB).trans hs.v3
  -- a block that is not the row's is as it was
  have hkeep : ∀ b, base ≤ b → b < wx.heap.size → some b ≠ (Value.slice a es.length c).ownBlock → some b ≠ (Value.slice a' (es.length + 1) c').ownBlock ∧ (w4.setCell ⟨vb, 3, none⟩ (.slice a' (es.length + 1) c')).heap[b]? = wx.heap[b]? := fun b hb1 hb2 hb3 => by
    obtain ⟨e1, e2⟩ := apart_step hg hloc hb2 hb3
    refine ⟨e2, ?_⟩
    rw [Below.heap_setCell w4 ⟨vb, 3, none⟩ _ _ (by show b ≠ vb; omega)]
    exact e1
  refine ⟨?_, h1, h2, by rw [hss]; exact Nat.le_trans h3 hB.size, ?_, ?_, ?_, ?_, ?_, ?_, ?_, ?_, ?_⟩
  · have hS := Below.setCell (B := vb) (Below.refl vb w4) (p := ⟨vb, 3, none⟩) (Nat.le_refl _) (.slice a' (es.length + 1) c')
    exact ⟨hS.os.trans (hB.os.trans hs.fr.os), hS.tape.trans (hB.tape.trans hs.fr.tape), hS.output.trans (hB.output.trans hs.fr.output), by rw [hss]; exact Nat.le_trans hs.fr.size hB.size, fun k hk hkr => (Below.heap_setCell w4 ⟨vb, 3, none⟩ _ k (by show k ≠ vb; omega)).trans ((hB.block k (by omega)).trans (hs.fr.block k hk hkr))⟩
  · exact (World.cell?_setCell_other w4 _ _ _ (by simp)).trans ((hB.cell (p := ⟨vb, 0, none⟩) hvB).trans hs.v0)
  · exact (World.cell?_setCell_other w4 _ _ _ (by simp)).trans ((hB.cell (p := ⟨vb, 1, none⟩) hvB).trans hs.v1)
  · exact (World.cell?_setCell_other w4 _ _ _ (by simp)).trans ((hB.cell (p := ⟨vb, 2, none⟩) hvB).trans hs.v2)
  · rw [hlen]; exact World.cell?_setCell_same w4 _ _ c3
  · have := (hB.frozen (p := ⟨vb, 3, none⟩) hvB).trans hs.f3
    simpa using this
  · rw [hlen, List.flatten_append, List.flatten_cons, List.flatten_nil, List.append_nil]
    exact ownsRow_setCell_below ho hvB _
  · intro e he
    rcases List.mem_append.1 he with he | he
    · exact h.he e he
    · rw [List.mem_singleton.1 he]; exact hvc.len
  · rw [hlen, List.length_append, h.hl]; rfl
  · intro i g1 g2
    rw [hlen]
    by_cases hi : i < es.length
    · have hil : i < l.length := by have := h.hl; omega
      rw [List.getElem_append_left hi, List.getElem_append_left hil]
      exact VC.keep (fun b hp hlt => by
        obtain ⟨e1, e2⟩ := hkeep b hp.1 hlt hp.2
        exact ⟨⟨hp.1, e1⟩, e2⟩) (by rw [hss]; exact hB.size) _ _ (hs.vals i hi hil)
    · have hie : i = es.length := by simp at g1; omega
      subst hie
      rw [List.getElem_append_right (Nat.le_refl _)]
      have e2 : (l ++ [v])[es.length]'g2 = v := by
        rw [List.getElem_append_right (by rw [h.hl]; exact Nat.le_refl _)]
        simp [h.hl]
      rw [e2]
      simp only [Nat.sub_self, List.getElem_cons_zero]
      exact VC.keep (fun b hp hlt => by
        have hb3 : some b ≠ (Value.slice a es.length c).ownBlock := fun he => by
          have := (hown b he.symm).2
          omega
        have hb1 : base ≤ b := Nat.le_trans h.sz hp
        obtain ⟨e1, e2⟩ := hkeep b hb1 hlt hb3
        exact ⟨⟨hb1, e1⟩, e2⟩) (by rw [hss]; exact hB.size) _ _ hvc
end
end Go.Proofs.YtmdacedmjbiekaaGreatDoor
