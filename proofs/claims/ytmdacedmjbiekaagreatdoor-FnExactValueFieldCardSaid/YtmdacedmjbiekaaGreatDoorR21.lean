/- The reference counts digits, and reads a tag. -/
import Derived.Test.YtmdacedmjbiekaaGreatDoorR7
import Derived.Test.YtmdacedmjbiekaaGreatDoorR8
import Derived.Test.YtmdacedmjbiekaaGreatDoorR9
import Derived.Test.YtmdacedmjbiekaaGreatDoorR20
import Derived.Deep.RegionHeld3
import Derived.Deep.QuietTactic
import Derived.BigQuiet
namespace Go.Proofs.YtmdacedmjbiekaaGreatDoor
open Go.ChangeShapes Go.WideShapes Go.ChangeAt Go.RowKit Go.Lib
set_option linter.unusedVariables false
set_option linter.unusedSimpArgs false
theorem tw_in {p : UInt8 → Bool} : ∀ {l : List UInt8} {i : Nat}, i < (l.takeWhile p).length → ∃ c, l[i]? = some c ∧ p c = true := by
  intro l
  induction l with
  | nil => intro i h; simp at h
  | cons a l ih =>
    intro i h
    by_cases ha : p a = true
    · rw [List.takeWhile_cons_of_pos ha] at h
      cases i with
      | zero => exact ⟨a, rfl, ha⟩
      | succ i => exact ih (by simpa using h)
    · rw [List.takeWhile_cons_of_neg ha] at h; simp at h
theorem tw_at {p : UInt8 → Bool} : ∀ {l : List UInt8} {c : UInt8}, l[(l.takeWhile p).length]? = some c → p c = false := by
  intro l
  induction l with
  | nil => intro c h; simp at h
  | cons a l ih =>
    intro c h
    by_cases ha : p a = true
    · rw [List.takeWhile_cons_of_pos ha] at h
      exact ih (by simpa using h)
    · rw [List.takeWhile_cons_of_neg ha] at h
      simp at h
      subst h
      simpa using ha
theorem tw_le (p : UInt8 → Bool) (l : List UInt8) : (l.takeWhile p).length ≤ l.length := (List.takeWhile_prefix p).length_le
theorem tw_take (p : UInt8 → Bool) (l : List UInt8) : l.take (l.takeWhile p).length = l.takeWhile p := (List.prefix_iff_eq_take.1 (List.takeWhile_prefix p)).symm
theorem tw_drop (p : UInt8 → Bool) (l : List UInt8) : l.drop (l.takeWhile p).length = l.dropWhile p := by
  have h := List.takeWhile_append_dropWhile (p := p) (l := l)
  have h2 : (l.takeWhile p ++ l.dropWhile p).drop (l.takeWhile p).length = l.dropWhile p := List.drop_left
  rw [h] at h2
  exact h2
set_option maxRecDepth 20000 in
set_option maxHeartbeats 1000000 in
theorem l4Digits (s : ByteArray) (w : World) (hs : s.size ≤ 1048576) : Calls Tryz.prog 134 #[.string s] w fun e w' => e = .returned (.int .i64 ((s.data.toList.takeWhile Wf.isDig).length : Nat)) ∧ w = w' := by
  obtain ⟨T, hT⟩ : ∃ T, (s.data.toList.takeWhile Wf.isDig).length = T := ⟨_, rfl⟩
  have hle : T ≤ s.size := by rw [← hT, ← size_list]; exact tw_le _ _
  have HIN := hid fun (i : Nat) (h : i < T) => (by rw [← hT] at h; exact tw_in h : ∃ c, s.data.toList[i]? = some c ∧ Wf.isDig c = true)
  have HAT := hid fun (c : UInt8) (h : s.data.toList[T]? = some c) => (by rw [← hT] at h; exact tw_at h : Wf.isDig c = false)
  rw [hT]
  clear hT
  go_enter Tryz.func134, Tryz.ntmps134
  go_wp2_with fail
  go_loop [3] (fun v => ∃ i : Nat, i ≤ T ∧ v = .int .i64 i) (fun v => T - (RowKit.intOf v).toNat)
  case atStart => exact ⟨0, Nat.zero_le _, rfl⟩
  case round =>
    obtain ⟨i, hi, rfl⟩ := hrel
    by_cases hlt : i < T
    · have his : i < s.size := by omega
      obtain ⟨c, hc, e1⟩ := byte_at s i his
      obtain ⟨c', hc', hd⟩ := HIN.out i hlt
      rw [hc] at hc'
      obtain rfl := Option.some.inj hc'
      obtain ⟨b, hb⟩ : ∃ b, c.toNat = b := ⟨_, rfl⟩
      rw [hb] at e1
      have h1 : 48 ≤ b := by simp [Wf.isDig] at hd; omega
      have h2 : b ≤ 57 := by simp [Wf.isDig] at hd; omega
      clear hc hc' hd hb
      go_wp2_with fail
      go_round
      case rel => exact ⟨i + 1, by omega, by go_num⟩
      case measure => simp [RowKit.intOf]; omega
    · have hiT : i = T := by omega
      subst hiT
      by_cases his : i < s.size
      · obtain ⟨c, hc, e1⟩ := byte_at s i his
        have hd := HAT.out c hc
        obtain ⟨b, hb⟩ : ∃ b, c.toNat = b := ⟨_, rfl⟩
        rw [hb] at e1
        by_cases h1 : 48 ≤ b
        · have h2 : 57 < b := by
            simp [Wf.isDig] at hd
            omega
          clear hc hd hb
          go_wp2_with fail
          go_ret
          exact ⟨rfl, rfl⟩
        · have h2 : b < 48 := by omega
          clear hc hd hb h1
          go_wp2_with fail
          go_ret
          exact ⟨rfl, rfl⟩
      · go_wp2_with fail
        go_ret
        exact ⟨rfl, rfl⟩
/-- the first bytes of a text, and the rest -/
theorem sl_pre (S : ByteArray) (T : Nat) (h : T ≤ S.size) : ∀ wz, (Instr.slice 9 (.string S) none (some (.int .i64 T)) none).run Tryz.prog wz = .ok (.string (S.extract 0 T)) wz := fun wz => by
  have := run_slice_string_h (P := Tryz.prog) wz 9 S Tryz.underlying9 .i64 (T : Int) (by omega) (by omega)
  rw [this, Int.toNat_natCast]
theorem sl_suf (S : ByteArray) (T : Nat) (h : T ≤ S.size) : ∀ wz, (Instr.slice 9 (.string S) (some (.int .i64 T)) none none).run Tryz.prog wz = .ok (.string (S.extract T S.size)) wz := fun wz => by
  have := run_slice_string_l (P := Tryz.prog) wz 9 S Tryz.underlying9 .i64 (T : Int) (by omega) (by omega)
  rw [this, Int.toNat_natCast]
theorem pre_list (S : ByteArray) (p : UInt8 → Bool) : (S.extract 0 (S.data.toList.takeWhile p).length).data.toList = S.data.toList.takeWhile p := by
  rw [ext_list, List.drop_zero, Nat.sub_zero, tw_take]
theorem suf_list (S : ByteArray) (T : Nat) : (S.extract T S.size).data.toList = S.data.toList.drop T := by
  rw [ext_list, List.take_of_length_le (by rw [List.length_drop, size_list]; exact Nat.le_refl _)]
/-- a block that holds a field of nothing -/
structure ZeroF (wr : World) (b : Nat) : Prop where
  lt : b < wr.heap.size
  r0 : wr.cell? ⟨b, 0, none⟩ = some (.int .i64 0)
  r1 : wr.cell? ⟨b, 1, none⟩ = some (.string ⟨#[]⟩)
  r2 : wr.cell? ⟨b, 2, none⟩ = some (.string ⟨#[]⟩)
  r3 : wr.cell? ⟨b, 3, none⟩ = some (.string ⟨#[]⟩)
  f0 : wr.frozen? ⟨b, 0, none⟩ = false
  f1 : wr.frozen? ⟨b, 1, none⟩ = false
  f2 : wr.frozen? ⟨b, 2, none⟩ = false
  f3 : wr.frozen? ⟨b, 3, none⟩ = false
theorem ZeroF.below {wr w2 : World} {b B : Nat} (h : ZeroF wr b) (hb : Below B wr w2) (hr : b < B) : ZeroF w2 b := by
  have h1 := hb.block b hr
  have cd := fun o => World.cell?_of_block (w := wr) (w' := w2) (a := ⟨b, o, none⟩) h1
  have cf := fun o => World.frozen?_of_block (w := wr) (w' := w2) (a := ⟨b, o, none⟩) h1
  exact ⟨Nat.lt_of_lt_of_le h.lt hb.size, (cd 0).trans h.r0, (cd 1).trans h.r1, (cd 2).trans h.r2, (cd 3).trans h.r3, (cf 0).trans h.f0, (cf 1).trans h.f1, (cf 2).trans h.f2, (cf 3).trans h.f3⟩
/-- the three blocks that tag lays first -/
theorem start_tag (w : World) (v : Value) (q n c : Nat) (N : ByteArray) (fa : Option Addr) (W1 : World) (hW1 : ((w.alloc (.cells #[v] 109)).alloc (.cells #[.int .u8 q, .string N, .slice fa n c] 82)).alloc (.cells #[.int .i64 0, .string ⟨#[]⟩, .string ⟨#[]⟩, .string ⟨#[]⟩] 86) = W1) :
    W1.cell? ⟨w.heap.size + 1, 0, none⟩ = some (.int .u8 q) ∧ W1.cell? ⟨w.heap.size + 1, 1, none⟩ = some (.string N) ∧ W1.cell? ⟨w.heap.size + 1, 2, none⟩ = some (.slice fa n c) ∧ ZeroF W1 (w.heap.size + 1 + 1) ∧ Below w.heap.size w W1 := by
  have hB : Below w.heap.size w W1 := by
    rw [← hW1]
    exact ((((Below.refl _ _).alloc (Nat.le_refl _) _).alloc (by simp) _).alloc (by simp; omega) _)
  subst hW1
  refine ⟨?_, ?_, ?_, ⟨?_, ?_, ?_, ?_, ?_, ?_, ?_, ?_, ?_⟩, hB⟩
  all_goals first | (simp [go_sem]; done) | (simp [go_sem]; omega)
/-- the field of the tag at the beginning of a text -/
def tagF (t : Wf.Ty) (s : List UInt8) : Option Wf.Fd := (Wf.plainN (s.takeWhile Wf.isDig) 200).bind t.field
/-- what tag gives -/
def TagOut (t : Wf.Ty) (s : List UInt8) (e : Ending) : Prop := match tagF t s with
  | some f => e = .returned (.tuple #[.agg #[.int .i64 f.tag, tx f.name, tx (if t.sort = 69 then [] else f.kind.text), tx f.given], tx (s.dropWhile Wf.isDig), .bool true])
  | none => ∃ (m : Int) (a b c : ByteArray), e = .returned (.tuple #[.agg #[.int .i64 m, .string a, .string b, .string c], tx (s.dropWhile Wf.isDig), .bool false])
set_option maxRecDepth 20000 in
set_option maxHeartbeats 1000000 in
theorem tag_w (v : Value) (S : ByteArray) (hS : S.size ≤ 1048576) (q n c : Nat) (N : ByteArray) (fa : Option Addr) (m g' : Int) (A B C : ByteArray) (b1 b2 : Bool) (w : World)
    (hnum : ∀ wz, Calls Tryz.prog 135 #[.string (S.extract 0 (S.data.toList.takeWhile Wf.isDig).length), .int .i64 200] wz fun e w' => e = .returned (.tuple #[.int .i64 m, .bool b1]) ∧ Below wz.heap.size wz w')
    (hfld : ∀ wz, Below w.heap.size w wz → Calls Tryz.prog 50 #[.agg #[.int .u8 q, .string N, .slice fa n c], .int .i64 m] wz fun e w' => e = .returned (.tuple #[.agg #[.int .i64 g', .string A, .string B, .string C], .bool b2]) ∧ Below wz.heap.size wz w') :
    Calls Tryz.prog 133 #[.agg #[v], .string S, .agg #[.int .u8 q, .string N, .slice fa n c]] w fun e w' => e = .returned (.tuple #[.agg #[.int .i64 g', .string A, .string B, .string C], tx (S.data.toList.dropWhile Wf.isDig), .bool (b1 && b2)]) ∧ Below w.heap.size w w' := by
  have HDG := hid fun wz => l4Digits S wz hS
  obtain ⟨T, hT⟩ : ∃ T, (S.data.toList.takeWhile Wf.isDig).length = T := ⟨_, rfl⟩
  have hle : T ≤ S.size := by rw [← hT, ← size_list]; exact tw_le _ _
  have k1 := sl_pre S T hle
  have k2 := sl_suf S T hle
  have HR := hid (show (⟨(S.data.toList.dropWhile Wf.isDig).toArray⟩ : ByteArray) = S.extract T S.size by rw [eq_list, suf_list, ← hT, tw_drop])
  rw [hT] at hnum HDG
  have HNUM := hid hnum
  have HFLD := hid hfld
  have ST := hid fun W1 h => start_tag w v q n c N fa W1 h
  clear hnum hfld hT
  cases b1 <;> cases b2
  all_goals
    go_enter Tryz.func133, Tryz.ntmps133
    go_wp2_with (first | (go_at_call 50; refine (HFLD.out _ B2.out).mono ?_; rintro e w3 ⟨rfl, hb3⟩; have B3 := hid (B2.out.trans (hb3.mono B2.out.size)); obtain ⟨zl, zr0, zr1, zr2, zr3, zf0, zf1, zf2, zf3⟩ := Z2.out.below hb3 Z2.out.lt; clear hb3) | (go_at_call 135; obtain ⟨t0, t1, t2, z0, b0⟩ := ST.out _ rfl; refine (HNUM.out _).mono ?_; rintro e w2 ⟨rfl, hb2⟩; have hlt1 := Nat.lt_of_lt_of_le (Nat.lt_succ_self _) (Nat.le_of_lt z0.lt); have u0 := (hb2.cell (p := ⟨w.heap.size + 1, 0, none⟩) hlt1).trans t0; have u1 := (hb2.cell (p := ⟨w.heap.size + 1, 1, none⟩) hlt1).trans t1; have u2 := (hb2.cell (p := ⟨w.heap.size + 1, 2, none⟩) hlt1).trans t2; have hl2 := Nat.lt_of_lt_of_le hlt1 hb2.size; have B2 := hid (below_join b0 hb2); have Z2 := hid (z0.below hb2 z0.lt); clear hb2 t0 t1 t2 z0 b0 hlt1) | (go_at_call 134; refine (HDG.out _).mono ?_; rintro e w1 ⟨rfl, rfl⟩))
    go_region
    all_goals (go_wp2_with fail)
    all_goals first | exact bodyPost_ret (v := .tuple #[.agg #[.int .i64 g', .string A, .string B, .string C], .string (S.extract T S.size), .bool false]) (by simp [results, Tryz.results133, go_sem, *]) rfl ⟨by rw [← HR.out]; rfl, by have BB := B3.out; have hB := BB.size; repeat (first | with_reducible exact BB | with_reducible refine Below.drew ?_ | with_reducible refine Below.setCell ?_ (by first | (simp; done) | (simp; omega)) _ | with_reducible refine Below.alloc ?_ (by first | exact BB.size | (simp; omega)) _)⟩ | exact bodyPost_ret (v := .tuple #[.agg #[.int .i64 g', .string A, .string B, .string C], .string (S.extract T S.size), .bool true]) (by simp [results, Tryz.results133, go_sem, *]) rfl ⟨by rw [← HR.out]; rfl, by have BB := B3.out; have hB := BB.size; repeat (first | with_reducible exact BB | with_reducible refine Below.drew ?_ | with_reducible refine Below.setCell ?_ (by first | (simp; done) | (simp; omega)) _ | with_reducible refine Below.alloc ?_ (by first | exact BB.size | (simp; omega)) _)⟩
set_option maxRecDepth 20000 in
set_option maxHeartbeats 1000000 in
theorem tag_no (v : Value) (S : ByteArray) (hS : S.size ≤ 1048576) (q n c : Nat) (N : ByteArray) (fa : Option Addr) (w : World)
    (hnum : ∀ wz, Calls Tryz.prog 135 #[.string (S.extract 0 (S.data.toList.takeWhile Wf.isDig).length), .int .i64 200] wz fun e w' => (∃ m : Int, e = .returned (.tuple #[.int .i64 m, .bool false])) ∧ Below wz.heap.size wz w')
    (hfld : ∀ (m : Int) wz, Below w.heap.size w wz → Calls Tryz.prog 50 #[.agg #[.int .u8 q, .string N, .slice fa n c], .int .i64 m] wz fun e w' => (∃ (g' : Int) (A B C : ByteArray) (b2 : Bool), e = .returned (.tuple #[.agg #[.int .i64 g', .string A, .string B, .string C], .bool b2])) ∧ Below wz.heap.size wz w') :
    Calls Tryz.prog 133 #[.agg #[v], .string S, .agg #[.int .u8 q, .string N, .slice fa n c]] w fun e w' => (∃ (g' : Int) (A B C : ByteArray), e = .returned (.tuple #[.agg #[.int .i64 g', .string A, .string B, .string C], tx (S.data.toList.dropWhile Wf.isDig), .bool false])) ∧ Below w.heap.size w w' := by
  have HDG := hid fun wz => l4Digits S wz hS
  obtain ⟨T, hT⟩ : ∃ T, (S.data.toList.takeWhile Wf.isDig).length = T := ⟨_, rfl⟩
  have hle : T ≤ S.size := by rw [← hT, ← size_list]; exact tw_le _ _
  have k1 := sl_pre S T hle
  have k2 := sl_suf S T hle
  have HR := hid (show (⟨(S.data.toList.dropWhile Wf.isDig).toArray⟩ : ByteArray) = S.extract T S.size by rw [eq_list, suf_list, ← hT, tw_drop])
  rw [hT] at hnum HDG
  have HNUM := hid hnum
  have HFLD := hid hfld
  have ST := hid fun W1 h => start_tag w v q n c N fa W1 h
  clear hnum hfld hT
  go_enter Tryz.func133, Tryz.ntmps133
  go_wp2_with (first | (go_at_call 50; refine (HFLD.out _ _ B2.out).mono ?_; rintro e w3 ⟨⟨g', A, B, C, b2, rfl⟩, hb3⟩; have B3 := hid (B2.out.trans (hb3.mono B2.out.size)); obtain ⟨zl, zr0, zr1, zr2, zr3, zf0, zf1, zf2, zf3⟩ := Z2.out.below hb3 Z2.out.lt; clear hb3) | (go_at_call 135; obtain ⟨t0, t1, t2, z0, b0⟩ := ST.out _ rfl; refine (HNUM.out _).mono ?_; rintro e w2 ⟨⟨m, rfl⟩, hb2⟩; have hlt1 := Nat.lt_of_lt_of_le (Nat.lt_succ_self _) (Nat.le_of_lt z0.lt); have u0 := (hb2.cell (p := ⟨w.heap.size + 1, 0, none⟩) hlt1).trans t0; have u1 := (hb2.cell (p := ⟨w.heap.size + 1, 1, none⟩) hlt1).trans t1; have u2 := (hb2.cell (p := ⟨w.heap.size + 1, 2, none⟩) hlt1).trans t2; have hl2 := Nat.lt_of_lt_of_le hlt1 hb2.size; have B2 := hid (below_join b0 hb2); have Z2 := hid (z0.below hb2 z0.lt); clear hb2 t0 t1 t2 z0 b0 hlt1) | (go_at_call 134; refine (HDG.out _).mono ?_; rintro e w1 ⟨rfl, rfl⟩))
  go_region
  all_goals (go_wp2_with fail)
  all_goals exact bodyPost_ret (v := .tuple #[.agg #[.int .i64 g', .string A, .string B, .string C], .string (S.extract T S.size), .bool false]) (by simp [results, Tryz.results133, go_sem, *]) rfl ⟨⟨g', A, B, C, by rw [← HR.out]⟩, by have BB := B3.out; have hB := BB.size; repeat (first | with_reducible exact BB | with_reducible refine Below.drew ?_ | with_reducible refine Below.setCell ?_ (by first | (simp; done) | (simp; omega)) _ | with_reducible refine Below.alloc ?_ (by first | exact BB.size | (simp; omega)) _)⟩
/-- the tag at the beginning of a text -/
theorem l4tag (t : Wf.Ty) (ht : t.fields.length ≤ 1000) (v : Value) (S : ByteArray) (hS : S.size ≤ 1048576) (fb c : Nat) (fa : Option Addr) (W w : World) (hW : Below W.heap.size W w) (H : RowK W fb (.slice fa t.fields.length c) 4 (t.fields.map (fdS t.sort))) :
    Calls Tryz.prog 133 #[.agg #[v], .string S, .agg #[.int .u8 t.sort.toNat, tx t.name, .slice fa t.fields.length c]] w fun e w' => TagOut t S.data.toList e ∧ Below w.heap.size w w' := by
  have hle : (S.extract 0 (S.data.toList.takeWhile Wf.isDig).length).size ≤ 9223372036854775807 := by rw [ByteArray.size_extract]; omega
  have hnum := fun wz => l3Num (S.extract 0 (S.data.toList.takeWhile Wf.isDig).length) 200 (by omega) wz hle
  rw [pre_list] at hnum
  have hf := fun (g : Int) (wz : World) (hz : Below w.heap.size w wz) => l3field t ht g t.sort.toNat ⟨t.name.toArray⟩ fb fa c W wz (hW.trans (hz.mono hW.size)) H
  cases hp : Wf.plainN (S.data.toList.takeWhile Wf.isDig) 200 with
  | none =>
    refine (tag_no v S hS t.sort.toNat t.fields.length c ⟨t.name.toArray⟩ fa w (fun wz => (hnum wz).mono fun e w' ⟨h1, h2⟩ => ⟨by unfold NumOut at h1; rw [hp] at h1; exact h1, h2⟩) (fun m wz hz => (hf m wz hz).mono fun e w' ⟨h1, h2⟩ => ⟨?_, h2⟩)).mono fun e w' ⟨h1, h2⟩ => ⟨?_, h2⟩
    · rw [h1]
      cases fieldI t m with
      | none => exact ⟨_, _, _, _, _, rfl⟩
      | some f => exact ⟨_, _, _, _, _, rfl⟩
    · unfold TagOut tagF
      rw [hp]
      exact h1
  | some g =>
    have h1 : ∀ wz, Calls Tryz.prog 135 #[.string (S.extract 0 (S.data.toList.takeWhile Wf.isDig).length), .int .i64 200] wz fun e w' => e = .returned (.tuple #[.int .i64 g, .bool true]) ∧ Below wz.heap.size wz w' := fun wz => (hnum wz).mono fun e w' ⟨h1, h2⟩ => ⟨by unfold NumOut at h1; rw [hp] at h1; exact h1, h2⟩
    cases hg : t.field g with
    | none =>
      refine (tag_w v S hS t.sort.toNat t.fields.length c ⟨t.name.toArray⟩ fa g 0 ⟨#[]⟩ ⟨#[]⟩ ⟨#[]⟩ true false w h1 (fun wz hz => (hf g wz hz).mono fun e w' ⟨h3, h4⟩ => ⟨by rw [h3, fieldI_nat, hg]; rfl, h4⟩)).mono fun e w' ⟨h5, h6⟩ => ⟨?_, h6⟩
      unfold TagOut tagF
      rw [hp, h5]
      simp only [Option.bind_some, hg]
      exact ⟨_, _, _, _, rfl⟩
    | some f =>
      refine (tag_w v S hS t.sort.toNat t.fields.length c ⟨t.name.toArray⟩ fa g f.tag ⟨f.name.toArray⟩ ⟨(if t.sort = 69 then [] else f.kind.text).toArray⟩ ⟨f.given.toArray⟩ true true w h1 (fun wz hz => (hf g wz hz).mono fun e w' ⟨h3, h4⟩ => ⟨by rw [h3, fieldI_nat, hg]; rfl, h4⟩)).mono fun e w' ⟨h5, h6⟩ => ⟨?_, h6⟩
      unfold TagOut tagF
      rw [hp, h5]
      simp only [Option.bind_some, hg]
      rfl
end Go.Proofs.YtmdacedmjbiekaaGreatDoor
