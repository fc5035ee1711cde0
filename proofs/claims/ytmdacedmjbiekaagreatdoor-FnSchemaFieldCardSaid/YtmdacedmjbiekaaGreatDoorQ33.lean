/- The program reads a schema, a kind and a value. The program's ValueOk and ValueDeep. What is drawn for the laws on kinds. What is drawn for the laws on schemas: names, fields. What is drawn for the laws on schemas: schemas. Slices of numbers that a call made: compared, marked. Plain words that the laws on schemas want. What is drawn for the laws on schemas: what the laws ask of it, and plain words on what they compare. Plain laws on texts, kinds, schemas and values; no program in sight. What stands for a field is a value: plain words for SchemaField; and what is drawn for it. -/
import Derived.Test.YtmdacedmjbiekaaGreatDoorQ32
import Derived.Test.YtmdacedmjbiekaaGreatDoorQ29
import Derived.Test.YtmdacedmjbiekaaGreatDoorQ0
import Derived.Test.YtmdacedmjbiekaaGreatDoorQ7
import Derived.Test.YtmdacedmjbiekaaGreatDoorQ5
import Derived.Test.YtmdacedmjbiekaaGreatDoorQ27
import Derived.Deep.RegionWith
import Derived.Deep.RegionHeld3
import Derived.Test.YtmdacedmjbiekaaGreatDoorQ3
import Derived.Test.YtmdacedmjbiekaaGreatDoorQ30
namespace Go.Proofs.YtmdacedmjbiekaaGreatDoor
open Go.ChangeShapes Go.WideShapes Go.ChangeAt Go.RowKit Go.Lib
set_option linter.unusedVariables false
set_option linter.unusedSimpArgs false
/-- a value of a kind of a schema, whose text is no longer than 2^20 -/
theorem read (x : Wf.Sc) (hx : Wf.ScOk x) (k : Wf.K) (hk : KOk x k) (lo sb : Nat) (s : List UInt8) (hs : s.length ≤ 9000000000) (W w : World) (hsc : ScL W lo sb x) (hW : Below W.heap.size W w) : Calls Tryz.prog 66 #[ptr sb, kV k, tx s] w fun e w' => RvOut x k s w e w' ∧ Below w.heap.size w w' := by
  by_cases h : s.length ≤ 400
  · exact read_short x k sb s W w hx lo hsc hk h hW
  · exact read_long x k sb s w h hs
/-- a schema, a kind and a value, from their texts -/
def valOf (l kt s : List UInt8) : Option ((Wf.Sc × Wf.K) × Wf.V) := match kindOf l kt with
  | some y => (match Wf.valIn y.1 y.2 s with
    | some v => some (y, v)
    | none => none)
  | none => none
/-- what given gives -/
def GivOut (l kt s : List UInt8) (lo : Nat) (e : Ending) (w' : World) : Prop := match valOf l kt s with
  | some y => ∃ sb cs, e = .returned (.tuple #[ptr sb, kV y.1.2, .agg cs.toArray, .bool true]) ∧ ScL w' lo sb y.1.1 ∧ VC w' (fun b => lo ≤ b) y.2 cs
  | none => ∃ p a b c, e = .returned (.tuple #[.pointer p, .agg #[.string a, .string b, .string c], .agg #[.int .u8 0, .string ⟨#[]⟩, .int .i64 0, .slice none 0 0], .bool false])
theorem GivOut.no {l kt s : List UInt8} {lo : Nat} {e : Ending} {w' : World} (h : valOf l kt s = none) (he : ∃ p a b c, e = .returned (.tuple #[.pointer p, .agg #[.string a, .string b, .string c], .agg #[.int .u8 0, .string ⟨#[]⟩, .int .i64 0, .slice none 0 0], .bool false])) : GivOut l kt s lo e w' := by
  unfold GivOut; rw [h]; exact he
theorem GivOut.yes {l kt s : List UInt8} {lo : Nat} {e : Ending} {w' : World} {y : (Wf.Sc × Wf.K) × Wf.V} (h : valOf l kt s = some y) (he : ∃ sb cs, e = .returned (.tuple #[ptr sb, kV y.1.2, .agg cs.toArray, .bool true]) ∧ ScL w' lo sb y.1.1 ∧ VC w' (fun b => lo ≤ b) y.2 cs) : GivOut l kt s lo e w' := by
  unfold GivOut; rw [h]; exact he
theorem kindOf_ok {l kt : List UInt8} {y : Wf.Sc × Wf.K} (h : kindOf l kt = some y) : Wf.ScOk y.1 ∧ KOk y.1 y.2 := by
  obtain ⟨h1, h2, h3, h4, h5⟩ := kindOf_text h
  exact ⟨Wf.schemaOf_ok h1, ⟨by rw [h4]; exact h5, h3⟩⟩
/-- a block that holds a kind of nothing -/
structure ZeroK (wr : World) (b : Nat) : Prop where
  lt : b < wr.heap.size
  r0 : wr.cell? ⟨b, 0, none⟩ = some (.string ⟨#[]⟩)
  r1 : wr.cell? ⟨b, 1, none⟩ = some (.string ⟨#[]⟩)
  r2 : wr.cell? ⟨b, 2, none⟩ = some (.string ⟨#[]⟩)
  f0 : wr.frozen? ⟨b, 0, none⟩ = false
  f1 : wr.frozen? ⟨b, 1, none⟩ = false
  f2 : wr.frozen? ⟨b, 2, none⟩ = false
theorem ZeroK.below {wr w2 : World} {b B : Nat} (h : ZeroK wr b) (hb : Below B wr w2) (hr : b < B) : ZeroK w2 b := by
  have h1 := hb.block b hr
  have cd := fun o => World.cell?_of_block (w := wr) (w' := w2) (a := ⟨b, o, none⟩) h1
  have cf := fun o => World.frozen?_of_block (w := wr) (w' := w2) (a := ⟨b, o, none⟩) h1
  exact ⟨Nat.lt_of_lt_of_le h.lt hb.size, (cd 0).trans h.r0, (cd 1).trans h.r1, (cd 2).trans h.r2, (cf 0).trans h.f0, (cf 1).trans h.f1, (cf 2).trans h.f2⟩
/-- the two blocks that given lays first -/
theorem start_given (w : World) (W1 : World) (hW1 : (w.alloc (.cells #[.string ⟨#[]⟩, .string ⟨#[]⟩, .string ⟨#[]⟩] 57)).alloc (.cells #[.int .u8 0, .string ⟨#[]⟩, .int .i64 0, .slice none 0 0] 92) = W1) :
    ZeroK W1 w.heap.size ∧ Zero W1 (w.heap.size + 1) ∧ Below w.heap.size w W1 := by
  have hB : Below w.heap.size w W1 := by
    rw [← hW1]
    exact (((Below.refl _ _).alloc (Nat.le_refl _) _).alloc (by simp) _)
  subst hW1
  refine ⟨⟨?_, ?_, ?_, ?_, ?_, ?_, ?_⟩, ⟨?_, ?_, ?_, ?_, ?_, ?_, ?_, ?_, ?_⟩, hB⟩
  all_goals first | (simp [go_sem]; done) | (simp [go_sem]; omega)
/-- the blocks from B on are as they were -/
structure Over (B : Nat) (w w' : World) : Prop where
  size : w.heap.size ≤ w'.heap.size
  block : ∀ k, B ≤ k → k < w.heap.size → w'.heap[k]? = w.heap[k]?
theorem Over.refl (B : Nat) (w : World) : Over B w w := ⟨Nat.le_refl _, fun _ _ _ => rfl⟩
theorem Over.drew {B : Nat} {w w' : World} (h : Over B w w') : Over B w w'.drew := ⟨h.size, h.block⟩
theorem Over.setCell {B : Nat} {w w' : World} (h : Over B w w') {p : Addr} (hp : p.block < B) (v : Value) : Over B w (w'.setCell p v) := by
  have hs : (w'.setCell p v).heap.size = w'.heap.size := by simp
  refine ⟨by rw [hs]; exact h.size, fun k hk hl => (Below.heap_setCell w' p v k (by omega)).trans (h.block k hk hl)⟩
theorem Over.alloc {B : Nat} {w w' : World} (h : Over B w w') (o : Obj) : Over B w (w'.alloc o) := by
  have hb := (Below.refl w'.heap.size w').alloc (Nat.le_refl _) o
  exact ⟨Nat.le_trans h.size hb.size, fun k hk hl => (hb.block k (Nat.lt_of_lt_of_le hl h.size)).trans (h.block k hk hl)⟩
theorem Over.below {B : Nat} {w w1 w2 : World} (h : Over B w1 w2) (hb : Below w.heap.size w w1) : ∀ k, B ≤ k → k < w.heap.size → w2.heap[k]? = w.heap[k]? := fun k hk hl => (h.block k hk (Nat.lt_of_lt_of_le hl hb.size)).trans (hb.block k hl)
set_option maxRecDepth 20000 in
set_option maxHeartbeats 2000000 in
theorem given_no (s kt : ByteArray) (v : ByteArray) (m : Int) (w : World) (hm : ML m w) (hs : s.size ≤ 1048576) (hkt : kt.size ≤ 1048576) (h : kindOf s.data.toList kt.data.toList = none) : Calls Tryz.prog 52 #[.string s, .string kt, .string v] w fun e w' => GivOut s.data.toList kt.data.toList v.data.toList w.heap.size e w' ∧ Below w.heap.size w w' := by
  have HN := hid (show valOf s.data.toList kt.data.toList v.data.toList = none by unfold valOf; rw [h])
  have HB := hid fun w2 (h2 : Below w.heap.size w w2) => (both s kt m w2 (hm.below h2) hs hkt).mono (R' := fun e w' => (∃ p a b c, e = .returned (.tuple #[.pointer p, .agg #[.string a, .string b, .string c], .bool false])) ∧ Below w2.heap.size w2 w') fun e w' ⟨h3, h4⟩ => ⟨by unfold BothOut at h3; rw [h] at h3; exact h3, h4⟩
  have ST := hid fun W1 h => start_given w W1 h
  clear h hm
  go_enter Tryz.func52, Tryz.ntmps52
  go_wp2_with (go_at_call 37; obtain ⟨zk, zv, b0⟩ := ST.out _ rfl; refine (HB.out _ b0).mono ?_; rintro e w1 ⟨⟨p, a, b, c, rfl⟩, hb1⟩; have B1 := hid (below_join b0 hb1); obtain ⟨kl, kr0, kr1, kr2, kf0, kf1, kf2⟩ := zk.below hb1 zk.lt; obtain ⟨zl, zr0, zr1, zr2, zr3, zf0, zf1, zf2, zf3⟩ := zv.below hb1 zv.lt; clear hb1 zk zv b0)
  exact bodyPost_ret (v := .tuple #[.pointer none, .agg #[.string ⟨#[]⟩, .string ⟨#[]⟩, .string ⟨#[]⟩], .agg #[.int .u8 0, .string ⟨#[]⟩, .int .i64 0, .slice none 0 0], .bool false]) (by simp [results, Tryz.results52, go_sem, *]) rfl ⟨GivOut.no HN.out ⟨_, _, _, _, rfl⟩, by have B := B1.out; repeat (first | with_reducible exact B | with_reducible refine Below.drew ?_ | with_reducible refine Below.setCell ?_ (by simp) _ | with_reducible refine Below.alloc ?_ (by first | exact B.size | (simp; omega)) _)⟩
set_option maxRecDepth 20000 in
set_option maxHeartbeats 4000000 in
theorem given_yes (s kt : ByteArray) (v : ByteArray) (m : Int) (w : World) (hm : ML m w) (hs : s.size ≤ 1048576) (hkt : kt.size ≤ 1048576) (hv : v.size ≤ 1048576) (x : Wf.Sc) (k : Wf.K) (h : kindOf s.data.toList kt.data.toList = some (x, k)) : Calls Tryz.prog 52 #[.string s, .string kt, .string v] w fun e w' => GivOut s.data.toList kt.data.toList v.data.toList w.heap.size e w' ∧ Below w.heap.size w w' := by
  have HB := hid fun w2 (h2 : Below w.heap.size w w2) => (both s kt m w2 (hm.below h2) hs hkt).mono (R' := fun e w' => (∃ sb, e = .returned (.tuple #[ptr sb, kV k, .bool true]) ∧ ScL w' w2.heap.size sb x) ∧ Below w2.heap.size w2 w') fun e w' ⟨h3, h4⟩ => ⟨by unfold BothOut at h3; rw [h] at h3; obtain ⟨sb, h5, h6⟩ := h3; exact ⟨sb, h5, h6⟩, h4⟩
  obtain ⟨hx, hk⟩ := kindOf_ok h
  have HRD := hid fun (w2 w3 : World) (sb : Nat) (hsl : ScL w2 (w.heap.size + 1 + 1) sb x) (hb : Below w2.heap.size w2 w3) => read x hx k hk (w.heap.size + 1 + 1) sb v.data.toList (by rw [size_list]; omega) w2 w3 hsl hb
  obtain ⟨SG, hSG⟩ : ∃ SG : ByteArray, (⟨k.signs.toArray⟩ : ByteArray) = SG := ⟨_, rfl⟩
  obtain ⟨BS, hBS⟩ : ∃ BS : ByteArray, (⟨k.base.toArray⟩ : ByteArray) = BS := ⟨_, rfl⟩
  obtain ⟨NM, hNM⟩ : ∃ NM : ByteArray, (⟨k.name.toArray⟩ : ByteArray) = NM := ⟨_, rfl⟩
  have hkv : kV k = .agg #[.string SG, .string BS, .string NM] := by simp only [kV, tx, hSG, hBS, hNM]
  have hvv : tx v.data.toList = .string v := rfl
  rw [hkv, hvv] at HRD
  rw [hkv] at HB
  have HKV := hid hkv
  have ST := hid fun W1 h => start_given w W1 h
  cases hvi : Wf.valIn x k v.data.toList with
  | none =>
    have HN := hid (show valOf s.data.toList kt.data.toList v.data.toList = none by unfold valOf; rw [h]; dsimp only; rw [hvi])
    have HO := hid fun (wz : World) e w' (ho : RvOut x k v.data.toList wz e w') => (by unfold RvOut at ho; rw [hvi] at ho; exact ho : e = .returned (.tuple #[.agg #[.int .u8 0, .string ⟨#[]⟩, .int .i64 0, .slice none 0 0], .bool false]))
    clear h hm hx hk hSG hBS hNM hkv hvi hvv
    go_enter Tryz.func52, Tryz.ntmps52
    go_wp2_with (first | (go_at_call 66; have hal := (Below.refl w1.heap.size w1).alloc (Nat.le_refl _) (.cells #[.string SG, .string BS, .string NM] 57); refine (HRD.out _ _ _ SL1.out hal).mono ?_; rintro e w3 ⟨ho, hb3⟩; obtain rfl := HO.out _ _ _ ho; clear ho; have B3 := hid (below_join hal hb3); obtain ⟨kl, kr0, kr1, kr2, kf0, kf1, kf2⟩ := K1.out.below B3.out K1.out.lt; obtain ⟨zl, zr0, zr1, zr2, zr3, zf0, zf1, zf2, zf3⟩ := Z1.out.below B3.out Z1.out.lt; have hw1 : w1.heap.size < w3.heap.size := Nat.lt_of_lt_of_le (by simp) hb3.size; have q0 : w3.cell? ⟨w1.heap.size, 0, none⟩ = some (.string SG) := (hb3.cell (p := ⟨w1.heap.size, 0, none⟩) (by simp)).trans (by simp [go_sem]); have q1 : w3.cell? ⟨w1.heap.size, 1, none⟩ = some (.string BS) := (hb3.cell (p := ⟨w1.heap.size, 1, none⟩) (by simp)).trans (by simp [go_sem]); have q2 : w3.cell? ⟨w1.heap.size, 2, none⟩ = some (.string NM) := (hb3.cell (p := ⟨w1.heap.size, 2, none⟩) (by simp)).trans (by simp [go_sem]); clear hb3 hal) | (go_at_call 37; obtain ⟨zk, zv, b0⟩ := ST.out _ rfl; refine (HB.out _ b0).mono ?_; rintro e w1 ⟨⟨sb, rfl, hsl⟩, hb1⟩; have B1 := hid (below_join b0 hb1); have K1 := hid (zk.below hb1 zk.lt); have Z1 := hid (zv.below hb1 zv.lt); have SL1 := hid (hsl.mono (Nat.succ_le_of_lt zv.lt)); have kl := K1.out.lt; have zl := Z1.out.lt; clear hb1 zk zv b0 hsl))
    go_region
    all_goals (go_wp2_with fail)
    all_goals exact bodyPost_ret (v := .tuple #[ptr sb, .agg #[.string SG, .string BS, .string NM], .agg #[.int .u8 0, .string ⟨#[]⟩, .int .i64 0, .slice none 0 0], .bool false]) (by simp [results, Tryz.results52, go_sem, *]) rfl ⟨GivOut.no HN.out ⟨_, _, _, _, rfl⟩, by have B := B1.out.trans (B3.out.mono B1.out.size); repeat (first | with_reducible exact B | with_reducible refine Below.drew ?_ | with_reducible refine Below.setCell ?_ (by simp) _ | with_reducible refine Below.alloc ?_ (by first | exact B.size | (simp; omega)) _)⟩
  | some u =>
    have HN := hid (show valOf s.data.toList kt.data.toList v.data.toList = some ((x, k), u) by unfold valOf; rw [h]; dsimp only; rw [hvi])
    have HO := hid fun (wz : World) e w' (ho : RvOut x k v.data.toList wz e w') => (by unfold RvOut at ho; rw [hvi] at ho; exact ho : ∃ cs, e = .returned (.tuple #[.agg cs.toArray, .bool true]) ∧ VC w' (fun b => wz.heap.size ≤ b) u cs)
    clear h hm hx hk hSG hBS hNM hkv hvi hvv
    go_enter Tryz.func52, Tryz.ntmps52
    go_wp2_with (first | (go_at_call 66; have hal := (Below.refl w1.heap.size w1).alloc (Nat.le_refl _) (.cells #[.string SG, .string BS, .string NM] 57); refine (HRD.out _ _ _ SL1.out hal).mono ?_; rintro e w3 ⟨ho, hb3⟩; obtain ⟨cs, rfl, hvc⟩ := HO.out _ _ _ ho; obtain ⟨g0, g1, g2, g3, T2, a2, rfl⟩ := hvc.cells4; have HVC := hid hvc; have HAL := hid hal; have HB3' := hid hb3; clear ho hvc; have B3 := hid (below_join hal hb3); obtain ⟨kl, kr0, kr1, kr2, kf0, kf1, kf2⟩ := K1.out.below B3.out K1.out.lt; obtain ⟨zl, zr0, zr1, zr2, zr3, zf0, zf1, zf2, zf3⟩ := Z1.out.below B3.out Z1.out.lt; have hw1 : w1.heap.size < w3.heap.size := Nat.lt_of_lt_of_le (by simp) hb3.size; have q0 : w3.cell? ⟨w1.heap.size, 0, none⟩ = some (.string SG) := (hb3.cell (p := ⟨w1.heap.size, 0, none⟩) (by simp)).trans (by simp [go_sem]); have q1 : w3.cell? ⟨w1.heap.size, 1, none⟩ = some (.string BS) := (hb3.cell (p := ⟨w1.heap.size, 1, none⟩) (by simp)).trans (by simp [go_sem]); have q2 : w3.cell? ⟨w1.heap.size, 2, none⟩ = some (.string NM) := (hb3.cell (p := ⟨w1.heap.size, 2, none⟩) (by simp)).trans (by simp [go_sem]); clear hb3 hal) | (go_at_call 37; obtain ⟨zk, zv, b0⟩ := ST.out _ rfl; refine (HB.out _ b0).mono ?_; rintro e w1 ⟨⟨sb, rfl, hsl⟩, hb1⟩; have B1 := hid (below_join b0 hb1); have K1 := hid (zk.below hb1 zk.lt); have Z1 := hid (zv.below hb1 zv.lt); have SL1 := hid (hsl.mono (Nat.succ_le_of_lt zv.lt)); have kl := K1.out.lt; have zl := Z1.out.lt; clear hb1 zk zv b0 hsl))
    go_region
    all_goals (go_wp2_with fail)
    all_goals exact bodyPost_ret (v := .tuple #[ptr sb, .agg #[.string SG, .string BS, .string NM], .agg #[.int .u8 g0, .string T2, .int .i64 g1, .slice a2 g2 g3], .bool true]) (by simp [results, Tryz.results52, go_sem, *]) rfl (by
      have hR : ∀ W4, Over (w.heap.size + 1 + 1) w3 W4 → Below w.heap.size w W4 → (GivOut s.data.toList kt.data.toList v.data.toList w.heap.size (.returned (.tuple #[ptr sb, .agg #[.string SG, .string BS, .string NM], .agg #[.int .u8 g0, .string T2, .int .i64 g1, .slice a2 g2 g3], .bool true])) W4 ∧ Below w.heap.size w W4) := fun W4 ho hb => by
        refine ⟨GivOut.yes HN.out ⟨sb, [.int .u8 g0, .string T2, .int .i64 g1, .slice a2 g2 g3], by rw [HKV.out], (SL1.out.keep (Nat.le_trans B3.out.size ho.size) (ho.below B3.out)).mono (by omega), VC.keep (fun b hp hlt => ⟨?_, ?_⟩) ho.size _ _ HVC.out⟩, hb⟩
        · have h1 := HAL.out.size
          have h2 := Z1.out.lt
          have h3 : (w1.alloc (.cells #[.string SG, .string BS, .string NM] 57)).heap.size ≤ b := hp
          omega
        · have h1 := HAL.out.size
          have h2 := Z1.out.lt
          have h3 : (w1.alloc (.cells #[.string SG, .string BS, .string NM] 57)).heap.size ≤ b := hp
          exact ho.block b (by omega) hlt
      refine hR _ ?_ ?_
      · repeat (first | with_reducible exact Over.refl _ _ | with_reducible refine Over.drew ?_ | with_reducible refine Over.setCell ?_ (by first | (simp; done) | (simp; omega)) _ | with_reducible refine Over.alloc ?_ _)
      · have B := B1.out.trans (B3.out.mono B1.out.size)
        repeat (first | with_reducible exact B | with_reducible refine Below.drew ?_ | with_reducible refine Below.setCell ?_ (by simp) _ | with_reducible refine Below.alloc ?_ (by first | exact B.size | (simp; omega)) _))
/-- a schema, a kind and a value -/
theorem given (s kt : ByteArray) (v : ByteArray) (m : Int) (w : World) (hm : ML m w) (hs : s.size ≤ 1048576) (hkt : kt.size ≤ 1048576) (hv : v.size ≤ 1048576) : Calls Tryz.prog 52 #[.string s, .string kt, .string v] w fun e w' => GivOut s.data.toList kt.data.toList v.data.toList w.heap.size e w' ∧ Below w.heap.size w w' := by
  cases h : kindOf s.data.toList kt.data.toList with
  | none => exact given_no s kt v m w hm hs hkt h
  | some y => exact given_yes s kt v m w hm hs hkt hv y.1 y.2 h
end Go.Proofs.YtmdacedmjbiekaaGreatDoor

namespace Go.Proofs.YtmdacedmjbiekaaGreatDoor
open Go.ChangeShapes Go.WideShapes Go.ChangeAt Go.RowKit Go.Lib
set_option linter.unusedVariables false
set_option linter.unusedSimpArgs false
def vOkB (l kt s : List UInt8) : Bool := (valOf l kt s).isSome
theorem GivOut.form {l kt s : List UInt8} {lo : Nat} {e : Ending} {w' : World} (h : GivOut l kt s lo e w') : ∃ (p : Option Addr) (a b c : ByteArray) (q g n d : Nat) (T : ByteArray) (sa : Option Addr), e = .returned (.tuple #[.pointer p, .agg #[.string a, .string b, .string c], .agg #[.int .u8 q, .string T, .int .i64 g, .slice sa n d], .bool (vOkB l kt s)]) := by
  unfold GivOut at h
  unfold vOkB
  cases hv : valOf l kt s with
  | none =>
    rw [hv] at h
    obtain ⟨p, a, b, c, rfl⟩ := h
    exact ⟨p, a, b, c, 0, 0, 0, 0, ⟨#[]⟩, none, rfl⟩
  | some y =>
    rw [hv] at h
    obtain ⟨sb, cs, rfl, _, hvc⟩ := h
    obtain ⟨q, g, n, d, T, sa, rfl⟩ := hvc.cells4
    exact ⟨_, _, _, _, q, g, n, d, T, sa, rfl⟩
set_option maxRecDepth 20000 in
set_option maxHeartbeats 1000000 in
theorem valueOk_i (s kt v : ByteArray) (m : Int) (w : World) (hm : ML m w) (hs : s.size ≤ 1048576) (hkt : kt.size ≤ 1048576) (hv : v.size ≤ 1048576) : Calls Tryz.prog 22 #[.string s, .string kt, .string v] w fun e w' => e = .returned (.bool (vOkB s.data.toList kt.data.toList v.data.toList)) ∧ Below w.heap.size w w' := by
  have HG := hid (given s kt v m w hm hs hkt hv)
  clear hm
  go_enter Tryz.func22, Tryz.ntmps22
  go_wp2_with (go_at_call 52; refine HG.out.mono ?_; rintro e w2 ⟨ho, hb2⟩; obtain ⟨p, a, b, c, q, g, n, d, T, sa, rfl⟩ := ho.form; have HB2 := hid hb2; clear ho hb2)
  go_ret
  exact ⟨rfl, by have B := HB2.out; have hB := B.size; repeat (first | with_reducible exact B | with_reducible refine Below.drew ?_ | with_reducible refine Below.setCell ?_ (by simp) _ | with_reducible refine Below.alloc ?_ (by first | exact B.size | (simp; omega)) _)⟩
end Go.Proofs.YtmdacedmjbiekaaGreatDoor

namespace Go.Proofs.YtmdacedmjbiekaaGreatDoor
open Go.ChangeShapes Go.WideShapes Go.ChangeAt Go.RowKit Go.Lib
set_option linter.unusedVariables false
/-- a cell of a row that was made before the reader was asked -/
theorem cell_pick (c : List Value) {w1 w2 : World} {rb et : Nat} (hb : Beside rb (w1.alloc (.cells c.toArray et)) w2) (hr : rb < w1.heap.size) (v : Int) (h0 : 0 ≤ v) (h1 : v < c.length) : ∃ x ∈ c, w2.cell? ⟨w1.heap.size, v.toNat, none⟩ = some x := by
  refine ⟨c[v.toNat]'(by omega), List.getElem_mem _, ?_⟩
  refine hb.cell_some ?_ (by omega)
  simp [List.getElem?_eq_getElem (show v.toNat < c.length by omega)]
/-- the same, of a row of texts, each of at most so many bytes -/
theorem cell_picks (m : Nat) (l : List (List UInt8)) {w1 w2 : World} {rb et : Nat} (hb : Beside rb (w1.alloc (.cells (l.map tx).toArray et)) w2) (hr : rb < w1.heap.size) (v : Int) (h0 : 0 ≤ v) (h1 : v < l.length) (hl : (l.all fun n => decide (n.length ≤ m)) = true) : ∃ x : ByteArray, x.size ≤ m ∧ x.data.toList ∈ l ∧ w2.cell? ⟨w1.heap.size, v.toNat, none⟩ = some (.string x) := by
  obtain ⟨x, hx, hc⟩ := cell_pick _ hb hr v h0 (by simpa using h1)
  obtain ⟨n, hn, rfl⟩ := List.mem_map.1 hx
  have := List.all_eq_true.1 hl n hn
  exact ⟨⟨n.toArray⟩, by simpa [tx_size] using this, hn, hc⟩
set_option maxRecDepth 20000 in
set_option maxHeartbeats 1000000 in
theorem l91Kind (rb k : Nat) (w : World) (H : Rd w rb k) (hk : k ≤ 900000) :
    Calls Tryz.prog 86 #[.pointer (some ⟨rb, 0, none⟩)] w fun e w' => ∃ s : ByteArray, e = .returned (.string s) ∧ s.size ≤ 100 ∧ Rd w' rb (k + 7) ∧ Beside rb w w' := by
  have R0 := H.lt
  go_enter Tryz.func86, Tryz.ntmps86
  go_wp2_with (first | (go_at_call 44; refine (pick rb (k + 1) 4 _ hR2 (by omega) (by omega)).mono ?_; rintro e w3 ⟨n, rfl, hn, _, hR3, hBs3⟩; obtain ⟨hn0, hn1⟩ := hn (by omega); have B3 := Lib.hid (B2.out.trans hBs3); clear hBs3) | (go_at_call 44; refine (pick rb k 8 _ (H.alloc _) (by omega) (by omega)).mono ?_; rintro e w2 ⟨v, rfl, hv, _, hR2, hBs⟩; obtain ⟨hv0, hv1⟩ := hv (by omega); obtain ⟨x, hx0, hx1, hxc⟩ := cell_picks 3 [[110], [116], [102], [110], [116], [64, 97, 59], [64, 98, 59], [64, 99, 59]] hBs H.lt v hv0 hv1 (by decide); have B2 := Lib.hid (((Beside.refl rb w).alloc _).trans hBs); clear hBs))
  go_loopw [3, 4] (fun v3 v4 wr => ∃ (t : ByteArray) (i : Int) (m : Nat), v3 = .string t ∧ v4 = .int .i64 i ∧ 0 ≤ i ∧ i ≤ 3 ∧ m + i.toNat ≤ 5 ∧ t.size ≤ 10 * m ∧ m ≤ 5 ∧ Rd wr rb (k + m) ∧ Hid (Beside rb w wr)) (fun _ v _ => (RowKit.intOf v).toNat)
  case atStart => exact ⟨x, n, 2, rfl, rfl, hn0, by omega, by omega, by omega, by omega, hR3, B3⟩
  case round =>
    obtain ⟨t, i, m, rfl, rfl, hi0, hi1, hm, ht, hm5, hR, hBB⟩ := hrel
    by_cases hi : 1 < i
    · go_wp2_with (go_at_call 44; refine (pick rb (k + m) 3 _ (hR.alloc _) (by omega) (by omega)).mono ?_; rintro e w4 ⟨u, rfl, hu, _, hR4, hBs4⟩; obtain ⟨hu0, hu1⟩ := hu (by omega); obtain ⟨y, hy0, hy1, hyc⟩ := cell_picks 1 [[91], [63], [91]] hBs4 hR.lt u hu0 hu1 (by decide); have B4 := Lib.hid ((hBB.out.alloc _).trans hBs4); clear hBs4)
      go_roundw
      case rel => exact ⟨_, _, m + 1, rfl, rfl, by omega, by omega, by omega, by simp [ByteArray.size_append]; omega, by omega, hR4, B4⟩
      case measure => simp [RowKit.intOf]; omega
    · go_wp2_with (first | (go_at_call 44; refine (pick rb (k + m + 1) 8 _ (hR5.alloc _) (by omega) (by omega)).mono ?_; rintro e w6 ⟨v6, rfl, hv6, _, hR6, hBs6⟩; obtain ⟨hv60, hv61⟩ := hv6 (by omega); obtain ⟨z, hz0, hz1, hzc⟩ := cell_picks 20 [[], [120], [64, 59], [64, 65, 59], [91], [63, 63, 63, 63, 63, 63, 63, 63, 63, 63, 63, 63, 63, 63, 110], [64, 97], [110, 110]] hBs6 hR5.lt v6 hv60 hv61 (by decide); have B6 := Lib.hid ((B5.out.alloc _).trans hBs6); clear hBs6) | (go_at_call 44; refine (pick rb (k + m) 30 _ hR (by omega) (by omega)).mono ?_; rintro e w5 ⟨v5, rfl, hv5, _, hR5, hBs5⟩; have B5 := Lib.hid (hBB.out.trans hBs5); clear hBs5 hv5))
      all_goals go_ret
      · exact ⟨z, rfl, by omega, hR6.mono (by omega), B6.out⟩
      · exact ⟨t, rfl, by omega, hR5.mono (by omega), B5.out⟩
end Go.Proofs.YtmdacedmjbiekaaGreatDoor

namespace Go.Proofs.YtmdacedmjbiekaaGreatDoor
open Go.ChangeShapes Go.WideShapes Go.ChangeAt Go.RowKit Go.Lib
set_option linter.unusedVariables false
set_option linter.unusedSimpArgs false
set_option maxRecDepth 20000 in
set_option maxHeartbeats 1000000 in
theorem l91Name (rb k : Nat) (w : World) (H : Rd w rb k) (hk : k ≤ 900000) :
    Calls Tryz.prog 43 #[.pointer (some ⟨rb, 0, none⟩)] w fun e w' => ∃ s : ByteArray, e = .returned (.string s) ∧ s.size ≤ 4 ∧ Rd w' rb (k + 2) ∧ Beside rb w w' := by
  have R0 := H.lt
  go_enter Tryz.func43, Tryz.ntmps43
  go_wp2_with (first | (go_at_call 44; have _u := hR2; refine (pick rb (k + 1) 4 _ (hR2.alloc _) (by omega) (by omega)).mono ?_; rintro e w3 ⟨n, rfl, hn, _, hR3, hBs3⟩; obtain ⟨hn0, hn1⟩ := hn (by omega); obtain ⟨x, hx0, hx1, hxc⟩ := cell_picks 4 [[], [65], [97, 98, 99, 100], [97, 49]] hBs3 hR2.lt n hn0 hn1 (by decide); have B3 := Lib.hid ((B2.out.alloc _).trans hBs3); clear hBs3) | (go_at_call 44; have _u := hR2; refine (pick rb (k + 1) 4 _ (hR2.alloc _) (by omega) (by omega)).mono ?_; rintro e w3 ⟨n, rfl, hn, _, hR3, hBs3⟩; obtain ⟨hn0, hn1⟩ := hn (by omega); obtain ⟨x, hx0, hx1, hxc⟩ := cell_picks 4 [[97], [98], [99], [100]] hBs3 hR2.lt n hn0 hn1 (by decide); have B3 := Lib.hid ((B2.out.alloc _).trans hBs3); clear hBs3) | (go_at_call 44; refine (pick rb k 30 _ H (by omega) (by omega)).mono ?_; rintro e w2 ⟨v, rfl, hv, _, hR2, hBs⟩; obtain ⟨hv0, hv1⟩ := hv (by omega); have B2 := Lib.hid hBs; clear hBs))
  all_goals go_ret
  all_goals exact ⟨x, rfl, hx0, hR3, B3.out⟩
/-- a field drawn -/
def Drew (n : Nat) (rb k : Nat) (w : World) (e : Ending) (w' : World) : Prop := ∃ s : ByteArray, e = .returned (.string s) ∧ s.size ≤ n ∧ Rd w' rb k ∧ Beside rb w w'
set_option maxRecDepth 20000 in
set_option maxHeartbeats 2000000 in
theorem l91Field (rb k : Nat) (T NM : ByteArray) (g : Nat) (hg : g ≤ 999999) (hn : NM.size ≤ 10) (w : World) (H : Rd w rb k) (hk : k ≤ 900000) :
    Calls Tryz.prog 121 #[.pointer (some ⟨rb, 0, none⟩), .string T, .int .i64 g, .string NM] w fun e w' => Drew 130 rb (k + 9) w e w' := by
  have R0 := H.lt
  have HD := hid fun wz => l6Dec g g wz (Nat.le_refl _) (by omega)
  have ld := Wf.dec_len6 hg
  obtain ⟨D, hD⟩ : ∃ D : ByteArray, (⟨(Wf.dec g).toArray⟩ : ByteArray) = D := ⟨_, rfl⟩
  simp only [tx, hD] at HD
  have hds : D.size ≤ 6 := by rw [← hD, tx_size]; exact ld
  have HH := hid H
  clear hD ld H
  go_enter Tryz.func121, Tryz.ntmps121
  go_wp2_with (first | (go_at_call 44; have _u := hR4; have _t : (K.toList == [110]) = true := (by assumption); refine (pick rb (k + 8) 8 _ (hR4.alloc _) (by omega) (by omega)).mono ?_; rintro e w5 ⟨u, rfl, hu, _, hR5, hBs5⟩; obtain ⟨hu0, hu1⟩ := hu (by omega); obtain ⟨x, hx0, hx1, hxc⟩ := cell_picks 6 [[53], [55, 55], [57, 57, 57, 57, 57, 57], [48]] hBs5 hR4.lt (u / 2 % 4) (by omega) (by simp; omega) (by decide); have B5 := Lib.hid ((B4.out.alloc _).trans hBs5); clear hBs5) | (go_at_call 44; have _u := hR4; have _t : (K.toList == [116]) = true := (by assumption); refine (pick rb (k + 8) 7 _ (hR4.alloc _) (by omega) (by omega)).mono ?_; rintro e w5 ⟨u, rfl, hu, _, hR5, hBs5⟩; obtain ⟨hu0, hu1⟩ := hu (by omega); obtain ⟨x, hx0, hx1, hxc⟩ := cell_picks 3 [[104, 105], [97, 32, 98], []] hBs5 hR4.lt (u / 3) (by omega) (by simp; omega) (by decide); have B5 := Lib.hid ((B4.out.alloc _).trans hBs5); clear hBs5) | (go_at_call 44; have _u := hR4; have _t : (K.toList == [102]) = true := (by assumption); refine (pick rb (k + 8) 7 _ (hR4.alloc _) (by omega) (by omega)).mono ?_; rintro e w5 ⟨u, rfl, hu, _, hR5, hBs5⟩; obtain ⟨hu0, hu1⟩ := hu (by omega); obtain ⟨x, hx0, hx1, hxc⟩ := cell_picks 3 [[121, 101, 115], [121, 101, 115], [110, 111]] hBs5 hR4.lt (u / 3) (by omega) (by simp; omega) (by decide); have B5 := Lib.hid ((B4.out.alloc _).trans hBs5); clear hBs5) | (go_at_call 44; refine (pick rb (k + 7) 3 _ R3.out (by omega) (by omega)).mono ?_; rintro e w4 ⟨v, rfl, hv, _, hR4, hBs⟩; obtain ⟨hv0, hv1⟩ := hv (by omega); have B4 := Lib.hid (B3.out.trans hBs); clear hBs) | (go_at_call 86; refine (l91Kind rb k _ R1.out (by omega)).mono ?_; rintro e w3 ⟨K, rfl, hK, hR3, hBs3⟩; have B3 := Lib.hid (B1.out.trans hBs3); have R3 := Lib.hid hR3; clear hBs3 hR3) | (go_at_call 124; refine (HD.out _).mono ?_; rintro e w1 ⟨rfl, hb1⟩; have R1 := Lib.hid (HH.out.below hb1 R0); have B1 := Lib.hid (Beside.of_below (rb := rb) hb1 (Nat.le_refl _)); clear hb1))
  all_goals go_ret
  all_goals have c58 : (⟨#[58]⟩ : ByteArray).size = 1 := rfl
  all_goals have c61 : (⟨#[61]⟩ : ByteArray).size = 1 := rfl
  all_goals have c62 : (⟨#[61, 39]⟩ : ByteArray).size = 2 := rfl
  all_goals have c39 : (⟨#[39]⟩ : ByteArray).size = 1 := rfl
  all_goals first | exact ⟨_, rfl, by simp [ByteArray.size_append]; omega, hR5.mono (by omega), B5.out⟩ | exact ⟨_, rfl, by simp [ByteArray.size_append]; omega, hR4.mono (by omega), B4.out⟩ | exact ⟨_, rfl, by simp [ByteArray.size_append]; omega, R3.out.mono (by omega), B3.out⟩ | exact ⟨_, rfl, by simp [ByteArray.size_append]; omega, R1.out.mono (by omega), B1.out⟩
/-- the same, at an Int -/
theorem l91FieldI (rb k : Nat) (T NM : ByteArray) (g : Int) (hg0 : 0 ≤ g) (hg : g ≤ 999999) (hn : NM.size ≤ 10) (w : World) (H : Rd w rb k) (hk : k ≤ 900000) :
    Calls Tryz.prog 121 #[.pointer (some ⟨rb, 0, none⟩), .string T, .int .i64 g, .string NM] w fun e w' => Drew 130 rb (k + 9) w e w' := by
  obtain ⟨n, rfl⟩ := Int.eq_ofNat_of_zero_le hg0
  exact l91Field rb k T NM n (by omega) hn w H hk
set_option maxRecDepth 20000 in
set_option maxHeartbeats 2000000 in
theorem l91Type (rb k : Nat) (T NM : ByteArray) (hT : T.size ≤ 1) (hT1 : 1 ≤ T.size) (hn : NM.size ≤ 1) (w : World) (H : Rd w rb k) (hk : k ≤ 800000) :
    Calls Tryz.prog 82 #[.pointer (some ⟨rb, 0, none⟩), .string T, .string NM] w fun e w' => ∃ s : ByteArray, e = .returned (.string s) ∧ 1 ≤ s.size ∧ s.size ≤ 600 ∧ Rd w' rb (k + 50) ∧ Beside rb w w' := by
  have R0 := H.lt
  have HH := hid H
  have kc1 := fun W a c (q : Int) h => run_convert_one (P := Tryz.prog) 28 9 5 Tryz.underlying28 Tryz.underlying5 Tryz.underlying9 W a c q h
  have c61 : (⟨#[61]⟩ : ByteArray).size = 1 := rfl
  have c44 : (⟨#[44]⟩ : ByteArray).size = 1 := rfl
  have c10 : (⟨#[10]⟩ : ByteArray).size = 1 := rfl
  clear H
  go_enter Tryz.func82, Tryz.ntmps82
  go_wp2_with (first | (go_at_call 44; have _u := hR1; refine (pick rb (k + 1) 8 _ hR1 (by omega) (by omega)).mono ?_; rintro e w2 ⟨v2, rfl, hv2, _, hR2, hBs2⟩; have B2 := Lib.hid (B1.out.trans hBs2); clear hBs2 hv2; rcases (Bool.eq_false_or_eq_true (v2 == (0 : Int))) with hq | hq) | (go_at_call 44; refine (pick rb k 4 _ HH.out (by omega) (by omega)).mono ?_; rintro e w1 ⟨v1, rfl, hv1, _, hR1, hBs⟩; obtain ⟨hv10, hv11⟩ := hv1 (by omega); have B1 := Lib.hid hBs; clear hBs))
  all_goals
    go_loopw [7, 8, 10] (fun s tg iv wr => ∃ (S : ByteArray) (t : Int) (i : Nat), s = .string S ∧ tg = .int .i64 t ∧ iv = .int .i64 i ∧ i ≤ 4 ∧ 0 ≤ t ∧ t ≤ 3 * i ∧ S.size ≤ 3 + 140 * i ∧ 1 ≤ S.size ∧ Rd wr rb (k + 2 + 11 * i) ∧ Hid (Beside rb w wr)) (fun _ _ v _ => 4 - (RowKit.intOf v).toNat)
    case atStart => exact ⟨_, _, 0, rfl, rfl, rfl, by omega, by omega, by omega, by simp [ByteArray.size_append]; omega, by simp [ByteArray.size_append]; omega, by first | exact hR2 | exact hR1.mono (by omega), by first | exact B2 | exact B1⟩
    case round =>
      obtain ⟨S, t, i, rfl, rfl, rfl, hi4, ht0, ht1, hS, hS1, hR, hB⟩ := hrel
      go_wp2_with (first | (go_at_call 121; have _u := hR7; refine (l91FieldI rb (k + 2 + 11 * i + 2) T ⟨#[112 + UInt8.ofNat i]⟩ _ (by omega) (by omega) (show (1 : Nat) ≤ 10 by omega) _ (hR7.alloc _) (by omega)).mono ?_; rintro e w8 ⟨F, rfl, hF, hR8, hBs8⟩; have B8 := Lib.hid ((B7.out.alloc _).trans hBs8); clear hBs8) | (go_at_call 44; have _u := hR6; refine (pick rb (k + 2 + 11 * i + 1) 2 _ hR6 (by omega) (by omega)).mono ?_; rintro e w7 ⟨v7, rfl, hv7, _, hR7, hBs7⟩; obtain ⟨hv70, hv71⟩ := hv7 (by omega); have B7 := Lib.hid (B6.out.trans hBs7); clear hBs7; rcases (show v7 = 0 ∨ v7 = 1 by omega) with rfl | rfl) | (go_at_call 44; refine (pick rb (k + 2 + 11 * i) 3 _ hR (by omega) (by omega)).mono ?_; rintro e w6 ⟨v6, rfl, hv6, _, hR6, hBs6⟩; obtain ⟨hv60, hv61⟩ := hv6 (by omega); have B6 := Lib.hid (hB.out.trans hBs6); clear hBs6))
      all_goals first | (go_roundw; (case rel => exact ⟨_, _, i + 1, rfl, rfl, by go_num, by omega, by omega, by omega, by simp [ByteArray.size_append]; omega, by simp [ByteArray.size_append]; omega, hR8.mono (by omega), B8⟩); (case measure => simp [RowKit.intOf]; omega)) | (go_ret; exact ⟨_, rfl, by simp [ByteArray.size_append]; omega, by simp [ByteArray.size_append]; omega, hR.mono (by omega), hB.out⟩)
end Go.Proofs.YtmdacedmjbiekaaGreatDoor

namespace Go.Proofs.YtmdacedmjbiekaaGreatDoor
open Go.ChangeShapes Go.WideShapes Go.ChangeAt Go.RowKit Go.Lib
set_option linter.unusedVariables false
set_option linter.unusedSimpArgs false
theorem mem_pos {x : ByteArray} {l : List (List UInt8)} (h : x.data.toList ∈ l) (hl : (l.all fun n => decide (1 ≤ n.length)) = true) : 1 ≤ x.size := by
  have := List.all_eq_true.1 hl _ h
  have h2 : 1 ≤ x.data.toList.length := by simpa using this
  rw [size_list] at h2
  exact h2
/-- an element of a row of texts, each of at most so many bytes -/
theorem el_picks (m : Nat) (l : List (List UInt8)) (v : Int) (h0 : 0 ≤ v) (h1 : v < l.length) (hl : (l.all fun n => decide (n.length ≤ m)) = true) : ∃ x : ByteArray, x.size ≤ m ∧ x.data.toList ∈ l ∧ ∀ h : v.toNat < (l.map tx).length, (l.map tx)[v.toNat]'h = .string x := by
  have hv : v.toNat < l.length := by omega
  have := List.all_eq_true.1 hl l[v.toNat] (List.getElem_mem _)
  exact ⟨⟨(l[v.toNat]).toArray⟩, by simpa [tx_size] using this, List.getElem_mem _, fun h => by rw [List.getElem_map]⟩
set_option maxRecDepth 20000 in
set_option maxHeartbeats 2000000 in
theorem l91Schema (rb k : Nat) (w : World) (H : Rd w rb k) (hk : k ≤ 700000) :
    Calls Tryz.prog 42 #[.pointer (some ⟨rb, 0, none⟩)] w fun e w' => ∃ s : ByteArray, e = .returned (.string s) ∧ s.size ≤ 1900 ∧ Rd w' rb (k + 170) ∧ Beside rb w w' := by
  have R0 := H.lt
  have HH := hid H
  clear H
  go_enter Tryz.func42, Tryz.ntmps42
  go_upto_region 2 with (first | (go_at_call 82; have _u := hR5; refine (l91Type rb (k + 102) x2 ⟨#[99]⟩ hx21 hx22 (show (1 : Nat) ≤ 1 by omega) _ hR5 (by omega)).mono ?_; rintro e w6 ⟨S3, rfl, hS31, hS32, hR6, hBs6⟩; have B6 := Lib.hid (B5.out.trans hBs6); clear hBs6) | (go_at_call 44; have _u := hR4; refine (pick rb (k + 101) 3 _ (hR4.alloc _) (by omega) (by omega)).mono ?_; rintro e w5 ⟨v5, rfl, hv5, _, hR5, hBs5⟩; obtain ⟨hv50, hv51⟩ := hv5 (by omega); obtain ⟨x2, hx21, hx2m, hx2c⟩ := cell_picks 1 [[82], [69], [85]] hBs5 hR4.lt v5 hv50 hv51 (by decide); have hx22 := mem_pos hx2m (by decide); have B5 := Lib.hid ((B4.out.alloc _).trans hBs5); clear hBs5) | (go_at_call 82; have _u := hR3; refine (l91Type rb (k + 51) x1 ⟨#[98]⟩ hx11 hx12 (show (1 : Nat) ≤ 1 by omega) _ hR3 (by omega)).mono ?_; rintro e w4 ⟨S2, rfl, hS21, hS22, hR4, hBs4⟩; have B4 := Lib.hid (B3.out.trans hBs4); clear hBs4) | (go_at_call 44; have _u := hR2; refine (pick rb (k + 50) 4 _ (hR2.alloc _) (by omega) (by omega)).mono ?_; rintro e w3 ⟨v3, rfl, hv3, _, hR3, hBs3⟩; obtain ⟨hv30, hv31⟩ := hv3 (by omega); obtain ⟨x1, hx11, hx1m, hx1c⟩ := cell_picks 1 [[82], [85], [85], [69]] hBs3 hR2.lt v3 hv30 hv31 (by decide); have hx12 := mem_pos hx1m (by decide); have B3 := Lib.hid ((B2.out.alloc _).trans hBs3); clear hBs3) | (go_at_call 82; refine (l91Type rb k ⟨#[82]⟩ ⟨#[97]⟩ (show (1 : Nat) ≤ 1 by omega) (show (1 : Nat) ≤ 1 by omega) (show (1 : Nat) ≤ 1 by omega) _ HH.out (by omega)).mono ?_; rintro e w2 ⟨S1, rfl, hS11, hS12, hR2, hBs2⟩; have B2 := Lib.hid hBs2; clear hBs2))
  go_cut [3, 30] from 23 (fun s3 s30 wx => ∃ (S : ByteArray) (b : Bool), s3 = .string S ∧ s30 = .bool b ∧ 1 ≤ S.size ∧ S.size ≤ 1800 ∧ Rd wx rb (k + 160) ∧ Hid (Beside rb w wx))
  case first =>
    have hsz : (S1 ++ S2 ++ S3).size ≤ 1800 := by simp [ByteArray.size_append]; omega
    have hsz1 : 1 ≤ (S1 ++ S2 ++ S3).size := by simp [ByteArray.size_append]; omega
    have HSO := hid fun wz => schemaOk_s (S1 ++ S2 ++ S3) wz (by omega)
    obtain ⟨B, hB⟩ : ∃ B, okL (S1 ++ S2 ++ S3).data.toList = B := ⟨_, rfl⟩
    rw [hB] at HSO
    clear hB
    go_wp2_with (first | (go_at_call 44; have _u := hR7; refine (pick rb (k + 152) 8 _ hR7 (by omega) (by omega)).mono ?_; rintro e w8 ⟨v8, rfl, hv8, _, hR8, hBs8⟩; have B8 := Lib.hid (B7.out.trans hBs8); clear hBs8) | (go_at_call 83; refine (HSO.out _).mono ?_; rintro e w7 ⟨rfl, hb7⟩; have hR7 := hR6.below hb7 hR6.lt; have B7 := Lib.hid (B6.out.trans (Beside.of_below hb7 (Nat.le_refl _))); clear hb7))
    all_goals go_meet
    all_goals exact ⟨_, _, rfl, rfl, hsz1, hsz, by first | exact hR8.mono (by omega) | exact hR7.mono (by omega), by first | exact B8 | exact B7⟩
  case rest =>
    obtain ⟨S, b, rfl, rfl, hS1, hS2, hR, hB⟩ := hcut
    go_upto_if 30 with fail
    go_cut [3] from 23 (fun s3 wx => ∃ (S' : ByteArray), s3 = .string S' ∧ 1 ≤ S'.size ∧ S'.size ≤ 1800 ∧ wx = wc)
    case first =>
      cases b
      · go_wp2_with fail
        go_meet
        exact ⟨S, rfl, hS1, hS2, rfl⟩
      · go_wp2_with fail
        go_meet
        exact ⟨_, rfl, by decide, by decide, rfl⟩
    case rest =>
      obtain ⟨S', rfl, hS3, hS4, rfl⟩ := hcut
      go_wp2_with (first | (go_at_call 44; have _u := hR9; refine (pick rb (k + 161) S'.size _ hR9 (by omega) (by omega)).mono ?_; rintro e w10 ⟨v10, rfl, hv10, _, hR10, hBs10⟩; obtain ⟨hv100, hv101⟩ := hv10 (by omega); obtain ⟨n10, rfl⟩ := Int.eq_ofNat_of_zero_le hv100; have B10 := Lib.hid (B9.out.trans hBs10); clear hBs10 hv10) | (go_at_call 44; refine (pick rb (k + 160) 24 _ hR (by omega) (by omega)).mono ?_; rintro e w9 ⟨v9, rfl, hv9, _, hR9, hBs9⟩; have B9 := Lib.hid (hB.out.trans hBs9); clear hBs9 hv9))
      · have kk1 : n10 < S'.size := by omega
        have kk2 : n10 ≤ S'.size := by omega
        have kk3 : n10 + 1 ≤ S'.size := by omega
        have kk4 : (0 : Int) ≤ (n10 : Int) + 1 := by omega
        have kk5 : (n10 : Int) + 1 ≤ (S'.size : Int) := by omega
        have kw : IntKind.i64.wrap ((n10 : Int) + 1) = (n10 : Int) + 1 := by
          have := wrap_nat_i64 (n10 + 1) (by omega)
          rw [show ((n10 + 1 : Nat) : Int) = (n10 : Int) + 1 by omega] at this
          exact this
        have ks : ∀ wz, (Instr.slice 9 (.string S') (some (.int .i64 ((n10 : Int) + 1))) none none).run Tryz.prog wz = .ok (.string (S'.extract (n10 + 1) S'.size)) wz := fun wz => run_slice_string_l wz 9 S' Tryz.underlying9 .i64 ((n10 : Int) + 1) kk4 kk5
        go_region_with (first | (go_at_call 44; refine (pick rb (k + 162) 5 _ ((hR10.alloc _).drewN 1) (by omega) (by omega)).mono ?_; rintro e w11 ⟨v11, rfl, hv11, _, hR11, hBs11⟩; obtain ⟨hv110, hv111⟩ := hv11 (by omega); obtain ⟨x, hx0, hxm, hxc⟩ := cell_picks 1 [[], [44], [58], [49], [10]] (w1 := w10) (Beside.trans (Beside.drew (Beside.refl _ _)) hBs11) hR10.lt v11 hv110 hv111 (by decide); have a1 := fun wz => run_string_add_sum (P := Tryz.prog) (w := wz) (S'.extract 0 n10) x (by rw [ByteArray.size_extract]; omega); have a2 := fun wz => run_string_add_sum (P := Tryz.prog) (w := wz) (S'.extract 0 n10 ++ x) (S'.extract (n10 + 1) S'.size) (by rw [ByteArray.size_append, ByteArray.size_extract, ByteArray.size_extract]; omega); have B11 := Lib.hid (((B10.out.alloc _).drew).trans hBs11); clear hBs11 hv11) | (go_at_call 44; refine (pick rb (k + 162) 5 _ (hR10.drewN 1) (by omega) (by omega)).mono ?_; rintro e w11 ⟨v11, rfl, hv11, _, hR11, hBs11⟩; obtain ⟨hv110, hv111⟩ := hv11 (by omega); obtain ⟨x, hx0, hxm, hxc⟩ := el_picks 1 [[], [44], [58], [49], [10]] v11 hv110 hv111 (by decide); have hel : ∀ h, [Value.string ⟨#[]⟩, Value.string ⟨#[44]⟩, Value.string ⟨#[58]⟩, Value.string ⟨#[49]⟩, Value.string ⟨#[10]⟩][v11.toNat]'h = .string x := (fun h => hxc h); clear hxc; have a1 := fun wz => run_string_add_sum (P := Tryz.prog) (w := wz) (S'.extract 0 n10) x (by rw [ByteArray.size_extract]; omega); have a2 := fun wz => run_string_add_sum (P := Tryz.prog) (w := wz) (S'.extract 0 n10 ++ x) (S'.extract (n10 + 1) S'.size) (by rw [ByteArray.size_append, ByteArray.size_extract, ByteArray.size_extract]; omega); have B11 := Lib.hid ((B10.out.drew).trans hBs11); clear hBs11 hv11))
        all_goals go_wp2_with fail
        all_goals go_ret
        all_goals exact ⟨_, rfl, by rw [ByteArray.size_append, ByteArray.size_append, ByteArray.size_extract, ByteArray.size_extract]; omega, by first | exact hR11.mono (by omega) | exact (hR11.alloc _).mono (by omega), by first | exact B11.out | exact B11.out.alloc _⟩
      · go_ret
        exact ⟨S', rfl, by omega, hR9.mono (by omega), B9.out⟩
end Go.Proofs.YtmdacedmjbiekaaGreatDoor

namespace Go.Proofs.YtmdacedmjbiekaaGreatDoor
open Go.ChangeShapes Go.WideShapes Go.ChangeAt Go.RowKit Go.Lib
set_option linter.unusedVariables false
set_option linter.unusedSimpArgs false
/-- a slice of n numbers, of which the first i are marks -/
def MarkedI (w : World) (b o k n i : Nat) : Prop := b < w.heap.size ∧ ∀ j, j < n → ∃ s : Int, w.cell? ⟨b, o + j, none⟩ = some (.int .i64 s) ∧ w.frozen? ⟨b, o + j, none⟩ = false ∧ (j < i → s = ((k + j : Nat) : Int))
theorem MarkedI.step {w : World} {b o k n i : Nat} (h : MarkedI w b o k n i) (hi : i < n) : MarkedI (w.setCell ⟨b, o + i, none⟩ (.int .i64 ((k : Int) + i))) b o k n (i + 1) := by
  obtain ⟨h1, h2⟩ := h
  refine ⟨Nat.lt_of_lt_of_le h1 (by simp), fun j hj => ?_⟩
  obtain ⟨s, h3, h4, h5⟩ := h2 j hj
  by_cases hji : j = i
  · subst hji
    exact ⟨_, World.cell?_setCell_same w _ _ h3, by simpa using h4, fun _ => by simp⟩
  · exact ⟨s, (World.cell?_setCell_other w _ _ _ (by first | (simp; done) | (simp; omega))).trans h3, by simpa using h4, fun hlt => h5 (by omega)⟩
end Go.Proofs.YtmdacedmjbiekaaGreatDoor

namespace Go.Proofs.YtmdacedmjbiekaaGreatDoor
open Go.ChangeShapes Go.WideShapes Go.ChangeAt Go.RowKit Go.Lib
set_option linter.unusedVariables false
theorem ml_of (w : World) (h : w.ShapedOpen Tryz.prog) : ∃ m, ML m w := Tryz.laysM145.s1_3 w h
theorem RowAt.lt {w : World} {b : Nat} {v : Value} {xs : List Value} (h : RowAt w b v xs) : xs = [] ∨ b < w.heap.size := by
  obtain ⟨a, cap, h1, h2, h3, h4 | ⟨o, h5, h6, h7⟩⟩ := h
  · exact .inl h4
  · exact .inr h6
theorem ML.drewN {m : Int} {w : World} (h : ML m w) (n : Nat) : ML m (w.drewN n) := h.below (bel_drewN (Below.refl _ _) n)
theorem ML.beside {m : Int} {w w' : World} {rb : Nat} (h : ML m w) (hb : Beside rb w w') (hn : 0 ≠ rb) : ML m w' := (hb.cell (p := ⟨0, 0, none⟩) h.lt hn).trans h
theorem ML.ne {m : Int} {w : World} {k : Nat} (h : ML m w) (hk : w.heap.size ≤ k) : 0 ≠ k := by have := h.lt; omega
end Go.Proofs.YtmdacedmjbiekaaGreatDoor

namespace Go.Proofs.YtmdacedmjbiekaaGreatDoor
open Go.ChangeShapes Go.WideShapes Go.ChangeAt Go.RowKit Go.Lib
set_option linter.unusedVariables false
set_option linter.unusedSimpArgs false
end Go.Proofs.YtmdacedmjbiekaaGreatDoor

namespace Wf
set_option linter.unusedVariables false
set_option linter.unusedSimpArgs false
theorem stands_le {x : Sc} (hx : ScOk x) : ∀ (n : Nat) (k : K), (stands x n k).length ≤ 7 + 9 * n := by
  intro n
  induction n with
  | zero => intro k; cases k <;> simp [stands]
  | succ n ih =>
    intro k
    cases k with
    | ref nm =>
      simp only [stands]
      cases ht : x.find nm with
      | none => simp
      | some t =>
        dsimp only
        split
        · simp; omega
        · cases hf : t.fields with
          | nil => simp
          | cons f fs =>
            dsimp only
            have hfo := (hx.tys t (find_mem ht).1).fds f (by rw [hf]; simp)
            have hd : (dec f.tag).length ≤ 3 := dec_len f.tag 2 (by have := hfo.tag2; omega)
            have := ih f.kind
            split
            · simp; omega
            · simp; omega
    | _ => simp [stands] <;> omega
theorem standF_le {x : Sc} (hx : ScOk x) {t : Ty} (ht : t ∈ x) {f : Fd} (hf : f ∈ t.fields) : (standF x f).length ≤ 88 := by
  unfold standF
  by_cases hg : f.given = []
  · rw [if_pos hg]
    exact stands_le hx 9 f.kind
  · rw [if_neg hg]
    have h := (((hx.tys t ht).fds f hf).given hg).2
    cases hk : f.kind with
    | num =>
      rw [hk] at h
      simp only [stOk] at h
      cases hp : plainN f.given 999999 with
      | none => rw [hp] at h; simp at h
      | some m =>
        obtain ⟨h1, h2, _⟩ := plainN_some hp
        rw [h1]
        have := dec_len6 h2
        omega
    | txt =>
      rw [hk] at h
      simp only [stOk, Bool.and_eq_true] at h
      obtain ⟨b, hb, _, hl⟩ := quoted_iff.1 h.1
      rw [hb]
      simp; omega
    | flag => rw [hk] at h; simp only [stOk, decide_eq_true_eq] at h; rw [h]; simp
    | ref n => rw [hk] at h; simp [stOk] at h
    | list k => rw [hk] at h; simp [stOk] at h
    | opt k => rw [hk] at h; simp [stOk] at h
/-- the standing value of a field is a value of its kind -/
theorem standF_in {x : Sc} (hx : ScOk x) {t : Ty} (ht : t ∈ x) (hs : t.sort ≠ 69) {f : Fd} (hf : f ∈ t.fields) : ∃ o, valIn x f.kind (standF x f) = some o ∧ o.print = standF x f := by
  obtain ⟨o, h1, h2⟩ := standF_value hx ht hs hf
  have hd := (typed_deep _ _ _ h1).2
  have hl := standF_le hx ht hf
  have := valIn_print h1 (by omega) (by rw [h2]; omega)
  rw [h2] at this
  exact ⟨o, this, h2⟩
end Wf

namespace Go.Proofs.YtmdacedmjbiekaaGreatDoor
open Go.ChangeShapes Go.WideShapes Go.ChangeAt Go.RowKit Go.Lib
set_option linter.unusedVariables false
set_option linter.unusedSimpArgs false
theorem parseK_own {s : List UInt8} {k : Wf.K} (h : Wf.parseK s = some k) : Wf.parseK k.text = some k := by
  have h0 := h
  unfold Wf.parseK at h
  split at h
  · rw [Wf.kindIn_text h]; exact h0
  · cases h
theorem kindOf_field {l nm : List UInt8} {x : Wf.Sc} {t : Wf.Ty} {f : Wf.Fd} (h : typeIn l nm = some (x, t)) (hf : f ∈ t.fields) (h69 : t.sort ≠ 69) : kindOf l f.kind.text = some (x, f.kind) := by
  obtain ⟨hs, hx, _, ht⟩ := typeIn_ok h
  obtain ⟨s, hk⟩ := ((hx.tys t ht).fds f hf).kind h69
  unfold kindOf
  rw [hs]
  dsimp only
  rw [parseK_own hk]
  dsimp only
  rw [if_pos (hx.refs t ht h69 f hf)]
theorem field_cases (l nm : List UInt8) (g : Int) : fieldV l nm g = .tuple #[.string ⟨#[]⟩, .string ⟨#[]⟩, .string ⟨#[]⟩, .bool false] ∨ (∃ T, fieldV l nm g = .tuple #[.string T, .string ⟨#[]⟩, .string ⟨#[]⟩, .bool true]) ∨ ∃ T U V : ByteArray, fieldV l nm g = .tuple #[.string T, .string U, .string V, .bool true] ∧ U.size ≤ 12 ∧ V.size ≤ 88 ∧ U.toList.isEmpty = false ∧ vOkB l U.data.toList V.data.toList = true := by
  unfold fieldV
  cases h : typeIn l nm with
  | none => exact .inl rfl
  | some y =>
    obtain ⟨x, t⟩ := y
    dsimp only
    cases hf : fieldI t g with
    | none => exact .inl rfl
    | some f =>
      right
      dsimp only
      by_cases h69 : t.sort = 69
      · rw [if_pos h69]
        exact .inl ⟨_, rfl⟩
      · rw [if_neg h69]
        have hfm := (fieldI_mem hf).1
        obtain ⟨_, hx, _, ht⟩ := typeIn_ok h
        have hk := kindOf_field h hfm h69
        obtain ⟨o, ho, hop⟩ := Wf.standF_in hx ht h69 hfm
        refine .inr ⟨_, _, _, rfl, ?_, ?_, ?_, ?_⟩
        · rw [tx_size]; exact fd_kind ((hx.tys t ht).fds f hfm)
        · rw [tx_size]; exact Wf.standF_le hx ht hfm
        · rw [ByteArray.toList_eq, List.isEmpty_eq_false_iff]
          show f.kind.text ≠ []
          cases f.kind <;> simp [Wf.K.text]
        · show (valOf l f.kind.text (Wf.standF x f)).isSome = true
          unfold valOf
          rw [hk]
          dsimp only
          rw [ho]
          rfl
set_option maxRecDepth 20000 in
theorem drawSchemaField (w : World) (a : Option Addr) (len cap : Nat) (h : Bytes w w.heap.size a len cap) : Calls Tryz.prog 19 #[.slice a len cap] w fun e w' => ∃ (s nm : ByteArray) (g : Int), e = .returned (.tuple #[.string s, .string nm, .int .i64 g]) ∧ s.size ≤ 1900 ∧ nm.size ≤ 4 ∧ Below w.heap.size w w' := by
  have HO := Lib.hid (openRd w a len cap h)
  clear h
  go_enter Tryz.func19, Tryz.ntmps19
  go_wp2_with (first | (go_at_call 44; have _u := hR4; refine (pick rb 172 8 _ hR4 (by omega) (by omega)).mono ?_; rintro e w4 ⟨g, rfl, hg, _, hR5, hBs5⟩; have hB4 := Lib.hid (Beside.below hB3.out hB3.out.size hrb hBs5)) | (go_at_call 43; refine (l91Name rb 170 _ hR3.out (by omega)).mono ?_; rintro e w3 ⟨nm, rfl, hnm, hR4, hBs4⟩; have hB3 := Lib.hid (Beside.below hB2.out hB2.out.size hrb hBs4)) | (go_at_call 42; refine (l91Schema rb 0 _ hR.out (by omega)).mono ?_; rintro e w2 ⟨s, rfl, hs, hR2, hBs⟩; have hB2 := Lib.hid (Beside.below hB.out hB.out.size hrb hBs); have hR3 := hid (hR2.mono (show 0 + 170 ≤ 170 by omega)); clear hBs) | (go_at_call 41; refine HO.out.mono ?_; rintro e w1 ⟨rb, rfl, hrb, hR1, hB1⟩; have hR := hid hR1; have hB := hid hB1; clear hR1 hB1))
  exact bodyPost_ret (v := .tuple #[.string s, .string nm, .int .i64 g]) (by simp [results, Tryz.results19, go_sem, *]) rfl ⟨_, _, _, rfl, hs, hnm, hB4.out⟩
end Go.Proofs.YtmdacedmjbiekaaGreatDoor
