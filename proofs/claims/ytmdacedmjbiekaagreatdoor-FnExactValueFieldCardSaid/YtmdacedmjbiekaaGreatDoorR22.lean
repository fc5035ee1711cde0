/- The reference reads a value of a plain kind. -/
import Derived.Test.YtmdacedmjbiekaaGreatDoorR21
import Derived.Test.YtmdacedmjbiekaaGreatDoorR9
namespace Go.Proofs.YtmdacedmjbiekaaGreatDoor
open Go.ChangeShapes Go.WideShapes Go.ChangeAt Go.RowKit Go.Lib
set_option linter.unusedVariables false
set_option linter.unusedSimpArgs false
/-- what a reading of the reference's gives -/
def LrOut (o : Option (Wf.V × List UInt8)) (w : World) (e : Ending) (w' : World) : Prop := match o with
  | some y => ∃ b, e = .returned (.tuple #[ptr b, tx y.2, .bool true]) ∧ LV w' (fun z => w.heap.size ≤ z) y.1 b
  | none => ∃ (p : Option Addr) (r : ByteArray), e = .returned (.tuple #[.pointer p, .string r, .bool false])
theorem LrOut.no {o : Option (Wf.V × List UInt8)} {w w' : World} {e : Ending} (h : o = none) (he : ∃ (p : Option Addr) (r : ByteArray), e = .returned (.tuple #[.pointer p, .string r, .bool false])) : LrOut o w e w' := by
  subst h; exact he
theorem LrOut.yes {o : Option (Wf.V × List UInt8)} {w w' : World} {e : Ending} {v : Wf.V} {r : List UInt8} (h : o = some (v, r)) (he : ∃ b, e = .returned (.tuple #[ptr b, tx r, .bool true]) ∧ LV w' (fun z => w.heap.size ≤ z) v b) : LrOut o w e w' := by
  subst h; exact he
theorem row_nil (w : World) (b : Nat) : RowAt w b (.slice none 0 0) [] := ⟨none, 0, rfl, Nat.le_refl _, by unfold maxLen; omega, .inl rfl⟩
/-- a value without parts and tags lies in a new block -/
theorem LV.new {w W : World} {P : Nat → Prop} {what : UInt8} {text kd t : List UInt8} {tag : Nat} (h61 : what ≠ 61) (hs : shapeR what text kd t) (ht : tagsOf what tag [] = []) (hp : P w.heap.size) (hlt : w.heap.size < W.heap.size)
    (c0 : W.cell? ⟨w.heap.size, 0, none⟩ = some (tx kd)) (c1 : W.cell? ⟨w.heap.size, 1, none⟩ = some (tx t)) (c2 : W.cell? ⟨w.heap.size, 2, none⟩ = some (.slice none 0 0)) (c3 : W.cell? ⟨w.heap.size, 3, none⟩ = some (.slice none 0 0)) : LV W P (.mk what text tag []) w.heap.size :=
  LV.mk (bs := []) (tb := 0) (kb := 0) h61 hp hlt c0 c1 c2 c3 (by rw [ht]; exact row_nil _ _) (.inl ht) (row_nil _ _) (.inl rfl) hs (by simp only [LVs])
set_option maxRecDepth 20000 in
set_option maxHeartbeats 1000000 in
theorem plain_num (x : Wf.Sc) (n : Nat) (v : Value) (S : ByteArray) (hS : S.size ≤ 1048576) (w : World) : Calls Tryz.prog 97 #[.agg #[v], .string S, tx [110]] w fun e w' => LrOut (Wf.parse x (n + 1) .num S.data.toList) w e w' ∧ Below w.heap.size w w' := by
  have HDG := hid fun wz => l4Digits S wz hS
  have hle : (S.extract 0 (S.data.toList.takeWhile Wf.isDig).length).size ≤ 9223372036854775807 := by rw [ByteArray.size_extract]; omega
  have hnum := fun wz => l3Num (S.extract 0 (S.data.toList.takeWhile Wf.isDig).length) 999999 (by omega) wz hle
  rw [pre_list] at hnum
  obtain ⟨T, hT⟩ : ∃ T, (S.data.toList.takeWhile Wf.isDig).length = T := ⟨_, rfl⟩
  have hTle : T ≤ S.size := by rw [← hT, ← size_list]; exact tw_le _ _
  have k1 := sl_pre S T hTle
  have k2 := sl_suf S T hTle
  have HX := hid (show S.extract 0 T = ⟨(S.data.toList.takeWhile Wf.isDig).toArray⟩ by rw [eq_list, ← hT, pre_list])
  have HR := hid (show S.extract T S.size = ⟨(S.data.toList.dropWhile Wf.isDig).toArray⟩ by rw [eq_list, suf_list, ← hT, tw_drop])
  rw [hT] at HDG hnum
  obtain ⟨X1, hX1⟩ : ∃ X1, S.extract 0 T = X1 := ⟨_, rfl⟩
  obtain ⟨X2, hX2⟩ : ∃ X2, S.extract T S.size = X2 := ⟨_, rfl⟩
  rw [hX1] at k1 HX hnum
  rw [hX2] at k2 HR
  cases hp : Wf.plainN (S.data.toList.takeWhile Wf.isDig) 999999 with
  | none =>
    have HP := hid (show Wf.parse x (n + 1) .num S.data.toList = none by rw [Wf.parse_num, Wf.numTok, hp]; rfl)
    have HNUM := hid fun wz => (hnum wz).mono (R' := fun e w' => (∃ m : Int, e = .returned (.tuple #[.int .i64 m, .bool false])) ∧ Below wz.heap.size wz w') fun e w' ⟨h1, h2⟩ => ⟨by unfold NumOut at h1; rw [hp] at h1; exact h1, h2⟩
    clear hnum hp hT hX1 hX2
    go_enter Tryz.func97, Tryz.ntmps97
    go_wp2_with (first | (go_at_call 135; refine (HNUM.out _).mono ?_; rintro e w2 ⟨⟨m, rfl⟩, hb2⟩; have B2 := hid (below_join ((Below.refl _ _).alloc (Nat.le_refl _) _) hb2); clear hb2) | (go_at_call 134; refine (HDG.out _).mono ?_; rintro e w1 ⟨rfl, rfl⟩))
    go_region
    all_goals (go_wp2_with fail)
    all_goals exact bodyPost_ret (v := .tuple #[ptr w2.heap.size, .string X2, .bool false]) (by simp [results, Tryz.results97, go_sem, *]) rfl ⟨LrOut.no HP.out ⟨_, _, rfl⟩, by have BB := B2.out; have hB := BB.size; repeat (first | with_reducible exact BB | with_reducible refine Below.drew ?_ | with_reducible refine Below.alloc ?_ (by first | exact BB.size | (simp; omega)) _)⟩
  | some g =>
    have HP := hid (show Wf.parse x (n + 1) .num S.data.toList = some (.mk 110 (S.data.toList.takeWhile Wf.isDig) 0 [], S.data.toList.dropWhile Wf.isDig) by rw [Wf.parse_num, Wf.numTok, hp, (Wf.plainN_some hp).1]; rfl)
    have HNUM := hid fun wz => (hnum wz).mono (R' := fun e w' => e = .returned (.tuple #[.int .i64 g, .bool true]) ∧ Below wz.heap.size wz w') fun e w' ⟨h1, h2⟩ => ⟨by unfold NumOut at h1; rw [hp] at h1; exact h1, h2⟩
    clear hnum hp hT hX1 hX2
    go_enter Tryz.func97, Tryz.ntmps97
    go_wp2_with (first | (go_at_call 135; refine (HNUM.out _).mono ?_; rintro e w2 ⟨rfl, hb2⟩; have B2 := hid (below_join ((Below.refl _ _).alloc (Nat.le_refl _) _) hb2); clear hb2) | (go_at_call 134; refine (HDG.out _).mono ?_; rintro e w1 ⟨rfl, rfl⟩))
    go_region
    all_goals (go_wp2_with fail)
    all_goals exact bodyPost_ret (v := .tuple #[ptr w2.heap.size, .string X2, .bool true]) (by simp [results, Tryz.results97, go_sem, *]) rfl (by
      have hR : ∀ W3 : World, W3.heap.size = w2.heap.size → Below w.heap.size w W3 → (LrOut (Wf.parse x (n + 1) .num S.data.toList) w (.returned (.tuple #[ptr w2.heap.size, .string X2, .bool true])) (W3.alloc (.cells #[tx [110], .string X1, .slice none 0 0, .slice none 0 0] 142)) ∧ Below w.heap.size w (W3.alloc (.cells #[tx [110], .string X1, .slice none 0 0, .slice none 0 0] 142))) := fun W3 h1 h2 => by
        refine ⟨LrOut.yes HP.out ⟨w2.heap.size, by rw [HR.out], ?_⟩, h2.alloc h2.size _⟩
        rw [← h1]
        rw [HX.out]
        exact LV.new (kd := [110]) (t := S.data.toList.takeWhile Wf.isDig) (by decide) ⟨rfl, rfl⟩ rfl (h2.size) (by simp) (by simp [go_sem]) (by simp [go_sem]) (by simp [go_sem]) (by simp [go_sem])
      first | exact hR w2 rfl B2.out | exact hR w2.drew rfl B2.out.drew)
theorem quoted_some {l : List UInt8} (h : Wf.quoted l = true) : l = 39 :: (l.tail.dropLast ++ [39]) := by
  obtain ⟨b, rfl, _, _⟩ := Wf.quoted_iff.1 h
  simp
theorem parse_txt_any (x : Wf.Sc) (n : Nat) (l : List UInt8) : Wf.parse x (n + 1) .txt l = if Wf.quoted (l.take (Wf.txtEnd l)) = true then some (.mk 116 (l.take (Wf.txtEnd l)).tail.dropLast 0 [], l.drop (Wf.txtEnd l)) else none := by
  cases l with
  | nil => rw [Wf.parse_nil]; rfl
  | cons a r => exact Wf.parse_txt_ref x n a r
set_option maxRecDepth 20000 in
set_option maxHeartbeats 2000000 in
theorem plain_txt (x : Wf.Sc) (n : Nat) (v : Value) (S : ByteArray) (hS : S.size ≤ 1048576) (w : World) : Calls Tryz.prog 97 #[.agg #[v], .string S, tx [116]] w fun e w' => LrOut (Wf.parse x (n + 1) .txt S.data.toList) w e w' ∧ Below w.heap.size w w' := by
  obtain ⟨E, hE⟩ : ∃ E, Wf.txtEnd S.data.toList = E := ⟨_, rfl⟩
  have hEle : E ≤ S.size := by rw [← hE, ← size_list]; exact Wf.txtEnd_le _
  have k1 := sl_pre S E hEle
  have k2 := sl_suf S E hEle
  have HX := hid (show S.extract 0 E = ⟨(S.data.toList.take E).toArray⟩ by rw [eq_list, ext_list, List.drop_zero, Nat.sub_zero])
  have HR := hid (show S.extract E S.size = ⟨(S.data.toList.drop E).toArray⟩ by rw [eq_list, suf_list])
  have htx := fun wz => l3Text (S.extract 0 E) wz (by rw [ByteArray.size_extract]; omega)
  rw [show (S.extract 0 E).data.toList = S.data.toList.take E by rw [ext_list, List.drop_zero, Nat.sub_zero]] at htx
  obtain ⟨Q, hQ⟩ : ∃ Q, Wf.quoted (S.data.toList.take E) = Q := ⟨_, rfl⟩
  have hpt := parse_txt_any x n S.data.toList
  rw [hE, hQ] at hpt
  have HP := hid hpt
  have HQ := hid hQ
  rw [hQ] at htx
  obtain ⟨X1, hX1⟩ : ∃ X1, S.extract 0 E = X1 := ⟨_, rfl⟩
  obtain ⟨X2, hX2⟩ : ∃ X2, S.extract E S.size = X2 := ⟨_, rfl⟩
  rw [hX1] at k1 HX htx
  rw [hX2] at k2 HR
  have HTX := hid htx
  obtain ⟨K, hK⟩ : ∃ K, 1 + (S.data.toList.tail.takeWhile Wf.not39).length = K := ⟨_, rfl⟩
  have hEK : E = min (K + 1) S.size := by rw [← hE, Wf.txtEnd, size_list, hK]
  have hKS : S.size ≠ 0 → K ≤ S.size := fun h => by
    rw [← hK]
    have h1 := tw_le Wf.not39 S.data.toList.tail
    rw [List.length_tail, size_list] at h1
    omega
  have HIN := hid fun (i : Nat) (h1 : 1 ≤ i) (h : i < K) => (show ∃ c, S.data.toList[i]? = some c ∧ Wf.not39 c = true by
    obtain ⟨c, hc, hp⟩ := tw_in (p := Wf.not39) (l := S.data.toList.tail) (i := i - 1) (by omega)
    rw [List.getElem?_tail, show i - 1 + 1 = i by omega] at hc
    exact ⟨c, hc, hp⟩)
  have HAT := hid fun (c : UInt8) (h : S.data.toList[K]? = some c) => (show Wf.not39 c = false by
    refine tw_at (p := Wf.not39) (l := S.data.toList.tail) ?_
    rw [List.getElem?_tail, show (S.data.toList.tail.takeWhile Wf.not39).length + 1 = K by omega]
    exact h)
  have hK1 : 1 ≤ K := by omega
  have hK2 : K ≤ 1048577 := by
    by_cases h : S.size = 0
    · rw [← hK]
      have h1 := tw_le Wf.not39 S.data.toList.tail
      rw [List.length_tail, size_list] at h1
      omega
    · have := hKS h; omega
  have hmin : min ((K : Int) + 1) (S.size : Int) = (E : Int) := by rw [hEK]; omega
  have HMIN := hid hmin
  clear hpt hQ htx hX1 hX2 hE hK hEK hKS hmin
  go_enter Tryz.func97, Tryz.ntmps97
  go_wp2_with fail
  go_loop [9] (fun v => ∃ i : Nat, 1 ≤ i ∧ i ≤ K ∧ v = .int .i64 i) (fun v => K - (RowKit.intOf v).toNat)
  case atStart => exact ⟨1, Nat.le_refl _, hK1, rfl⟩
  case round =>
    obtain ⟨i, hi1, hi, rfl⟩ := hrel
    by_cases hlt : i < K
    · obtain ⟨c', hc', hd⟩ := HIN.out i hi1 hlt
      have his : i < S.size := by rw [← size_list]; exact (List.getElem?_eq_some_iff.1 hc').1
      obtain ⟨c, hc, e1⟩ := byte_at S i his
      rw [hc] at hc'
      obtain rfl := Option.some.inj hc'
      obtain ⟨b, hb⟩ : ∃ b, c.toNat = b := ⟨_, rfl⟩
      rw [hb] at e1
      have h1 : ((b : Int) != 39) = true := by
        rw [bne_iff_ne]
        intro h
        have h39 : c = 39 := UInt8.toNat_inj.1 (by rw [hb]; show b = 39; omega)
        rw [h39] at hd
        exact absurd hd (by decide)
      clear hc hc' hd hb
      go_wp2_with fail
      go_round
      case rel => exact ⟨i + 1, by omega, by omega, by go_num⟩
      case measure => simp [RowKit.intOf]; omega
    · have hiT : i = K := by omega
      subst hiT
      have fin : ∀ b : Bool, Q = b → ∀ W3 : World, W3.heap.size = w.heap.size + 1 → Below w.heap.size w W3 → (LrOut (Wf.parse x (n + 1) .txt S.data.toList) w (.returned (.tuple #[ptr (w.heap.size + 1), .string X2, .bool b])) (W3.alloc (.cells #[tx [116], .string X1, .slice none 0 0, .slice none 0 0] 142)) ∧ Below w.heap.size w (W3.alloc (.cells #[tx [116], .string X1, .slice none 0 0, .slice none 0 0] 142))) := fun b hb W3 h1 h2 => by
        refine ⟨?_, h2.alloc h2.size _⟩
        cases b with
        | false => exact LrOut.no (by rw [HP.out, hb]; rfl) ⟨_, _, rfl⟩
        | true =>
          refine LrOut.yes (by rw [HP.out, hb, if_pos rfl]) ⟨w.heap.size + 1, by rw [HR.out], ?_⟩
          rw [← h1, HX.out]
          exact LV.new (kd := [116]) (t := S.data.toList.take E) (by decide) ⟨rfl, quoted_some (by rw [HQ.out, hb])⟩ rfl (h2.size) (by simp) (by simp [go_sem]) (by simp [go_sem]) (by simp [go_sem]) (by simp [go_sem])
      have FIN := hid fin
      clear fin
      have hmin := HMIN.out
      by_cases his : i < S.size
      · obtain ⟨c, hc, e1⟩ := byte_at S i his
        have hd := HAT.out c hc
        have h39 : c = 39 := by simpa [Wf.not39] using hd
        have hb : c.toNat = 39 := by rw [h39]; rfl
        rw [hb] at e1
        clear hc hd h39 hb
        go_wp2_with fail
        go_region_with (go_at_call 136; refine (HTX.out _).mono ?_; rintro e w1 ⟨rfl, rfl⟩)
        all_goals (go_wp2_with fail)
        all_goals exact bodyPost_ret (v := .tuple #[ptr (w.heap.size + 1), .string X2, .bool Q]) (by simp [results, Tryz.results97, go_sem, *]) rfl (by
          have B0 := (Below.refl w.heap.size w).alloc (Nat.le_refl _) (.cells #[v] 109)
          first | exact FIN.out Q rfl _ (by simp) B0 | exact FIN.out Q rfl _ (by simp) B0.drew)
      · have his2 : S.size ≤ i := by omega
        clear his
        go_wp2_with fail
        go_region_with (go_at_call 136; refine (HTX.out _).mono ?_; rintro e w1 ⟨rfl, rfl⟩)
        all_goals (go_wp2_with fail)
        all_goals exact bodyPost_ret (v := .tuple #[ptr (w.heap.size + 1), .string X2, .bool Q]) (by simp [results, Tryz.results97, go_sem, *]) rfl (by
          have B0 := (Below.refl w.heap.size w).alloc (Nat.le_refl _) (.cells #[v] 109)
          first | exact FIN.out Q rfl _ (by simp) B0 | exact FIN.out Q rfl _ (by simp) B0.drew)
end Go.Proofs.YtmdacedmjbiekaaGreatDoor
