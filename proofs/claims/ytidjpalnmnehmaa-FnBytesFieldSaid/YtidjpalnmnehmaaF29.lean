/- Packed by pack.py: Xo. -/
import Derived.Shelf.Strings.SlTrimAscii
import Derived.Shelf.Strings.Prefix
import Derived.Shelf.Strings.Cut
import Derived.Shelf.Strings.Search3
import Derived.Shelf.Strings.Split
import Derived.Shelf.Strings.SplitShaped
import Derived.Shelf.Strings.Shaped
import Derived.Shelf.Small.Wraps
import Derived.Shelf.Strings.OnBuilder
import Derived.WalkKit
import Derived.Lib.UnsafeStr
import Derived.Lib.Hide
import Derived.ProofKit
import Derived.OpenShut
import Derived.BigQuiet
import Derived.WalkSpells
import Derived.KernelRfl
import Derived.Below
import Derived.Lib.SlTrimSet
import Derived.Deep.QuietTactic
import Derived.Deep.RegionWith
import Derived.Deep.RegionHeld3
import Derived.IntWalk
import Derived.Deep.DeepCutAuto
import Derived.Lib.Split
import Derived.Lib.IndexMore
import Derived.Lib.CountLaws
import Derived.Lib.SplitLaws
import Derived.Deep.AppendLies
import Derived.Deep.RegionLaw
import Derived.Maps.Own
import Derived.Maps.OwnOps
import Derived.Maps.OwnSet
import Derived.Maps.Views
import Derived.StringKeys
import Derived.Maps.AppendAt
import Derived.Deep.CutRange
import Derived.Deep.RegionHeldLaw
import Derived.WalkSmall
import Derived.Lib.PathFns
import Derived.Deep.WholeRow
import Derived.Test.YtidjpalnmnehmaaRows
import Derived.Test.YtidjpalnmnehmaaF0
import Derived.Test.YtidjpalnmnehmaaF1
import Derived.Test.YtidjpalnmnehmaaF2
import Derived.Test.YtidjpalnmnehmaaF3
import Derived.Test.YtidjpalnmnehmaaF4
import Derived.Test.YtidjpalnmnehmaaF5
import Derived.Test.YtidjpalnmnehmaaF6
import Derived.Test.YtidjpalnmnehmaaF7
import Derived.Test.YtidjpalnmnehmaaF8
import Derived.Test.YtidjpalnmnehmaaF9
import Derived.Test.YtidjpalnmnehmaaF10
import Derived.Test.YtidjpalnmnehmaaF11
import Derived.Test.YtidjpalnmnehmaaF12
import Derived.Test.YtidjpalnmnehmaaF13
import Derived.Test.YtidjpalnmnehmaaF14
import Derived.Test.YtidjpalnmnehmaaF15
import Derived.Test.YtidjpalnmnehmaaF16
import Derived.Test.YtidjpalnmnehmaaF17
import Derived.Test.YtidjpalnmnehmaaF18
import Derived.Test.YtidjpalnmnehmaaF19
import Derived.Test.YtidjpalnmnehmaaF20
import Derived.Test.YtidjpalnmnehmaaF21
import Derived.Test.YtidjpalnmnehmaaF22
import Derived.Test.YtidjpalnmnehmaaF23
import Derived.Test.YtidjpalnmnehmaaF24
import Derived.Test.YtidjpalnmnehmaaF25
import Derived.Test.YtidjpalnmnehmaaF26
import Derived.Test.YtidjpalnmnehmaaF27
namespace Go.Proofs.Ytidjpalnmnehmaa
open Go.ChangeShapes Go.WideShapes Go.ChangeAt Go.RowKit Go.Lib
set_option linter.unusedVariables false
set_option linter.unusedSimpArgs false
theorem str_ne {S : ByteArray} {c : UInt8} {q : List UInt8} (h : S.data.toList = c :: q) : S.toList.isEmpty = false ∧ S.toList ≠ [] ∧ 0 < S.size ∧ 1 ≤ S.size ∧ (∀ h,(S[0]'h).toNat = c.toNat) ∧ (S.extract 1 S.size).data.toList = q:=by
  rcases str_guard S with ⟨h1,_⟩ | ⟨c',q',h1,h2,h3,h4,h5,h6⟩
  · rw [h] at h1;cases h1
  · rw [h] at h1
    cases h1
    exact ⟨h2,h3,h4,h4,h5,by rw [h6]⟩
section
variable (x : Wf.Sc) (v : Value) (W : World) (n : Nat) (S KT : ByteArray) (D : Int) (w : World) (o : Option (Wf.V × List UInt8))
set_option maxRecDepth 20000 in
theorem read_no (h : S.toList.isEmpty = true ∨ (S.toList.isEmpty = false ∧ decide (D < 1) = true)) (ho : o = none) : Calls Try.prog 31 #[.agg #[v], .string S, .string KT, .int .i64 D] w fun e w' => LrOut o w e w' ∧ Below w.heap.size w w':=by
  have HO:=hid ho
  clear ho
  rcases h with h | ⟨h,h2⟩
  all_goals
    go_enter Try.func31,Try.ntmps31
    go_wp2_with fail
    all_goals exact bodyPost_ret (v:=.tuple #[.pointer none, .string S, .bool false]) (by simp [results,Try.results31,go_sem, *]) rfl ⟨LrOut.no HO.out ⟨_,_,rfl⟩,(Below.refl _ _).alloc (Nat.le_refl _) _⟩
set_option maxRecDepth 20000 in
theorem read_plain (hS : S.toList.isEmpty = false) (hD : decide (D < 1) = false) (q : Nat) (hk0 : 0 < KT.size) (ek : ∀ h,(KT[0]'h).toNat = q) (hq : q = 110 ∨ q = 116 ∨ q = 102)
    (hp : ∀ wz,Calls Try.prog 47 #[.agg #[v], .string S, .string KT] wz fun e w' => LrOut o wz e w' ∧ Below wz.heap.size wz w') :
    Calls Try.prog 31 #[.agg #[v], .string S, .string KT, .int .i64 D] w fun e w' => LrOut o w e w' ∧ Below w.heap.size w w':=by
  have HP:=hid hp
  clear hp
  rcases hq with rfl | rfl | rfl
  all_goals
    go_enter Try.func31,Try.ntmps31
    go_wp2_with (go_at_call 47;refine (HP.out _).mono ?_;rintro e w7 ⟨ho,hb7⟩;obtain ⟨p,r,b,rfl,hlr⟩:=ho.form;have HLR:=hid hlr;have HB7:=hid (below_join ((Below.refl w.heap.size w).alloc (Nat.le_refl _) _) hb7);clear ho hb7 hlr)
    all_goals exact bodyPost_ret (v:=.tuple #[.pointer p, .string r, .bool b]) (by simp [results,Try.results31,go_sem, *]) rfl ⟨HLR.out.mono (by simp),HB7.out⟩
set_option maxRecDepth 20000 in
theorem read_ref (hS : S.toList.isEmpty = false) (hD : decide (D < 1) = false) (hk0 : 0 < KT.size) (ek : ∀ h,(KT[0]'h).toNat = 64)
    (hp : ∀ wz,Below w.heap.size w wz → Calls Try.prog 46 #[.agg #[v], .string S, .string KT, .int .i64 D] wz fun e w' => LrOut o wz e w' ∧ Below wz.heap.size wz w') :
    Calls Try.prog 31 #[.agg #[v], .string S, .string KT, .int .i64 D] w fun e w' => LrOut o w e w' ∧ Below w.heap.size w w':=by
  have HP:=hid hp
  clear hp
  go_enter Try.func31,Try.ntmps31
  go_wp2_with (go_at_call 46;refine (HP.out _ ((Below.refl _ _).alloc (Nat.le_refl _) _)).mono ?_;rintro e w7 ⟨ho,hb7⟩;obtain ⟨p,r,b,rfl,hlr⟩:=ho.form;have HLR:=hid hlr;have HB7:=hid (below_join ((Below.refl w.heap.size w).alloc (Nat.le_refl _) _) hb7);clear ho hb7 hlr)
  all_goals exact bodyPost_ret (v:=.tuple #[.pointer p, .string r, .bool b]) (by simp [results,Try.results31,go_sem, *]) rfl ⟨HLR.out.mono (by simp),HB7.out⟩
set_option maxRecDepth 20000 in
theorem read_list_no (hS : S.toList.isEmpty = false) (h0 : 0 < S.size) (hD : decide (D < 1) = false) (hk0 : 0 < KT.size) (ek : ∀ h,(KT[0]'h).toNat = 91) (b0 : Nat) (e1 : ∀ h,(S[0]'h).toNat = b0) (m1 : ((b0 : Int) != 91) = true) (ho : o = none) :
    Calls Try.prog 31 #[.agg #[v], .string S, .string KT, .int .i64 D] w fun e w' => LrOut o w e w' ∧ Below w.heap.size w w':=by
  have HO:=hid ho
  clear ho
  go_enter Try.func31,Try.ntmps31
  go_wp2_with fail
  all_goals exact bodyPost_ret (v:=.tuple #[.pointer none, .string S, .bool false]) (by simp [results,Try.results31,go_sem, *]) rfl ⟨LrOut.no HO.out ⟨_,_,rfl⟩,(Below.refl _ _).alloc (Nat.le_refl _) _⟩
set_option maxRecDepth 20000 in
theorem read_list (R : ByteArray) (hS : S.toList.isEmpty = false) (h0 : 0 < S.size) (h1 : 1 ≤ S.size) (hR : S.extract 1 S.size = R) (hD : decide (D < 1) = false) (hk0 : 0 < KT.size) (ek : ∀ h,(KT[0]'h).toNat = 91) (e1 : ∀ h,(S[0]'h).toNat = 91)
    (hp : ∀ wz,Below w.heap.size w wz → Calls Try.prog 45 #[.agg #[v], .string R, .string KT, .int .i64 D] wz fun e w' => LrOut o wz e w' ∧ Below wz.heap.size wz w') :
    Calls Try.prog 31 #[.agg #[v], .string S, .string KT, .int .i64 D] w fun e w' => LrOut o w e w' ∧ Below w.heap.size w w':=by
  have HP:=hid hp
  have kx : ∀ wz,(Instr.slice 9 (.string S) (some (.int .i64 1)) none none).run Try.prog wz = .ok (.string R) wz:=fun wz => by
    have h:=sl_suf S 1 h1 wz
    rw [hR] at h
    exact h
  clear hp hR
  have c0 : (w.alloc (.cells #[v] 65)).cell? ⟨w.heap.size,0,none⟩ = some v:=by simp [go_sem]
  have B3:=hid ((Below.refl w.heap.size w).alloc (Nat.le_refl _) (.cells #[v] 65))
  have hl3 : w.heap.size < (w.alloc (.cells #[v] 65)).heap.size:=by simp
  go_enter Try.func31,Try.ntmps31
  go_wp2_with fail
  obtain ⟨W3,hW3⟩ : ∃ W3,w.alloc (.cells #[v] 65) = W3:=⟨_,rfl⟩
  rw [hW3] at c0 B3 hl3
  rw [hW3]
  clear hW3
  go_region_held3 (fun w' => w'.cell? ⟨w.heap.size,0,none⟩ = some v) (first | exact j0 | go_keep) ((go_at_call 45;refine (HP.out W3.drew B3.out.drew).mono ?_;rintro e w7 ⟨ho,hb7⟩;obtain ⟨p,r,b,rfl,hlr⟩:=ho.form;have HLR:=hid hlr;have HB7:=hid (Below.drew (Below.refl W3.heap.size W3) |>.trans hb7);have j0:=(HB7.out.cell (p:=⟨w.heap.size,0,none⟩) hl3).trans c0;clear ho hb7 hlr))
  all_goals (go_wp2_with fail)
  all_goals exact bodyPost_ret (v:=.tuple #[.pointer p, .string r, .bool b]) (by simp [results,Try.results31,go_sem, *]) rfl ⟨HLR.out.mono B3.out.size,B3.out.trans (HB7.out.mono B3.out.size)⟩
set_option maxRecDepth 20000 in
theorem read_opt_no (hS : S.toList.isEmpty = false) (h0 : 0 < S.size) (hD : decide (D < 1) = false) (hk0 : 0 < KT.size) (ek : ∀ h,(KT[0]'h).toNat = 63) (b0 : Nat) (e1 : ∀ h,(S[0]'h).toNat = b0) (m0 : ((b0 : Int) == 45) = false) (m1 : ((b0 : Int) != 43) = true) (ho : o = none) :
    Calls Try.prog 31 #[.agg #[v], .string S, .string KT, .int .i64 D] w fun e w' => LrOut o w e w' ∧ Below w.heap.size w w':=by
  have HO:=hid ho
  clear ho
  go_enter Try.func31,Try.ntmps31
  go_wp2_with fail
  all_goals exact bodyPost_ret (v:=.tuple #[.pointer none, .string S, .bool false]) (by simp [results,Try.results31,go_sem, *]) rfl ⟨LrOut.no HO.out ⟨_,_,rfl⟩,(Below.refl _ _).alloc (Nat.le_refl _) _⟩
set_option maxRecDepth 20000 in
set_option maxHeartbeats 2000000 in
theorem read_opt_none (R : ByteArray) (hS : S.toList.isEmpty = false) (h0 : 0 < S.size) (h1 : 1 ≤ S.size) (hR : S.extract 1 S.size = R) (hD : decide (D < 1) = false) (hk0 : 0 < KT.size) (ek : ∀ h,(KT[0]'h).toNat = 63) (hk : KT.data.toList.head? = some 63) (e1 : ∀ h,(S[0]'h).toNat = 45) (ho : o = some (.mk 63 [] 0 [],R.data.toList)) :
    Calls Try.prog 31 #[.agg #[v], .string S, .string KT, .int .i64 D] w fun e w' => LrOut o w e w' ∧ Below w.heap.size w w':=by
  have HO:=hid ho
  have HKH:=hid hk
  have kx : ∀ wz,(Instr.slice 9 (.string S) (some (.int .i64 1)) none none).run Try.prog wz = .ok (.string R) wz:=fun wz => by
    have h:=sl_suf S 1 h1 wz
    rw [hR] at h
    exact h
  clear ho hR hk
  go_enter Try.func31,Try.ntmps31
  go_wp2_with fail
  go_region
  all_goals (go_wp2_with fail)
  all_goals exact bodyPost_ret (v:=.tuple #[ptr (w.heap.size + 1), .string R, .bool true]) (by simp [results,Try.results31,go_sem, *]) rfl (by
    have hR : ∀ W3 : World,W3.heap.size = w.heap.size + 1 → Below w.heap.size w W3 → (LrOut o w (.returned (.tuple #[ptr (w.heap.size + 1), .string R, .bool true])) (W3.alloc (.cells #[.string KT, .string ⟨#[]⟩, .slice none 0 0, .slice none 0 0] 69)) ∧ Below w.heap.size w (W3.alloc (.cells #[.string KT, .string ⟨#[]⟩, .slice none 0 0, .slice none 0 0] 69))):=fun W3 h1 h2 => by
      refine ⟨LrOut.yes HO.out ⟨w.heap.size + 1,rfl, ?_⟩,h2.alloc h2.size _⟩
      rw [← h1]
      exact LV.new (kd:=KT.data.toList) (t:=[]) (by decide) ⟨HKH.out,rfl⟩ rfl h2.size (by simp) (by first | (simp [go_sem];done) | (simp [go_sem];rfl)) (by first | (simp [go_sem];done) | (simp [go_sem];rfl)) (by simp [go_sem]) (by simp [go_sem])
    have hb:=(Below.refl w.heap.size w).alloc (Nat.le_refl _) (.cells #[v] 65)
    first | exact hR _ (by simp) hb | exact hR _ (by simp) hb.drew)
set_option maxRecDepth 20000 in
set_option maxHeartbeats 2000000 in
theorem read_opt_some (k : Wf.K) (R K1 : ByteArray) (hS : S.toList.isEmpty = false) (h0 : 0 < S.size) (h1 : 1 ≤ S.size) (hR : S.extract 1 S.size = R) (hD : decide (D < 1) = false) (hk0 : 0 < KT.size) (hk1 : 1 ≤ KT.size) (hK1 : KT.extract 1 KT.size = K1) (ek : ∀ h,(KT[0]'h).toNat = 63) (hk : KT.data.toList.head? = some 63) (e1 : ∀ h,(S[0]'h).toNat = 43) (kd : IntKind.i64.wrap (D - 1) = (n : Int)) (o1 : Option (Wf.V × List UInt8)) (ho : o = o1.map fun y => (.mk 63 [] 0 [y.1],y.2))
    (hp : ∀ wz,Below w.heap.size w wz → Calls Try.prog 31 #[.agg #[v], .string R, .string K1, .int .i64 n] wz fun e w' => LrOut o1 wz e w' ∧ Below wz.heap.size wz w') :
    Calls Try.prog 31 #[.agg #[v], .string S, .string KT, .int .i64 D] w fun e w' => LrOut o w e w' ∧ Below w.heap.size w w':=by
  have HP:=hid hp
  have HKH:=hid hk
  have HO:=hid ho
  have kx : ∀ wz,(Instr.slice 9 (.string S) (some (.int .i64 1)) none none).run Try.prog wz = .ok (.string R) wz:=fun wz => by
    have h:=sl_suf S 1 h1 wz
    rw [hR] at h
    exact h
  have ky : ∀ wz,(Instr.slice 9 (.string KT) (some (.int .i64 1)) none none).run Try.prog wz = .ok (.string K1) wz:=fun wz => by
    have h:=sl_suf KT 1 hk1 wz
    rw [hK1] at h
    exact h
  clear hp hR hK1 hk ho
  have c0 : (w.alloc (.cells #[v] 65)).cell? ⟨w.heap.size,0,none⟩ = some v:=by simp [go_sem]
  have B3:=hid ((Below.refl w.heap.size w).alloc (Nat.le_refl _) (.cells #[v] 65))
  have hl3 : w.heap.size < (w.alloc (.cells #[v] 65)).heap.size:=by simp
  go_enter Try.func31,Try.ntmps31
  go_wp2_with fail
  obtain ⟨W3,hW3⟩ : ∃ W3,w.alloc (.cells #[v] 65) = W3:=⟨_,rfl⟩
  rw [hW3] at c0 B3 hl3
  rw [hW3]
  clear hW3
  go_region_held3 (fun w' => w'.cell? ⟨w.heap.size,0,none⟩ = some v) (first | exact j0 | go_keep) ((go_at_call 31;refine (HP.out W3.drew B3.out.drew).mono ?_;rintro e w7 ⟨ho,hb7⟩;obtain ⟨p,r,b,rfl,hlr⟩:=ho.form;have HLR:=hid hlr;have HB7:=hid (Below.drew (Below.refl W3.heap.size W3) |>.trans hb7);have j0:=(HB7.out.cell (p:=⟨w.heap.size,0,none⟩) hl3).trans c0;clear ho hb7 hlr))
  all_goals (go_wp2_with fail)
  all_goals exact bodyPost_ret (v:=.tuple #[ptr (w7.heap.size + 1), .string r, .bool b]) (by simp [results,Try.results31,go_sem, *]) rfl (by
    have hle:=Nat.le_trans B3.out.size HB7.out.size
    have h7:=B3.out.trans (HB7.out.mono B3.out.size)
    refine ⟨?_,(h7.alloc hle _).alloc (by simp;omega) _⟩
    have hl:=HLR.out
    cases ho1 : o1 with
    | none =>
      rw [ho1] at hl
      obtain ⟨p',r',he⟩:=hl
      obtain ⟨_,_,e2⟩:=three he
      injection e2 with e2
      subst e2
      exact LrOut.no (by rw [HO.out,ho1];rfl) ⟨_,_,rfl⟩
    | some y =>
      rw [ho1] at hl
      obtain ⟨b',he,hlv⟩:=hl
      obtain ⟨e0,e1,e2⟩:=three he
      injection e0 with e0
      injection e1 with e1
      injection e2 with e2
      subst e0 e1 e2
      refine LrOut.yes (v:=.mk 63 [] 0 [y.1]) (r:=y.2) (by rw [HO.out,ho1];rfl) ⟨w7.heap.size + 1,rfl,LV.opt1 (kb:=w7.heap.size) (u:=b') (KT:=KT) (by omega) hle (by first | (simp;done) | (simp;omega)) (by first | (simp;done) | (simp;omega)) HKH.out ?_ ?_ ?_ ?_ ?_ ?_ (LV.mono (LV.below (LV.below hlv ((Below.refl _ _).alloc (Nat.le_refl _) _)) ((Below.refl _ _).alloc (Nat.le_refl _) _)) fun z hz _ => by have:=B3.out.size;have : W3.drew.heap.size = W3.heap.size:=rfl;omega)⟩
      all_goals (simp [go_sem];done))
end
end Go.Proofs.Ytidjpalnmnehmaa
