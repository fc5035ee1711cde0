/- Packed by pack.py: He He2 Hg Hf. -/
import Derived.Shelf.Strings.SlTrimAscii
import Derived.Shelf.Strings.Prefix
import Derived.Shelf.Strings.Cut
import Derived.Shelf.Strings.Search3
import Derived.Shelf.Strings.Split
import Derived.Shelf.Strings.SplitShaped
import Derived.Shelf.Strings.Shaped
import Derived.Shelf.Small.Wraps
import Derived.Shelf.Strings.OnBuilder
import Derived.WalkKit
import Derived.Lib.UnsafeStr
import Derived.Lib.Hide
import Derived.ProofKit
import Derived.OpenShut
import Derived.BigQuiet
import Derived.WalkSpells
import Derived.KernelRfl
import Derived.Below
import Derived.Lib.SlTrimSet
import Derived.Deep.QuietTactic
import Derived.Deep.RegionWith
import Derived.Deep.RegionHeld3
import Derived.IntWalk
import Derived.Deep.DeepCutAuto
import Derived.Lib.Split
import Derived.Lib.IndexMore
import Derived.Lib.CountLaws
import Derived.Lib.SplitLaws
import Derived.Deep.AppendLies
import Derived.Deep.RegionLaw
import Derived.Maps.Own
import Derived.Maps.OwnOps
import Derived.Maps.OwnSet
import Derived.Maps.Views
import Derived.StringKeys
import Derived.Maps.AppendAt
import Derived.Deep.CutRange
import Derived.Deep.RegionHeldLaw
import Derived.WalkSmall
import Derived.Lib.PathFns
import Derived.Deep.WholeRow
import Derived.Test.YtidjpalnmnehmaaRows
import Derived.Test.YtidjpalnmnehmaaF0
import Derived.Test.YtidjpalnmnehmaaF1
import Derived.Test.YtidjpalnmnehmaaF2
import Derived.Test.YtidjpalnmnehmaaF3
import Derived.Test.YtidjpalnmnehmaaF4
import Derived.Test.YtidjpalnmnehmaaF5
import Derived.Test.YtidjpalnmnehmaaF6
import Derived.Test.YtidjpalnmnehmaaF7
import Derived.Test.YtidjpalnmnehmaaF8
import Derived.Test.YtidjpalnmnehmaaF9
import Derived.Test.YtidjpalnmnehmaaF10
import Derived.Test.YtidjpalnmnehmaaF11
import Derived.Test.YtidjpalnmnehmaaF12
import Derived.Test.YtidjpalnmnehmaaF13
import Derived.Test.YtidjpalnmnehmaaF14
import Derived.Test.YtidjpalnmnehmaaF15
import Derived.Test.YtidjpalnmnehmaaF16
import Derived.Test.YtidjpalnmnehmaaF17
import Derived.Test.YtidjpalnmnehmaaF18
import Derived.Test.YtidjpalnmnehmaaF19
import Derived.Test.YtidjpalnmnehmaaF20
import Derived.Test.YtidjpalnmnehmaaF21
import Derived.Test.YtidjpalnmnehmaaF22
import Derived.Test.YtidjpalnmnehmaaF23
import Derived.Test.YtidjpalnmnehmaaF24
import Derived.Test.YtidjpalnmnehmaaF26
import Derived.Test.YtidjpalnmnehmaaF32
import Derived.Test.YtidjpalnmnehmaaF39
import Derived.Test.YtidjpalnmnehmaaF42
namespace Go.Proofs.Ytidjpalnmnehmaa
open Go.ChangeShapes Go.WideShapes Go.ChangeAt Go.RowKit Go.Lib
set_option linter.unusedVariables false
set_option linter.unusedSimpArgs false
theorem l1Put (n : Nat) (hn : n ≤ 999999) (w : World) : Calls Try.prog 33 #[.int .i64 n] w fun e w' => e = .returned (tx (Wf.putN n)) ∧ Below w.heap.size w w':=by
  have:=l1Put_any n n w (Int.le_refl _) (by omega) (by omega)
  simpa using this
set_option maxRecDepth 20000 in
theorem l5Len (s : ByteArray) (hs : s.size ≤ 999999) (w : World) : Calls Try.prog 34 #[.string s] w fun e w' => e = .returned (tx (Wf.putN s.data.toList.length ++ s.data.toList)) ∧ Below w.heap.size w w':=by
  have HP:=hid fun wz => l1Put s.size hs wz
  obtain ⟨B,hB⟩ : ∃ B : ByteArray,(⟨(Wf.putN s.size).toArray⟩ : ByteArray) = B:=⟨_,rfl⟩
  have hBs : B.size ≤ 3:=by rw [← hB];exact (Wf.putN_len s.size hs).2
  have HF:=hid (show (⟨(Wf.putN s.data.toList.length ++ s.data.toList).toArray⟩ : ByteArray) = B ++ s from
    ((eq_list (B ++ s) _).2 (by rw [ByteArray.data_append,Array.toList_append,← hB,size_list])).symm)
  have a1:=fun wz => run_string_add_sum (P:=Try.prog) (w:=wz) B s (by omega)
  simp only [tx,hB] at HP
  clear hB
  go_enter Try.func34,Try.ntmps34
  go_wp2_with (go_at_call 33;refine (HP.out _).mono ?_;rintro e w2 ⟨rfl,hb2⟩;have HB2:=hid hb2;clear hb2)
  go_ret
  exact ⟨by rw [tx,HF.out];rfl,HB2.out⟩
section
variable (b : Nat) (KD : ByteArray) (w : World)
set_option maxRecDepth 20000 in
set_option maxHeartbeats 2000000 in
theorem lb_num (T : ByteArray) (m : Nat) (hm : m ≤ 999999) (hT : T.data.toList = Wf.dec m) (hlt : b < w.heap.size) (hs : 0 < KD.size) (e0 : ∀ h,(KD[0]'h).toNat = 110) (c0 : w.cell? ⟨b,0,none⟩ = some (.string KD)) (c1 : w.cell? ⟨b,1,none⟩ = some (.string T)) :
    Calls Try.prog 24 #[ptr b] w fun e w' => e = .returned (tx (Wf.putN m)) ∧ Below w.heap.size w w':=by
  have hTs : T.size ≤ 6:=by rw [← size_list,hT];exact Wf.dec_len6 hm
  have HN:=hid fun wz => (l3Num T 999999 (Nat.le_refl _) wz (by omega)).mono (R':=fun e w' => e = .returned (.tuple #[.int .i64 m, .bool true]) ∧ Below wz.heap.size wz w') fun e w' ⟨h1,h2⟩ => ⟨by unfold NumOut at h1;rw [hT,Wf.plainN_dec hm hm] at h1;exact h1,h2⟩
  have HP:=hid fun wz => l1Put m hm wz
  obtain ⟨B,hB⟩ : ∃ B : ByteArray,(⟨(Wf.putN m).toArray⟩ : ByteArray) = B:=⟨_,rfl⟩
  simp only [tx,hB] at HP ⊢
  clear hT hB
  go_enter Try.func24,Try.ntmps24
  go_wp2_with (first | (go_at_call 33;refine (HP.out _).mono ?_;rintro e w3 ⟨rfl,hb3⟩;have B3:=hid (below_join HB2.out hb3);clear hb3) | (go_at_call 32;refine (HN.out _).mono ?_;rintro e w2 ⟨rfl,hb2⟩;have HB2:=hid hb2;clear hb2))
  go_ret
  exact ⟨rfl,B3.out⟩
set_option maxRecDepth 20000 in
set_option maxHeartbeats 2000000 in
theorem lb_txt (T X : ByteArray) (hX : T.data.toList = 39 :: (X.data.toList ++ [39])) (hXs : X.size ≤ 12) (hlt : b < w.heap.size) (hs : 0 < KD.size) (e0 : ∀ h,(KD[0]'h).toNat = 116) (c0 : w.cell? ⟨b,0,none⟩ = some (.string KD)) (c1 : w.cell? ⟨b,1,none⟩ = some (.string T)) :
    Calls Try.prog 24 #[ptr b] w fun e w' => e = .returned (tx (Wf.putN X.data.toList.length ++ X.data.toList)) ∧ Below w.heap.size w w':=by
  have hTs : T.size = X.size + 2:=by rw [← size_list,hX,← size_list];simp
  have HL:=hid fun wz => l5Len X (by omega) wz
  obtain ⟨B,hB⟩ : ∃ B : ByteArray,(⟨(Wf.putN X.data.toList.length ++ X.data.toList).toArray⟩ : ByteArray) = B:=⟨_,rfl⟩
  simp only [tx,hB] at HL ⊢
  have hx : T.extract 1 (T.size - 1) = X:=by
    have h1 : (T.extract 1 (T.size - 1)).data.toList = X.data.toList:=by
      rw [ext_list,hX,hTs,show X.size + 2 - 1 - 1 = X.size by omega,List.drop_succ_cons,List.drop_zero,← size_list,List.take_left]
    rw [eq_arr _ _ h1]
  have kw : IntKind.i64.wrap ((T.size : Int) - 1) = (T.size : Int) - 1:=IntWalk.i64_in _ (by omega)
  have ks : ∀ wz,(Instr.slice 9 (.string T) (some (.int .i64 1)) (some (.int .i64 ((T.size : Int) - 1))) none).run Try.prog wz = .ok (.string X) wz:=fun wz => by
    have h:=run_slice_string (P:=Try.prog) (w:=wz) 9 T .i64 .i64 1 ((T.size : Int) - 1) Try.underlying9 (by omega) (by omega) (by omega)
    rw [h,show (1 : Int).toNat = 1 from rfl,show ((T.size : Int) - 1).toNat = T.size - 1 by omega,hx]
  have ht2 : (2 : Int) ≤ (T.size : Int):=by omega
  have ht3 : (T.size : Int) ≤ 14:=by omega
  clear hX hB hx hTs
  go_enter Try.func24,Try.ntmps24
  go_wp2_with fail
  go_region_held3 (fun w' => w'.cell? ⟨b,1,none⟩ = some (.string T)) (first | exact j1 | go_keep) ((go_at_call 34;refine (HL.out _).mono ?_;rintro e w3 ⟨rfl,hb3⟩;have TD:=hid (show Below w.heap.size w w3 by refine Below.trans (b:=_) ?_ hb3;repeat (first | with_reducible exact Below.refl _ _ | with_reducible refine Below.drew ?_));have j1:=(TD.out.cell (p:=⟨b,1,none⟩) hlt).trans c1;clear hb3))
  all_goals go_wp2_with fail
  all_goals go_ret
  all_goals exact ⟨rfl,TD.out⟩
set_option maxRecDepth 20000 in
set_option maxHeartbeats 2000000 in
theorem lb_flag (y : Bool) (hlt : b < w.heap.size) (hs : 0 < KD.size) (e0 : ∀ h,(KD[0]'h).toNat = 102) (c0 : w.cell? ⟨b,0,none⟩ = some (.string KD)) (c1 : w.cell? ⟨b,1,none⟩ = some (tx (if y then [121,101,115] else [110,111]))) :
    Calls Try.prog 24 #[ptr b] w fun e w' => e = .returned (tx (if y then [1] else [0])) ∧ Below w.heap.size w w':=by
  have hcv:=run_convert_lit (P:=Try.prog) 22 9 5 Try.underlying22 Try.underlying5 Try.underlying9
  cases y
  · rw [if_neg (by simp)] at c1 ⊢
    obtain ⟨T,hT⟩ : ∃ T : ByteArray,(⟨#[110,111]⟩ : ByteArray) = T:=⟨_,rfl⟩
    have c1 : w.cell? ⟨b,1,none⟩ = some (.string T):=by rw [← hT];exact c1
    have hTs : (T.size : Int) = 2:=by rw [← hT];rfl
    clear hT
    go_enter Try.func24,Try.ntmps24
    go_wp2_with fail
    go_ret
    exact ⟨rfl,(Below.refl _ _).alloc (Nat.le_refl _) _⟩
  · rw [if_pos rfl] at c1 ⊢
    obtain ⟨T,hT⟩ : ∃ T : ByteArray,(⟨#[121,101,115]⟩ : ByteArray) = T:=⟨_,rfl⟩
    have c1 : w.cell? ⟨b,1,none⟩ = some (.string T):=by rw [← hT];exact c1
    have hTs : (T.size : Int) = 3:=by rw [← hT];rfl
    clear hT
    go_enter Try.func24,Try.ntmps24
    go_wp2_with fail
    go_ret
    exact ⟨rfl,(Below.refl _ _).alloc (Nat.le_refl _) _⟩
set_option maxRecDepth 20000 in
set_option maxHeartbeats 2000000 in
theorem lb_none (c : Nat) (a : Option Addr) (hlt : b < w.heap.size) (hs : 0 < KD.size) (e0 : ∀ h,(KD[0]'h).toNat = 63) (c0 : w.cell? ⟨b,0,none⟩ = some (.string KD)) (c3 : w.cell? ⟨b,3,none⟩ = some (.slice a 0 c)) :
    Calls Try.prog 24 #[ptr b] w fun e w' => e = .returned (tx [0]) ∧ Below w.heap.size w w':=by
  have hcv:=run_convert_lit (P:=Try.prog) 22 9 5 Try.underlying22 Try.underlying5 Try.underlying9
  go_enter Try.func24,Try.ntmps24
  go_wp2_with fail
  go_ret
  exact ⟨rfl,(Below.refl _ _).alloc (Nat.le_refl _) _⟩
set_option maxRecDepth 20000 in
set_option maxHeartbeats 4000000 in
theorem lb_some (kb o u c : Nat) (T : ByteArray) (hlt : b < w.heap.size) (hs : 0 < KD.size) (e0 : ∀ h,(KD[0]'h).toNat = 63) (c0 : w.cell? ⟨b,0,none⟩ = some (.string KD)) (c3 : w.cell? ⟨b,3,none⟩ = some (.slice (some ⟨kb,o,none⟩) 1 c)) (hkb : kb < w.heap.size) (ck : w.cell? ⟨kb,o,none⟩ = some (ptr u)) (h1 : 1 ≤ c) (hc : c ≤ maxLen) (hT : T.size ≤ 2000000)
    (hk : ∀ wz,Below w.heap.size w wz → Calls Try.prog 24 #[ptr u] wz fun e w' => e = .returned (.string T) ∧ Below wz.heap.size wz w') :
    Calls Try.prog 24 #[ptr b] w fun e w' => e = .returned (tx (1 :: T.data.toList)) ∧ Below w.heap.size w w':=by
  have HK:=hid hk
  have HO:=hid (show (⟨#[1]⟩ : ByteArray) ++ T = ⟨(1 :: T.data.toList).toArray⟩ by rw [eq_list];simp)
  have hc1:=fun W a c => run_convert_one (P:=Try.prog) 22 9 5 Try.underlying22 Try.underlying5 Try.underlying9 W a c 1
  have a1:=fun wz => run_string_add_sum (P:=Try.prog) (w:=wz) ⟨#[1]⟩ T (by show 1 + T.size ≤ _;omega)
  unfold maxLen at hc
  have F:=hid fun (wz : World) (hz : Below w.heap.size w wz) => (show wz.cell? ⟨b,3,none⟩ = some (.slice (some ⟨kb,o,none⟩) 1 c) ∧ wz.cell? ⟨kb,o,none⟩ = some (ptr u) from ⟨(hz.cell (p:=⟨b,3,none⟩) hlt).trans c3,(hz.cell (p:=⟨kb,o,none⟩) hkb).trans ck⟩)
  clear hk
  go_enter Try.func24,Try.ntmps24
  go_wp2_with fail
  go_region_with (go_at_call 24;refine (HK.out _ (by repeat (first | with_reducible exact Below.refl _ _ | with_reducible refine Below.drew ?_ | with_reducible refine Below.alloc ?_ (by simp) _))).mono ?_;rintro e w2 ⟨rfl,hb2⟩;have TD:=hid (show Below w.heap.size w w2 by refine Below.trans (b:=_) ?_ (hb2.mono (by simp));repeat (first | with_reducible exact Below.refl _ _ | with_reducible refine Below.drew ?_ | with_reducible refine Below.alloc ?_ (by simp) _));have hc:=(bcell hb2).1;clear hb2)
  all_goals go_wp2_with fail
  all_goals go_ret
  all_goals first | exact ⟨ret_str HO.out,TD.out⟩ | exact ⟨ret_str HO.out,TD.out.alloc TD.out.size _⟩
set_option maxRecDepth 20000 in
set_option maxHeartbeats 2000000 in
theorem lb_list (kb : Nat) (kv : Value) (bs : List Nat) (ps : List (List UInt8)) (hlt : b < w.heap.size) (hs : 0 < KD.size) (e0 : ∀ h,(KD[0]'h).toNat = 91) (c0 : w.cell? ⟨b,0,none⟩ = some (.string KD)) (c3 : w.cell? ⟨b,3,none⟩ = some kv) (hrow : RowAt w kb kv (bs.map ptr)) (hl : bs.length = ps.length) (hn : ps.length ≤ 1000) (hsz : ps.flatten.length ≤ 2000000)
    (hk : ∀ i (h1 : i < bs.length) (h2 : i < ps.length) wz,Below w.heap.size w wz → Calls Try.prog 24 #[ptr bs[i]] wz fun e w' => e = .returned (tx ps[i]) ∧ Below wz.heap.size wz w') :
    Calls Try.prog 24 #[ptr b] w fun e w' => e = .returned (tx (Wf.putN ps.length ++ ps.flatten)) ∧ Below w.heap.size w w':=by
  obtain ⟨a,c,rfl,hnc,hcm⟩:=hrow.form
  obtain ⟨m,hm⟩ : ∃ m,(bs.map ptr).length = m:=⟨_,rfl⟩
  have hbm : bs.length = m:=by rw [← hm,List.length_map]
  have hpm : ps.length = m:=by omega
  have hm6 : m ≤ 1000:=by omega
  rw [hpm]
  obtain ⟨B,hB⟩ : ∃ B : ByteArray,(⟨(Wf.putN m).toArray⟩ : ByteArray) = B:=⟨_,rfl⟩
  have hBs : B.size ≤ 3:=by rw [← hB];exact (Wf.putN_len m (by omega)).2
  have HBL:=hid (show B.data.toList = Wf.putN m by rw [← hB])
  have HP:=hid fun wz => l1Put m (by omega) wz
  simp only [tx,hB] at HP
  have HBM:=hid hbm
  have HPM:=hid hpm
  have HMM:=hid hm
  rw [hm] at c3 hrow hnc
  have HROW:=hid hrow
  have HK:=hid hk
  have HSZ:=hid hsz
  have HFT:=hid fun (i : Nat) (hi : i < ps.length) => (show (ps.take (i + 1)).flatten = (ps.take i).flatten ++ ps[i] by
    have e : ps.take (i + 1) = ps.take i ++ [ps[i]]:=by rw [List.take_add_one,List.getElem?_eq_getElem hi];rfl
    rw [e,List.flatten_append,List.flatten_cons,List.flatten_nil,List.append_nil])
  have HFL:=hid fun (i : Nat) => (show (ps.take i).flatten.length ≤ 2000000 by
    refine Nat.le_trans ?_ hsz
    conv => rhs;rw [← List.take_append_drop i ps,List.flatten_append,List.length_append]
    omega)
  unfold maxLen at hcm
  clear hrow hk hl hsz hm hbm hpm hB
  go_enter Try.func24,Try.ntmps24
  go_wp2_with (go_at_call 33;refine (HP.out _).mono ?_;rintro e w2 ⟨rfl,hb2⟩;have HB2:=hid hb2;clear hb2)
  go_loopw [5,6] (fun s5 s6 wr => ∃ (i : Nat) (S : ByteArray),s5 = .string S ∧ s6 = .int .i64 i ∧ i ≤ m ∧ S.size ≤ 2000003 ∧ Hid (S.data.toList = Wf.putN m ++ (ps.take i).flatten ∧ Below w.heap.size w wr)) (fun _ s6 _ => m - (RowKit.intOf s6).toNat)
  case atStart => exact ⟨0,B,rfl,rfl,Nat.zero_le _,by omega,hid ⟨by rw [HBL.out];simp,HB2.out⟩⟩
  case round =>
    obtain ⟨i,S,rfl,rfl,hi,hS,hh⟩:=hrel
    have hbw : b < wr.heap.size:=Nat.lt_of_lt_of_le hlt hh.out.2.size
    have y3:=(hh.out.2.cell (p:=⟨b,3,none⟩) hlt).trans c3
    by_cases hlt2 : i < m
    · have hib : i < bs.length:=by rw [HBM.out];exact hlt2
      have hip : i < ps.length:=by rw [HPM.out];exact hlt2
      obtain ⟨o,rfl,hkb,_,_,ck⟩:=HROW.out.get (i:=i) (by rw [HMM.out];exact hlt2)
      rw [List.getElem_map] at ck
      obtain ⟨u,hu⟩ : ∃ u,bs[i] = u:=⟨_,rfl⟩
      obtain ⟨T,hT⟩ : ∃ T : ByteArray,(⟨(ps[i]).toArray⟩ : ByteArray) = T:=⟨_,rfl⟩
      rw [hu] at ck
      have hkw : kb < wr.heap.size:=Nat.lt_of_lt_of_le hkb hh.out.2.size
      have yk:=(hh.out.2.cell (p:=⟨kb,o + i,none⟩) hkb).trans ck
      have HC:=hid (show Calls Try.prog 24 #[ptr u] wr fun e w' => e = .returned (.string T) ∧ Below wr.heap.size wr w' by
        have:=HK.out i hib hip wr hh.out.2
        rw [hu] at this
        simp only [tx,hT] at this
        exact this)
      have hft:=HFT.out i hip
      have hfl:=HFL.out (i + 1)
      have hpl : (Wf.putN m).length ≤ 3:=(Wf.putN_len m (by omega)).2
      have HE:=hid (show (S ++ T).data.toList = Wf.putN m ++ (ps.take (i + 1)).flatten by
        rw [hft,ByteArray.data_append,Array.toList_append,hh.out.1,← hT,List.append_assoc])
      have hST : (S ++ T).size ≤ 2000003:=by
        rw [← size_list,HE.out,List.length_append]
        omega
      have hTs : S.size + T.size ≤ 2000003:=by rw [← ByteArray.size_append];exact hST
      clear hu hT ck hft hfl
      go_wp2_with (go_at_call 24;refine HC.out.mono ?_;rintro e w2 ⟨rfl,hb2⟩;have HB3:=hid hb2;clear hb2)
      go_roundw
      case rel => exact ⟨i + 1,S ++ T,by rfl,by go_num,by omega,hST,hid ⟨HE.out,hh.out.2.trans (HB3.out.mono hh.out.2.size)⟩⟩
      case measure => simp [RowKit.intOf];omega
    · have him : i = m:=by omega
      subst him
      have HE:=hid (show S = ⟨(Wf.putN i ++ ps.flatten).toArray⟩ by
        rw [eq_list,hh.out.1,List.take_of_length_le (by rw [HPM.out];exact Nat.le_refl _)])
      go_wp2_with fail
      go_ret
      exact ⟨ret_str HE.out,hh.out.2⟩
set_option maxRecDepth 20000 in
set_option maxHeartbeats 4000000 in
theorem lb_named (T O : ByteArray) (y : Bool) (hy : (T.toList == [82]) = y) (tb kb : Nat) (tv kv : Value) (gs bs : List Nat) (ps Q : List (List UInt8)) (hlt : b < w.heap.size) (hs : 0 < KD.size) (e0 : ∀ h,(KD[0]'h).toNat = 64) (c0 : w.cell? ⟨b,0,none⟩ = some (.string KD)) (c1 : w.cell? ⟨b,1,none⟩ = some (.string T)) (c2 : w.cell? ⟨b,2,none⟩ = some tv) (c3 : w.cell? ⟨b,3,none⟩ = some kv) (hrt : RowAt w tb tv (gs.map ix)) (hrow : RowAt w kb kv (bs.map ptr)) (hlp : bs.length = ps.length) (hgl : Q.length = gs.length) (hn : gs.length ≤ 1000)
    (hg : ∀ g ∈ gs,g ≤ 999999) (hsz : Q.flatten.length ≤ 2000000) (hO : O.data.toList = Q.flatten ++ (if y then [0] else []))
    (hQ : ∀ i (h1 : i < Q.length) (h2 : i < gs.length),(∃ h3 : i < ps.length,ps[i].length ≤ 999999 ∧ Q[i] = Wf.putN gs[i] ++ (Wf.putN ps[i].length ++ ps[i])) ∨ (ps.length ≤ i ∧ Q[i] = Wf.putN gs[i]))
    (hk : ∀ i (h1 : i < bs.length) (h2 : i < ps.length) wz,Below w.heap.size w wz → Calls Try.prog 24 #[ptr bs[i]] wz fun e w' => e = .returned (tx ps[i]) ∧ Below wz.heap.size wz w') :
    Calls Try.prog 24 #[ptr b] w fun e w' => e = .returned (.string O) ∧ Below w.heap.size w w':=by
  obtain ⟨a,c,rfl,hnc,hcm⟩:=hrow.form
  obtain ⟨ta,tc,rfl,htc,htm⟩:=hrt.form
  obtain ⟨k,hkk⟩ : ∃ k,(bs.map ptr).length = k:=⟨_,rfl⟩
  obtain ⟨m,hm⟩ : ∃ m,(gs.map ix).length = m:=⟨_,rfl⟩
  have hbk : bs.length = k:=by rw [← hkk,List.length_map]
  have hpk : ps.length = k:=by omega
  have hgm : gs.length = m:=by rw [← hm,List.length_map]
  have hqm : Q.length = m:=by omega
  have hm6 : m ≤ 1000:=by omega
  have HKK:=hid hkk
  have HMM:=hid hm
  have HBK:=hid hbk
  have HPK:=hid hpk
  have HGM:=hid hgm
  have HQM:=hid hqm
  rw [hkk] at c3 hrow hnc
  rw [hm] at c2 hrt htc
  have HROW:=hid hrow
  have HRT:=hid hrt
  have HK:=hid hk
  have HG:=hid hg
  have HQ:=hid hQ
  have HO:=hid hO
  have HFT:=hid fun (i : Nat) (hi : i < Q.length) => (show (Q.take (i + 1)).flatten = (Q.take i).flatten ++ Q[i] by
    have e : Q.take (i + 1) = Q.take i ++ [Q[i]]:=by rw [List.take_add_one,List.getElem?_eq_getElem hi];rfl
    rw [e,List.flatten_append,List.flatten_cons,List.flatten_nil,List.append_nil])
  have HFL:=hid fun (i : Nat) => (show (Q.take i).flatten.length ≤ 2000000 by
    refine Nat.le_trans ?_ hsz
    conv => rhs;rw [← List.take_append_drop i Q,List.flatten_append,List.length_append]
    omega)
  have hcv:=run_convert_lit (P:=Try.prog) 22 9 5 Try.underlying22 Try.underlying5 Try.underlying9
  have HCV:=hid hcv
  unfold maxLen at hcm htm
  clear hrow hk hlp hsz hm hkk hbk hpk hrt hg hgm hqm hQ hgl hO hcv
  go_enter Try.func24,Try.ntmps24
  go_wp2_with fail
  go_loopw [7,8] (fun s7 s8 wr => ∃ (i : Nat) (S : ByteArray),s7 = .string S ∧ s8 = .int .i64 i ∧ i ≤ m ∧ S.size ≤ 2000000 ∧ Hid (S.data.toList = (Q.take i).flatten ∧ Below w.heap.size w wr)) (fun _ s8 _ => m - (RowKit.intOf s8).toNat)
  case atStart => exact ⟨0,⟨#[]⟩,rfl,rfl,Nat.zero_le _,by decide,hid ⟨rfl,Below.refl _ _⟩⟩
  case round =>
    obtain ⟨i,S,rfl,rfl,hi,hS,hh⟩:=hrel
    have hbw : b < wr.heap.size:=Nat.lt_of_lt_of_le hlt hh.out.2.size
    have y2:=(hh.out.2.cell (p:=⟨b,2,none⟩) hlt).trans c2
    by_cases hlt2 : i < m
    · have hig : i < gs.length:=by rw [HGM.out];exact hlt2
      have hiq : i < Q.length:=by rw [HQM.out];exact hlt2
      obtain ⟨p,rfl,htb,_,_,ct⟩:=HRT.out.get (i:=i) (by rw [HMM.out];exact hlt2)
      rw [List.getElem_map] at ct
      obtain ⟨g,hgi⟩ : ∃ g,gs[i] = g:=⟨_,rfl⟩
      have hg6 : g ≤ 999999:=by rw [← hgi];exact HG.out _ (List.getElem_mem hig)
      rw [hgi] at ct
      have hct : ix g = .int .i64 g:=rfl
      rw [hct] at ct
      have htw : tb < wr.heap.size:=Nat.lt_of_lt_of_le htb hh.out.2.size
      have yt:=(hh.out.2.cell (p:=⟨tb,p + i,none⟩) htb).trans ct
      have HD:=hid fun wz => l1Put g hg6 wz
      obtain ⟨D,hD⟩ : ∃ D : ByteArray,(⟨(Wf.putN g).toArray⟩ : ByteArray) = D:=⟨_,rfl⟩
      have hDl : D.data.toList = Wf.putN g:=by rw [← hD]
      have hDs : D.size ≤ 3:=by rw [← hD];exact (Wf.putN_len g hg6).2
      simp only [tx,hD] at HD
      have hft:=HFT.out i hiq
      have hfl:=HFL.out (i + 1)
      have a1:=fun wz => run_string_add_sum (P:=Try.prog) (w:=wz) S D (by omega)
      have n1 : (0 : Int) ≤ (i : Int):=by omega
      have n2 : (i : Int) < (m : Int):=by omega
      have hq:=HQ.out i hiq hig
      rw [hgi] at hq
      clear hct ct hgi hD
      rcases hq with ⟨hip,hpl,hqe⟩ | ⟨hip,hqe⟩
      · have hik : i < k:=by rw [← HPK.out];exact hip
        have hib : i < bs.length:=by rw [HBK.out];exact hik
        have n3 : (i : Int) < (k : Int):=by omega
        have y3:=(hh.out.2.cell (p:=⟨b,3,none⟩) hlt).trans c3
        obtain ⟨o,rfl,hkb,_,_,ck⟩:=HROW.out.get (i:=i) (by rw [HKK.out];exact hik)
        rw [List.getElem_map] at ck
        obtain ⟨u,hu⟩ : ∃ u,bs[i] = u:=⟨_,rfl⟩
        obtain ⟨X,hX⟩ : ∃ X : ByteArray,(⟨(ps[i]).toArray⟩ : ByteArray) = X:=⟨_,rfl⟩
        have hXl : X.data.toList = ps[i]:=by rw [← hX]
        have hXs : X.size = ps[i].length:=by rw [← hX];rfl
        rw [hu] at ck
        have hkw : kb < wr.heap.size:=Nat.lt_of_lt_of_le hkb hh.out.2.size
        have yk:=(hh.out.2.cell (p:=⟨kb,o + i,none⟩) hkb).trans ck
        have HC:=hid fun (wz : World) (hz : Below wr.heap.size wr wz) => (show Calls Try.prog 24 #[ptr u] wz fun e w' => e = .returned (.string X) ∧ Below wz.heap.size wz w' by
          have:=HK.out i hib hip wz (hh.out.2.trans (hz.mono hh.out.2.size))
          rw [hu] at this
          simp only [tx,hX] at this
          exact this)
        have HL:=hid fun wz => l5Len X (by omega) wz
        obtain ⟨Z,hZ⟩ : ∃ Z : ByteArray,(⟨(Wf.putN X.data.toList.length ++ X.data.toList).toArray⟩ : ByteArray) = Z:=⟨_,rfl⟩
        have hZl : Z.data.toList = Wf.putN ps[i].length ++ ps[i]:=by rw [← hZ,← hXl]
        simp only [tx,hZ] at HL
        have HE:=hid (show (S ++ D ++ Z).data.toList = (Q.take (i + 1)).flatten by
          rw [hft,hqe,ByteArray.data_append,ByteArray.data_append,Array.toList_append,Array.toList_append,hh.out.1,hDl,hZl,List.append_assoc])
        have hSZ : (S ++ D ++ Z).size ≤ 2000000:=by rw [← size_list,HE.out];exact hfl
        have a2:=fun wz => run_string_add_sum (P:=Try.prog) (w:=wz) (S ++ D) Z (by rw [← ByteArray.size_append];omega)
        clear hu hX ck hZ hZl hXl hXs hft hfl hqe hpl hDl
        go_wp2_with (first | (go_at_call 34;have _u:=HB3;refine (HL.out _).mono ?_;rintro e w4 ⟨rfl,hb4⟩;have HB4:=hid (HB3.out.trans (hb4.mono HB3.out.size));clear hb4) | (go_at_call 24;have _u:=HB2;refine (HC.out _ HB2.out).mono ?_;rintro e w3 ⟨rfl,hb3⟩;have HB3:=hid (HB2.out.trans (hb3.mono HB2.out.size));clear hb3) | (go_at_call 33;refine (HD.out _).mono ?_;rintro e w2 ⟨rfl,hb2⟩;have HB2:=hid hb2;have z3:=(hb2.cell (p:=⟨b,3,none⟩) hbw).trans y3;have zk:=(hb2.cell (p:=⟨kb,o + i,none⟩) hkw).trans yk;have zl1:=Nat.lt_of_lt_of_le hbw hb2.size;have zl2:=Nat.lt_of_lt_of_le hkw hb2.size;clear hb2))
        go_roundw
        case rel => exact ⟨i + 1,S ++ D ++ Z,by rfl,by go_num,by omega,hSZ,hid ⟨HE.out,hh.out.2.trans (HB4.out.mono hh.out.2.size)⟩⟩
        case measure => simp [RowKit.intOf];omega
      · have hik : k ≤ i:=by rw [← HPK.out];exact hip
        have n3 : ¬ (i : Int) < (k : Int):=by omega
        have y3:=(hh.out.2.cell (p:=⟨b,3,none⟩) hlt).trans c3
        have HE:=hid (show (S ++ D).data.toList = (Q.take (i + 1)).flatten by
          rw [hft,hqe,ByteArray.data_append,Array.toList_append,hh.out.1,hDl])
        have hSZ : (S ++ D).size ≤ 2000000:=by rw [← size_list,HE.out];exact hfl
        clear hft hfl hqe hDl
        go_wp2_with (go_at_call 33;refine (HD.out _).mono ?_;rintro e w2 ⟨rfl,hb2⟩;have HB2:=hid hb2;have z3:=(hb2.cell (p:=⟨b,3,none⟩) hbw).trans y3;have zl1:=Nat.lt_of_lt_of_le hbw hb2.size;clear hb2)
        go_roundw
        case rel => exact ⟨i + 1,S ++ D,by rfl,by go_num,by omega,hSZ,hid ⟨HE.out,hh.out.2.trans (HB2.out.mono hh.out.2.size)⟩⟩
        case measure => simp [RowKit.intOf];omega
    · have him : i = m:=by omega
      subst him
      have y1:=(hh.out.2.cell (p:=⟨b,1,none⟩) hlt).trans c1
      have hSl:=hh.out.1
      rw [List.take_of_length_le (by rw [HQM.out];exact Nat.le_refl _)] at hSl
      have hcv:=HCV.out
      cases y with
      | true =>
        have HE:=hid (show S ++ (⟨#[0]⟩ : ByteArray) = O from by
          have h1 : (S ++ (⟨#[0]⟩ : ByteArray)).data.toList = O.data.toList:=by
            rw [HO.out,if_pos rfl,ByteArray.data_append,Array.toList_append,hSl]
          rw [eq_arr _ _ h1])
        clear hSl
        go_wp2_with fail
        go_ret
        exact ⟨ret_str HE.out,hh.out.2.alloc hh.out.2.size _⟩
      | false =>
        have HE:=hid (show S = O from by
          have h1 : S.data.toList = O.data.toList:=by rw [HO.out,if_neg (by simp),List.append_nil,hSl]
          rw [eq_arr _ _ h1])
        clear hSl hcv
        go_wp2_with fail
        go_ret
        exact ⟨ret_str HE.out,hh.out.2⟩
end

theorem flat_kid {l : List Wf.V} {v : Wf.V} (h : v ∈ l) : v.print.length ≤ (Wf.commas (l.map Wf.V.print)).length:=Wf.commas_mem (List.mem_map.2 ⟨v,h,rfl⟩)
theorem lbytes {x : Wf.Sc} : ∀ (n : Nat) (k : Wf.K) (v : Wf.V),Wf.Typed x n k v → ∀ (P : Nat → Prop) (b : Nat) (W w : World),LV W P v b → Below W.heap.size W w → v.print.length ≤ 10000 → Calls Try.prog 24 #[ptr b] w fun e w' => e = .returned (tx v.bytes) ∧ Below w.heap.size w w':=by
  intro n
  induction n with
  | zero => intro k v h;exact h.elim
  | succ n ih =>
    intro k v h P b W w hL hW hlen
    have hbl:=Wf.bytes_len (n + 1) k v h (by omega)
    obtain ⟨hlt,kd,t,tv,kv,tb,kb,bs,c0,c1,c2,c3,r1,r2,hs,hk⟩:=hL.at (Wf.typed_ne h) hW
    cases k with
    | num =>
      obtain ⟨m,hm,rfl⟩:=h
      simp only [Wf.V.what,Wf.V.text,shapeR] at hs
      obtain ⟨h1,h2⟩:=kd_first hs.1
      rw [Wf.bytes_num]
      exact lb_num b ⟨kd.toArray⟩ w ⟨t.toArray⟩ m hm hs.2 hlt h1 h2 c0 c1
    | txt =>
      obtain ⟨d,_,hd,rfl⟩:=h
      simp only [Wf.V.what,Wf.V.text,shapeR] at hs
      obtain ⟨h1,h2⟩:=kd_first hs.1
      rw [Wf.bytes_txt]
      exact lb_txt b ⟨kd.toArray⟩ w ⟨t.toArray⟩ ⟨d.toArray⟩ hs.2 hd hlt h1 h2 c0 c1
    | flag =>
      rcases h with rfl | rfl
      all_goals simp only [Wf.V.what,Wf.V.text,shapeR] at hs
      all_goals obtain ⟨h1,h2⟩:=kd_first hs.1
      · rw [Wf.bytes_yes]
        exact lb_flag b ⟨kd.toArray⟩ w true hlt h1 h2 c0 (by rw [c1];congr 1;rw [hs.2];rfl)
      · rw [Wf.bytes_no]
        exact lb_flag b ⟨kd.toArray⟩ w false hlt h1 h2 c0 (by rw [c1];congr 1;rw [hs.2];rfl)
    | list k =>
      obtain ⟨l,h20,hl,rfl⟩:=h
      simp only [Wf.V.what,Wf.V.text,Wf.V.kids,shapeR] at hs hk
      obtain ⟨h1,h2⟩:=kd_first hs.1
      rw [Wf.print_list] at hlen
      rw [Wf.print_list,Wf.bytes_list] at hbl
      have hcl : (Wf.commas (l.map Wf.V.print)).length ≤ 10000:=by simp at hlen;omega
      have:=lb_list b ⟨kd.toArray⟩ w kb kv bs (l.map Wf.V.bytes) hlt h1 h2 c0 c3 r2 (by rw [hk.len,List.length_map]) (by rw [List.length_map];omega) (by simp only [List.length_append,List.length_cons,List.length_nil] at hbl hlen;omega) fun i g1 g2 wz hz => by
        have g3 : i < l.length:=by simpa using g2
        rw [List.getElem_map]
        exact ih k l[i] (hl _ (List.getElem_mem g3)) P bs[i] W wz (hk.get i g3 g1) (hW.trans (hz.mono hW.size)) (Nat.le_trans (flat_kid (List.getElem_mem g3)) hcl)
      rw [Wf.bytes_list]
      rw [List.length_map] at this
      exact this
    | opt k =>
      rcases h with rfl | ⟨u,hu,rfl⟩
      · simp only [Wf.V.what,Wf.V.text,Wf.V.kids,shapeR] at hs hk
        obtain ⟨h1,h2⟩:=kd_first hs.1
        obtain rfl:=hk.none
        obtain ⟨a,c,rfl,_,_⟩:=r2.form
        rw [Wf.bytes_none]
        exact lb_none b ⟨kd.toArray⟩ w c a hlt h1 h2 c0 c3
      · simp only [Wf.V.what,Wf.V.text,Wf.V.kids,shapeR] at hs hk
        obtain ⟨h1,h2⟩:=kd_first hs.1
        obtain ⟨ub,rfl,hu2⟩:=hk.one
        obtain ⟨a,c,rfl,hnc,hcm⟩:=r2.form
        obtain ⟨o,rfl,hkb,_,_,ck⟩:=r2.get (i:=0) (by simp)
        rw [Wf.print_some] at hlen
        rw [Wf.print_some,Wf.bytes_some] at hbl
        simp only [List.length_cons] at hlen hbl
        rw [Wf.bytes_some]
        exact lb_some b ⟨kd.toArray⟩ w kb o ub c ⟨u.bytes.toArray⟩ hlt h1 h2 c0 c3 hkb ck hnc hcm (by show u.bytes.length ≤ _;omega) fun wz hz => ih k u hu P ub W wz hu2 (hW.trans (hz.mono hW.size)) (by omega)
    | ref nm =>
      obtain ⟨ty,hty,h⟩:=h
      rcases h with ⟨_,f,hf,hf2,rfl⟩ | ⟨_,_,f,u,hf,hf2,hu,rfl⟩ | ⟨_,_,l,hasc,hl,rfl⟩
      · simp only [Wf.V.what,Wf.V.text,Wf.V.kids,Wf.V.tag,shapeR] at hs hk r1
        obtain ⟨h1,h2⟩:=kd_first hs.1
        have htl : t = [69]:=hs.2
        subst htl
        obtain rfl:=hk.none
        rw [Wf.bytes_enm]
        have r1' : RowAt w tb tv ([f.tag].map ix):=by simpa [tagsOf] using r1
        refine lb_named b ⟨kd.toArray⟩ w ⟨[69].toArray⟩ ⟨(Wf.putN f.tag).toArray⟩ false (by rw [ByteArray.toList_eq];rfl) tb kb tv kv [f.tag] [] [] [Wf.putN f.tag] hlt h1 h2 c0 c1 c2 c3 r1' r2 rfl rfl (by simp) (by simp;omega) ?_ (by simp) ?_ ?_
        · have:=(Wf.putN_len f.tag (by omega)).2;simp;omega
        · intro i h1 h2
          obtain rfl : i = 0:=by simp at h1;omega
          exact .inr ⟨by simp,rfl⟩
        · intro i h1;simp at h1
      · simp only [Wf.V.what,Wf.V.text,Wf.V.kids,Wf.V.tag,shapeR] at hs hk r1
        obtain ⟨h1,h2⟩:=kd_first hs.1
        have htl : t = [85]:=hs.2
        subst htl
        obtain ⟨ub,rfl,hu2⟩:=hk.one
        rw [Wf.print_uni] at hlen
        rw [Wf.bytes_uni] at hbl ⊢
        have hul : u.print.length ≤ 10000:=by simp only [List.length_append,List.length_cons,List.length_nil] at hlen;omega
        have hub:=Wf.bytes_len n f.kind u hu (by omega)
        have r1' : RowAt w tb tv ([f.tag].map ix):=by simpa [tagsOf] using r1
        refine lb_named b ⟨kd.toArray⟩ w ⟨[85].toArray⟩ ⟨(Wf.putN f.tag ++ (Wf.putN u.bytes.length ++ u.bytes)).toArray⟩ false (by rw [ByteArray.toList_eq];rfl) tb kb tv kv [f.tag] [ub] [u.bytes] [Wf.putN f.tag ++ (Wf.putN u.bytes.length ++ u.bytes)] hlt h1 h2 c0 c1 c2 c3 r1' r2 rfl rfl (by simp) (by simp;omega) ?_ (by simp) ?_ ?_
        · have:=(Wf.putN_len f.tag (by omega)).2
          have:=(Wf.putN_len u.bytes.length (by omega)).2
          simp only [List.flatten_cons,List.flatten_nil,List.append_nil,List.length_append];omega
        · intro i h1 h2
          obtain rfl : i = 0:=by simp at h1;omega
          exact .inl ⟨by simp,by show u.bytes.length ≤ _;omega,rfl⟩
        · intro i h1 h2 wz hz
          obtain rfl : i = 0:=by simp at h1;omega
          exact ih f.kind u hu P ub W wz hu2 (hW.trans (hz.mono hW.size)) hul
      · simp only [Wf.V.what,Wf.V.text,Wf.V.kids,Wf.V.tag,shapeR] at hs hk r1
        obtain ⟨h1,h2⟩:=kd_first hs.1
        have htl : t = [82]:=hs.2
        subst htl
        rw [tags_rec] at r1
        have hk2:=hk.fields
        have hbs : bs.length = l.length:=by rw [hk2.len,List.length_map]
        rw [Wf.print_rec] at hlen
        rw [Wf.bytes_rec] at hbl ⊢
        have hcl : (Wf.commas ((l.map fun e => Wf.V.mk 61 [] e.1.tag [e.2]).map Wf.V.print)).length ≤ 10000:=by simp only [List.length_cons,List.length_append,List.length_nil] at hlen;omega
        have hpr : ∀ e ∈ l,e.2.print.length ≤ 10000:=fun e he => by
          have h3:=Wf.commas_mem (l:=(l.map fun e => Wf.V.mk 61 [] e.1.tag [e.2]).map Wf.V.print) (a:=(Wf.V.mk 61 [] e.1.tag [e.2]).print) (List.mem_map.2 ⟨_,List.mem_map.2 ⟨e,he,rfl⟩,rfl⟩)
          rw [Wf.print_tag] at h3
          simp only [List.length_append,List.length_cons] at h3
          omega
        have hll : l.length ≤ 1000:=by
          have:=(Wf.typed_bok (n + 1) (.ref nm) _ ⟨ty,hty, .inr (.inr ⟨‹_›,‹_›,l,hasc,hl,rfl⟩)⟩)
          cases this with
          | mk _ _ _ _ _ h6 _ _ => simpa using h6
        refine lb_named b ⟨kd.toArray⟩ w ⟨[82].toArray⟩ ⟨(((l.map fun (e : Wf.Fd × Wf.V) => Wf.V.mk 61 [] e.1.tag [e.2]).map Wf.V.bytes).flatten ++ [0]).toArray⟩ true (by rw [ByteArray.toList_eq];rfl) tb kb tv kv (l.map fun e => e.1.tag) bs (l.map fun e => e.2.bytes) ((l.map fun e => Wf.V.mk 61 [] e.1.tag [e.2]).map Wf.V.bytes) hlt h1 h2 c0 c1 c2 c3 r1 r2 (by rw [List.length_map,hbs]) (by simp) (by simpa using hll) (fun g hg => ?_) ?_ rfl ?_ ?_
        · obtain ⟨e,he,rfl⟩:=List.mem_map.1 hg
          have:=(hl e he).2.2.1
          omega
        · rw [List.length_append] at hbl
          have hpl : (Wf.V.mk 82 [] 0 (l.map fun (e : Wf.Fd × Wf.V) => Wf.V.mk 61 [] e.1.tag [e.2])).print.length ≤ 10000:=by rw [Wf.print_rec];exact hlen
          omega
        · intro i g1 g2
          have g3 : i < l.length:=by simpa using g2
          have he:=List.getElem_mem g3
          have:=Wf.bytes_len n _ _ (hl _ he).2.2.2.1 (by have:=hpr _ he;omega)
          have:=hpr _ he
          refine .inl ⟨by simpa using g3,by simp only [List.getElem_map];omega, ?_⟩
          simp only [List.getElem_map]
          exact Wf.bytes_tag _ _
        · intro i g1 g2 wz hz
          have g3 : i < l.length:=by simpa using g2
          have g4 : i < (l.map (·.2)).length:=by simpa using g3
          have hv:=hk2.get i g4 g1
          rw [List.getElem_map] at hv
          rw [List.getElem_map]
          exact ih (l[i]).1.kind (l[i]).2 (hl _ (List.getElem_mem g3)).2.2.2.1 P bs[i] W wz hv (hW.trans (hz.mono hW.size)) (hpr _ (List.getElem_mem g3))

def bytesVal (l kt s : List UInt8) : Option (List UInt8):=(valOf l kt s).map fun y => y.2.bytes
theorem bytesVal_len {l kt s b : List UInt8} (h : bytesVal l kt s = some b) : b.length ≤ 400:=by
  unfold bytesVal at h
  cases hv : valOf l kt s with
  | none => rw [hv] at h;cases h
  | some y =>
    rw [hv] at h
    simp only [Option.map_some,Option.some.injEq] at h
    subst h
    obtain ⟨_,h2⟩:=valOf_some hv
    obtain ⟨ht,hs,hl⟩:=Wf.valIn_some h2
    have:=Wf.bytes_len 12 _ _ ht (by rw [← hs];omega)
    rw [← hs] at this
    exact Nat.le_trans this hl

set_option maxRecDepth 20000 in
set_option maxHeartbeats 1000000 in
theorem bytesPut_s (s kt v : ByteArray) (w : World) (hs : s.size ≤ 1048576) (hv : v.size ≤ 1048576) : Calls Try.prog 16 #[.string s, .string kt, .string v] w fun e w' => e = .returned (vfV (bytesVal s.data.toList kt.data.toList v.data.toList)) ∧ Below w.heap.size w w':=by
  have HG:=hid (l4Of s kt v w hs hv)
  cases hvo : valOf s.data.toList kt.data.toList v.data.toList with
  | none =>
    have HD:=hid (show vfV (bytesVal s.data.toList kt.data.toList v.data.toList) = .tuple #[.string ⟨#[]⟩, .bool false] by unfold bytesVal;rw [hvo];rfl)
    have HO:=hid fun (e : Ending) (w' : World) (h : LoOut s.data.toList kt.data.toList v.data.toList w.heap.size e w') => (by unfold LoOut at h;rw [hvo] at h;exact h : ∃ a n c p,e = .returned (.tuple #[.slice a n c, .pointer p, .bool false]))
    clear hvo
    go_enter Try.func16,Try.ntmps16
    go_wp2_with (go_at_call 23;refine HG.out.mono ?_;rintro e w2 ⟨ho,hb2⟩;obtain ⟨a,n,c,p,rfl⟩:=HO.out _ _ ho;have HB2:=hid hb2;clear ho hb2)
    go_ret2
    exact ⟨by rw [HD.out];rfl,HB2.out⟩
  | some y =>
    obtain ⟨⟨x,k⟩,u⟩:=y
    obtain ⟨_,hvi⟩:=valOf_some hvo
    obtain ⟨hty,hsv,hlv⟩:=Wf.valIn_some hvi
    have hbv : bytesVal s.data.toList kt.data.toList v.data.toList = some u.bytes:=by unfold bytesVal;rw [hvo];rfl
    have hl:=bytesVal_len hbv
    obtain ⟨R,hR⟩ : ∃ R : ByteArray,(⟨u.bytes.toArray⟩ : ByteArray) = R:=⟨_,rfl⟩
    have hRs : R.size ≤ 400:=by rw [← hR];exact hl
    have HD:=hid (show vfV (bytesVal s.data.toList kt.data.toList v.data.toList) = .tuple #[.string R, .bool true] by rw [hbv,← hR];rfl)
    have HBY:=hid fun (pb : Nat) (W wz : World) (hlv : LV W (fun z => w.heap.size ≤ z) u pb) (hz : Below W.heap.size W wz) => lbytes 12 k u hty _ pb W wz hlv hz (by rw [← hsv];omega)
    simp only [tx,hR] at HBY
    have HO:=hid fun (e : Ending) (w' : World) (h : LoOut s.data.toList kt.data.toList v.data.toList w.heap.size e w') => (by unfold LoOut at h;rw [hvo] at h;exact h : ∃ b a c p,e = .returned (.tuple #[.slice a x.length c,ptr p, .bool true]) ∧ ScSp w' w.heap.size b (.slice a x.length c) x ∧ LV w' (fun z => w.heap.size ≤ z) u p)
    clear hvo hvi hty hbv hl hR hsv
    go_enter Try.func16,Try.ntmps16
    go_wp2_with (first | (go_at_call 24;have _u:=B3;refine (HBY.out _ w2 _ HLV.out HB23.out).mono ?_;rintro e w4 ⟨rfl,hb4⟩;have B4:=hid (below_join B3.out hb4);clear hb4) | (go_at_call 24;refine (HBY.out _ w2 _ HLV.out (Below.refl _ _)).mono ?_;rintro e w3 ⟨rfl,hb3⟩;have HB23:=hid hb3;have B3:=hid (below_join HB2.out hb3);clear hb3) | (go_at_call 23;refine HG.out.mono ?_;rintro e w2 ⟨ho,hb2⟩;obtain ⟨b,a,c,p,rfl,_,hlv⟩:=HO.out _ _ ho;have HLV:=hid hlv;have HB2:=hid hb2;clear ho hb2 hlv))
    go_ret2
    exact ⟨by rw [HD.out];rfl,B4.out⟩
end Go.Proofs.Ytidjpalnmnehmaa
