/- Packed by pack.py: Xg Xh Su Sy Va Cu. -/
import Derived.Shelf.Strings.SlTrimAscii
import Derived.Shelf.Strings.Prefix
import Derived.Shelf.Strings.Cut
import Derived.Shelf.Strings.Search3
import Derived.Shelf.Strings.Split
import Derived.Shelf.Strings.SplitShaped
import Derived.Shelf.Strings.Shaped
import Derived.Shelf.Small.Wraps
import Derived.Shelf.Strings.OnBuilder
import Derived.Test.YtidjpalnmnehmaaF16
import Derived.Test.YtidjpalnmnehmaaF8
import Derived.Deep.RegionHeld3
import Derived.Test.YtidjpalnmnehmaaF5
import Derived.Test.YtidjpalnmnehmaaF1
import Derived.Lib.Split
import Derived.Lib.IndexMore
import Derived.Lib.CountLaws
import Derived.Lib.SplitLaws
import Derived.Test.YtidjpalnmnehmaaF0
namespace Go.Proofs.Ytidjpalnmnehmaa
open Go.ChangeShapes Go.WideShapes Go.ChangeAt Go.RowKit Go.Lib
set_option linter.unusedVariables false
set_option linter.unusedSimpArgs false
def LrOut (o : Option (Wf.V × List UInt8)) (w : World) (e : Ending) (w' : World) : Prop:=match o with
  | some y => ∃ b,e = .returned (.tuple #[ptr b,tx y.2, .bool true]) ∧ LV w' (fun z => w.heap.size ≤ z) y.1 b
  | none => ∃ (p : Option Addr) (r : ByteArray),e = .returned (.tuple #[.pointer p, .string r, .bool false])
theorem LrOut.no {o : Option (Wf.V × List UInt8)} {w w' : World} {e : Ending} (h : o = none) (he : ∃ (p : Option Addr) (r : ByteArray),e = .returned (.tuple #[.pointer p, .string r, .bool false])) : LrOut o w e w':=by
  subst h;exact he
theorem LrOut.yes {o : Option (Wf.V × List UInt8)} {w w' : World} {e : Ending} {v : Wf.V} {r : List UInt8} (h : o = some (v,r)) (he : ∃ b,e = .returned (.tuple #[ptr b,tx r, .bool true]) ∧ LV w' (fun z => w.heap.size ≤ z) v b) : LrOut o w e w':=by
  subst h;exact he
theorem row_nil (w : World) (b : Nat) : RowAt w b (.slice none 0 0) []:=⟨none,0,rfl,Nat.le_refl _,by unfold maxLen;omega, .inl rfl⟩
theorem LV.new {w W : World} {P : Nat → Prop} {what : UInt8} {text kd t : List UInt8} {tag : Nat} (h61 : what ≠ 61) (hs : shapeR what text kd t) (ht : tagsOf what tag [] = []) (hp : P w.heap.size) (hlt : w.heap.size < W.heap.size)
    (c0 : W.cell? ⟨w.heap.size,0,none⟩ = some (tx kd)) (c1 : W.cell? ⟨w.heap.size,1,none⟩ = some (tx t)) (c2 : W.cell? ⟨w.heap.size,2,none⟩ = some (.slice none 0 0)) (c3 : W.cell? ⟨w.heap.size,3,none⟩ = some (.slice none 0 0)) : LV W P (.mk what text tag []) w.heap.size :=
  LV.mk (bs:=[]) (tb:=0) (kb:=0) h61 hp hlt c0 c1 c2 c3 (by rw [ht];exact row_nil _ _) (.inl ht) (row_nil _ _) (.inl rfl) hs (by simp only [LVs])
set_option maxRecDepth 20000 in
set_option maxHeartbeats 1000000 in
theorem plain_num (x : Wf.Sc) (n : Nat) (v : Value) (S : ByteArray) (hS : S.size ≤ 1048576) (w : World) : Calls Try.prog 47 #[.agg #[v], .string S,tx [110]] w fun e w' => LrOut (Wf.parse x (n + 1) .num S.data.toList) w e w' ∧ Below w.heap.size w w':=by
  have HDG:=hid fun wz => l4Digits S wz hS
  have hle : (S.extract 0 (S.data.toList.takeWhile Wf.isDig).length).size ≤ 9223372036854775807:=by rw [ByteArray.size_extract];omega
  have hnum:=fun wz => l3Num (S.extract 0 (S.data.toList.takeWhile Wf.isDig).length) 999999 (by omega) wz hle
  rw [pre_list] at hnum
  obtain ⟨T,hT⟩ : ∃ T,(S.data.toList.takeWhile Wf.isDig).length = T:=⟨_,rfl⟩
  have hTle : T ≤ S.size:=by rw [← hT,← size_list];exact tw_le _ _
  have k1:=sl_pre S T hTle
  have k2:=sl_suf S T hTle
  have HX:=hid (show S.extract 0 T = ⟨(S.data.toList.takeWhile Wf.isDig).toArray⟩ by rw [eq_list,← hT,pre_list])
  have HR:=hid (show S.extract T S.size = ⟨(S.data.toList.dropWhile Wf.isDig).toArray⟩ by rw [eq_list,suf_list,← hT,tw_drop])
  rw [hT] at HDG hnum
  obtain ⟨X1,hX1⟩ : ∃ X1,S.extract 0 T = X1:=⟨_,rfl⟩
  obtain ⟨X2,hX2⟩ : ∃ X2,S.extract T S.size = X2:=⟨_,rfl⟩
  rw [hX1] at k1 HX hnum
  rw [hX2] at k2 HR
  cases hp : Wf.plainN (S.data.toList.takeWhile Wf.isDig) 999999 with
  | none =>
    have HP:=hid (show Wf.parse x (n + 1) .num S.data.toList = none by rw [Wf.parse_num,Wf.numTok,hp];rfl)
    have HNUM:=hid fun wz => (hnum wz).mono (R':=fun e w' => (∃ m : Int,e = .returned (.tuple #[.int .i64 m, .bool false])) ∧ Below wz.heap.size wz w') fun e w' ⟨h1,h2⟩ => ⟨by unfold NumOut at h1;rw [hp] at h1;exact h1,h2⟩
    clear hnum hp hT hX1 hX2
    go_enter Try.func47,Try.ntmps47
    go_wp2_with (first | (go_at_call 32;refine (HNUM.out _).mono ?_;rintro e w2 ⟨⟨m,rfl⟩,hb2⟩;have B2:=hid (below_join ((Below.refl _ _).alloc (Nat.le_refl _) _) hb2);clear hb2) | (go_at_call 56;refine (HDG.out _).mono ?_;rintro e w1 ⟨rfl,rfl⟩))
    go_region
    all_goals (go_wp2_with fail)
    all_goals exact bodyPost_ret (v:=.tuple #[ptr w2.heap.size, .string X2, .bool false]) (by simp [results,Try.results47,go_sem, *]) rfl ⟨LrOut.no HP.out ⟨_,_,rfl⟩,by have BB:=B2.out;have hB:=BB.size;repeat (first | with_reducible exact BB | with_reducible refine Below.drew ?_ | with_reducible refine Below.alloc ?_ (by first | exact BB.size | (simp;omega)) _)⟩
  | some g =>
    have HP:=hid (show Wf.parse x (n + 1) .num S.data.toList = some (.mk 110 (S.data.toList.takeWhile Wf.isDig) 0 [],S.data.toList.dropWhile Wf.isDig) by rw [Wf.parse_num,Wf.numTok,hp,(Wf.plainN_some hp).1];rfl)
    have HNUM:=hid fun wz => (hnum wz).mono (R':=fun e w' => e = .returned (.tuple #[.int .i64 g, .bool true]) ∧ Below wz.heap.size wz w') fun e w' ⟨h1,h2⟩ => ⟨by unfold NumOut at h1;rw [hp] at h1;exact h1,h2⟩
    clear hnum hp hT hX1 hX2
    go_enter Try.func47,Try.ntmps47
    go_wp2_with (first | (go_at_call 32;refine (HNUM.out _).mono ?_;rintro e w2 ⟨rfl,hb2⟩;have B2:=hid (below_join ((Below.refl _ _).alloc (Nat.le_refl _) _) hb2);clear hb2) | (go_at_call 56;refine (HDG.out _).mono ?_;rintro e w1 ⟨rfl,rfl⟩))
    go_region
    all_goals (go_wp2_with fail)
    all_goals exact bodyPost_ret (v:=.tuple #[ptr w2.heap.size, .string X2, .bool true]) (by simp [results,Try.results47,go_sem, *]) rfl (by
      have hR : ∀ W3 : World,W3.heap.size = w2.heap.size → Below w.heap.size w W3 → (LrOut (Wf.parse x (n + 1) .num S.data.toList) w (.returned (.tuple #[ptr w2.heap.size, .string X2, .bool true])) (W3.alloc (.cells #[tx [110], .string X1, .slice none 0 0, .slice none 0 0] 69)) ∧ Below w.heap.size w (W3.alloc (.cells #[tx [110], .string X1, .slice none 0 0, .slice none 0 0] 69))):=fun W3 h1 h2 => by
        refine ⟨LrOut.yes HP.out ⟨w2.heap.size,by rw [HR.out], ?_⟩,h2.alloc h2.size _⟩
        rw [← h1]
        rw [HX.out]
        exact LV.new (kd:=[110]) (t:=S.data.toList.takeWhile Wf.isDig) (by decide) ⟨rfl,rfl⟩ rfl (h2.size) (by simp) (by simp [go_sem]) (by simp [go_sem]) (by simp [go_sem]) (by simp [go_sem])
      first | exact hR w2 rfl B2.out | exact hR w2.drew rfl B2.out.drew)
theorem quoted_some {l : List UInt8} (h : Wf.quoted l = true) : l = 39 :: (l.tail.dropLast ++ [39]):=by
  obtain ⟨b,rfl,_,_⟩:=Wf.quoted_iff.1 h
  simp
theorem parse_txt_any (x : Wf.Sc) (n : Nat) (l : List UInt8) : Wf.parse x (n + 1) .txt l = if Wf.quoted (l.take (Wf.txtEnd l)) = true then some (.mk 116 (l.take (Wf.txtEnd l)).tail.dropLast 0 [],l.drop (Wf.txtEnd l)) else none:=by
  cases l with
  | nil => rw [Wf.parse_nil];rfl
  | cons a r => exact Wf.parse_txt_ref x n a r
set_option maxRecDepth 20000 in
set_option maxHeartbeats 2000000 in
theorem plain_txt (x : Wf.Sc) (n : Nat) (v : Value) (S : ByteArray) (hS : S.size ≤ 1048576) (w : World) : Calls Try.prog 47 #[.agg #[v], .string S,tx [116]] w fun e w' => LrOut (Wf.parse x (n + 1) .txt S.data.toList) w e w' ∧ Below w.heap.size w w':=by
  obtain ⟨E,hE⟩ : ∃ E,Wf.txtEnd S.data.toList = E:=⟨_,rfl⟩
  have hEle : E ≤ S.size:=by rw [← hE,← size_list];exact Wf.txtEnd_le _
  have k1:=sl_pre S E hEle
  have k2:=sl_suf S E hEle
  have HX:=hid (show S.extract 0 E = ⟨(S.data.toList.take E).toArray⟩ by rw [eq_list,ext_list,List.drop_zero,Nat.sub_zero])
  have HR:=hid (show S.extract E S.size = ⟨(S.data.toList.drop E).toArray⟩ by rw [eq_list,suf_list])
  have htx:=fun wz => l3Text (S.extract 0 E) wz (by rw [ByteArray.size_extract];omega)
  rw [show (S.extract 0 E).data.toList = S.data.toList.take E by rw [ext_list,List.drop_zero,Nat.sub_zero]] at htx
  obtain ⟨Q,hQ⟩ : ∃ Q,Wf.quoted (S.data.toList.take E) = Q:=⟨_,rfl⟩
  have hpt:=parse_txt_any x n S.data.toList
  rw [hE,hQ] at hpt
  have HP:=hid hpt
  have HQ:=hid hQ
  rw [hQ] at htx
  obtain ⟨X1,hX1⟩ : ∃ X1,S.extract 0 E = X1:=⟨_,rfl⟩
  obtain ⟨X2,hX2⟩ : ∃ X2,S.extract E S.size = X2:=⟨_,rfl⟩
  rw [hX1] at k1 HX htx
  rw [hX2] at k2 HR
  have HTX:=hid htx
  obtain ⟨K,hK⟩ : ∃ K,1 + (S.data.toList.tail.takeWhile Wf.not39).length = K:=⟨_,rfl⟩
  have hEK : E = min (K + 1) S.size:=by rw [← hE,Wf.txtEnd,size_list,hK]
  have hKS : S.size ≠ 0 → K ≤ S.size:=fun h => by
    rw [← hK]
    have h1:=tw_le Wf.not39 S.data.toList.tail
    rw [List.length_tail,size_list] at h1
    omega
  have HIN:=hid fun (i : Nat) (h1 : 1 ≤ i) (h : i < K) => (show ∃ c,S.data.toList[i]? = some c ∧ Wf.not39 c = true by
    obtain ⟨c,hc,hp⟩:=tw_in (p:=Wf.not39) (l:=S.data.toList.tail) (i:=i - 1) (by omega)
    rw [List.getElem?_tail,show i - 1 + 1 = i by omega] at hc
    exact ⟨c,hc,hp⟩)
  have HAT:=hid fun (c : UInt8) (h : S.data.toList[K]? = some c) => (show Wf.not39 c = false by
    refine tw_at (p:=Wf.not39) (l:=S.data.toList.tail) ?_
    rw [List.getElem?_tail,show (S.data.toList.tail.takeWhile Wf.not39).length + 1 = K by omega]
    exact h)
  have hK1 : 1 ≤ K:=by omega
  have hK2 : K ≤ 1048577:=by
    by_cases h : S.size = 0
    · rw [← hK]
      have h1:=tw_le Wf.not39 S.data.toList.tail
      rw [List.length_tail,size_list] at h1
      omega
    · have:=hKS h;omega
  have hmin : min ((K : Int) + 1) (S.size : Int) = (E : Int):=by rw [hEK];omega
  have HMIN:=hid hmin
  clear hpt hQ htx hX1 hX2 hE hK hEK hKS hmin
  go_enter Try.func47,Try.ntmps47
  go_wp2_with fail
  go_loop [9] (fun v => ∃ i : Nat,1 ≤ i ∧ i ≤ K ∧ v = .int .i64 i) (fun v => K - (RowKit.intOf v).toNat)
  case atStart => exact ⟨1,Nat.le_refl _,hK1,rfl⟩
  case round =>
    obtain ⟨i,hi1,hi,rfl⟩:=hrel
    by_cases hlt : i < K
    · obtain ⟨c',hc',hd⟩:=HIN.out i hi1 hlt
      have his : i < S.size:=by rw [← size_list];exact (List.getElem?_eq_some_iff.1 hc').1
      obtain ⟨c,hc,e1⟩:=byte_at S i his
      rw [hc] at hc'
      obtain rfl:=Option.some.inj hc'
      obtain ⟨b,hb⟩ : ∃ b,c.toNat = b:=⟨_,rfl⟩
      rw [hb] at e1
      have h1 : ((b : Int) != 39) = true:=by
        rw [bne_iff_ne]
        intro h
        have h39 : c = 39:=UInt8.toNat_inj.1 (by rw [hb];show b = 39;omega)
        rw [h39] at hd
        exact absurd hd (by decide)
      clear hc hc' hd hb
      go_wp2_with fail
      go_round
      case rel => exact ⟨i + 1,by omega,by omega,by go_num⟩
      case measure => simp [RowKit.intOf];omega
    · have hiT : i = K:=by omega
      subst hiT
      have fin : ∀ b : Bool,Q = b → ∀ W3 : World,W3.heap.size = w.heap.size + 1 → Below w.heap.size w W3 → (LrOut (Wf.parse x (n + 1) .txt S.data.toList) w (.returned (.tuple #[ptr (w.heap.size + 1), .string X2, .bool b])) (W3.alloc (.cells #[tx [116], .string X1, .slice none 0 0, .slice none 0 0] 69)) ∧ Below w.heap.size w (W3.alloc (.cells #[tx [116], .string X1, .slice none 0 0, .slice none 0 0] 69))):=fun b hb W3 h1 h2 => by
        refine ⟨?_,h2.alloc h2.size _⟩
        cases b with
        | false => exact LrOut.no (by rw [HP.out,hb];rfl) ⟨_,_,rfl⟩
        | true =>
          refine LrOut.yes (by rw [HP.out,hb,if_pos rfl]) ⟨w.heap.size + 1,by rw [HR.out], ?_⟩
          rw [← h1,HX.out]
          exact LV.new (kd:=[116]) (t:=S.data.toList.take E) (by decide) ⟨rfl,quoted_some (by rw [HQ.out,hb])⟩ rfl (h2.size) (by simp) (by simp [go_sem]) (by simp [go_sem]) (by simp [go_sem]) (by simp [go_sem])
      have FIN:=hid fin
      clear fin
      have hmin:=HMIN.out
      by_cases his : i < S.size
      · obtain ⟨c,hc,e1⟩:=byte_at S i his
        have hd:=HAT.out c hc
        have h39 : c = 39:=by simpa [Wf.not39] using hd
        have hb : c.toNat = 39:=by rw [h39];rfl
        rw [hb] at e1
        clear hc hd h39 hb
        go_wp2_with fail
        go_region_with (go_at_call 57;refine (HTX.out _).mono ?_;rintro e w1 ⟨rfl,rfl⟩)
        all_goals (go_wp2_with fail)
        all_goals exact bodyPost_ret (v:=.tuple #[ptr (w.heap.size + 1), .string X2, .bool Q]) (by simp [results,Try.results47,go_sem, *]) rfl (by
          have B0:=(Below.refl w.heap.size w).alloc (Nat.le_refl _) (.cells #[v] 65)
          first | exact FIN.out Q rfl _ (by simp) B0 | exact FIN.out Q rfl _ (by simp) B0.drew)
      · have his2 : S.size ≤ i:=by omega
        clear his
        go_wp2_with fail
        go_region_with (go_at_call 57;refine (HTX.out _).mono ?_;rintro e w1 ⟨rfl,rfl⟩)
        all_goals (go_wp2_with fail)
        all_goals exact bodyPost_ret (v:=.tuple #[ptr (w.heap.size + 1), .string X2, .bool Q]) (by simp [results,Try.results47,go_sem, *]) rfl (by
          have B0:=(Below.refl w.heap.size w).alloc (Nat.le_refl _) (.cells #[v] 65)
          first | exact FIN.out Q rfl _ (by simp) B0 | exact FIN.out Q rfl _ (by simp) B0.drew)

theorem pre_eq (S : ByteArray) (p : List UInt8) (h : p.length ≤ S.size) : ((S.extract 0 p.length).toList == p) = decide (p <+: S.data.toList):=by
  rw [ByteArray.toList_eq,ext_list,List.drop_zero,Nat.sub_zero,Bool.beq_eq_decide_eq,decide_eq_decide]
  rw [List.prefix_iff_eq_take]
  exact eq_comm
def FlagAt (l : List UInt8) (v : Value) : Prop:=v = .int .i64 0 ∨ (v = .int .i64 1 ∧ ¬ [121,101,115] <+: l) ∨ (v = .int .i64 2 ∧ ¬ [121,101,115] <+: l ∧ ¬ [110,111] <+: l)
set_option maxRecDepth 20000 in
set_option maxHeartbeats 2000000 in
theorem plain_flag (x : Wf.Sc) (n : Nat) (v : Value) (S : ByteArray) (hS : S.size ≤ 1048576) (w : World) : Calls Try.prog 47 #[.agg #[v], .string S,tx [102]] w fun e w' => LrOut (Wf.parse x (n + 1) .flag S.data.toList) w e w' ∧ Below w.heap.size w w':=by
  go_enter Try.func47,Try.ntmps47
  go_wp2_with fail
  go_loop [70] (fun v => FlagAt S.data.toList v) (fun v => 2 - (RowKit.intOf v).toNat)
  case atStart => exact .inl rfl
  case round =>
    rcases hrel with rfl | ⟨rfl,hy⟩ | ⟨rfl,hy,hn⟩
    · by_cases h3 : 3 ≤ S.size
      · have hpe:=pre_eq S [121,101,115] h3
        rw [show ([121,101,115] : List UInt8).length = 3 from rfl] at hpe
        cases hd : decide ([121,101,115] <+: S.data.toList) with
        | true =>
          rw [hd] at hpe
          obtain ⟨q,hq⟩:=of_decide_eq_true hd
          have HP:=hid (show Wf.parse x (n + 1) .flag S.data.toList = some (.mk 102 [121,101,115] 0 [],q) by rw [← hq];exact Wf.parse_yes x n q)
          have HR:=hid (show S.extract 3 S.size = ⟨q.toArray⟩ by rw [eq_list,suf_list,← hq];rfl)
          clear hd hq
          go_wp2_with fail
          go_region
          all_goals (go_wp2_with fail)
          all_goals exact bodyPost_ret (v:=.tuple #[ptr (w.heap.size + 1 + 1), .string (S.extract 3 S.size), .bool true]) (by simp [results,Try.results47,go_sem, *]) rfl (by
            have hR : ∀ W3 : World,W3.heap.size = w.heap.size + 1 + 1 → Below w.heap.size w W3 → (LrOut (Wf.parse x (n + 1) .flag S.data.toList) w (.returned (.tuple #[ptr (w.heap.size + 1 + 1), .string (S.extract 3 S.size), .bool true])) (W3.alloc (.cells #[tx [102],tx [121,101,115], .slice none 0 0, .slice none 0 0] 69)) ∧ Below w.heap.size w (W3.alloc (.cells #[tx [102],tx [121,101,115], .slice none 0 0, .slice none 0 0] 69))):=fun W3 h1 h2 => by
              refine ⟨LrOut.yes HP.out ⟨w.heap.size + 1 + 1,by rw [HR.out], ?_⟩,h2.alloc h2.size _⟩
              rw [← h1]
              exact LV.new (kd:=[102]) (t:=[121,101,115]) (by decide) ⟨rfl,rfl⟩ rfl (h2.size) (by simp) (by simp [go_sem]) (by simp [go_sem]) (by simp [go_sem]) (by simp [go_sem])
            have B0:=((Below.refl w.heap.size w).alloc (Nat.le_refl _) (.cells #[v] 65)).alloc (by simp) (.cells #[.string ⟨#[121,101,115]⟩, .string ⟨#[110,111]⟩] 9)
            first | exact hR _ (by simp) B0 | exact hR _ (by simp) B0.drew)
        | false =>
          rw [hd] at hpe
          have HD:=hid (of_decide_eq_false hd)
          clear hd
          go_wp2_with fail
          go_round
          all_goals first | exact ⟨(.inr (.inl ⟨rfl,HD.out⟩) : FlagAt S.data.toList (.int .i64 1)),by simp [RowKit.intOf]⟩ | exact (.inr (.inl ⟨rfl,HD.out⟩) : FlagAt S.data.toList (.int .i64 1)) | (simp [RowKit.intOf];done)
      · have HD:=hid (show ¬ [121,101,115] <+: S.data.toList from fun h => by have:=h.length_le;rw [size_list] at this;simp at this;omega)
        have h3d : decide (3 ≤ S.size) = false:=decide_eq_false h3
        have h3i : (S.size : Int) < 3:=by omega
        go_wp2_with fail
        go_round
        all_goals first | exact ⟨(.inr (.inl ⟨rfl,HD.out⟩) : FlagAt S.data.toList (.int .i64 1)),by simp [RowKit.intOf]⟩ | exact (.inr (.inl ⟨rfl,HD.out⟩) : FlagAt S.data.toList (.int .i64 1)) | (simp [RowKit.intOf];done)
    · have HY:=hid hy
      clear hy
      by_cases h3 : 2 ≤ S.size
      · have hpe:=pre_eq S [110,111] h3
        rw [show ([110,111] : List UInt8).length = 2 from rfl] at hpe
        cases hd : decide ([110,111] <+: S.data.toList) with
        | true =>
          rw [hd] at hpe
          obtain ⟨q,hq⟩:=of_decide_eq_true hd
          have HP:=hid (show Wf.parse x (n + 1) .flag S.data.toList = some (.mk 102 [110,111] 0 [],q) by rw [← hq];exact Wf.parse_no x n q)
          have HR:=hid (show S.extract 2 S.size = ⟨q.toArray⟩ by rw [eq_list,suf_list,← hq];rfl)
          clear hd hq
          go_wp2_with fail
          go_region
          all_goals (go_wp2_with fail)
          all_goals exact bodyPost_ret (v:=.tuple #[ptr (w.heap.size + 1 + 1), .string (S.extract 2 S.size), .bool true]) (by simp [results,Try.results47,go_sem, *]) rfl (by
            have hR : ∀ W3 : World,W3.heap.size = w.heap.size + 1 + 1 → Below w.heap.size w W3 → (LrOut (Wf.parse x (n + 1) .flag S.data.toList) w (.returned (.tuple #[ptr (w.heap.size + 1 + 1), .string (S.extract 2 S.size), .bool true])) (W3.alloc (.cells #[tx [102],tx [110,111], .slice none 0 0, .slice none 0 0] 69)) ∧ Below w.heap.size w (W3.alloc (.cells #[tx [102],tx [110,111], .slice none 0 0, .slice none 0 0] 69))):=fun W3 h1 h2 => by
              refine ⟨LrOut.yes HP.out ⟨w.heap.size + 1 + 1,by rw [HR.out], ?_⟩,h2.alloc h2.size _⟩
              rw [← h1]
              exact LV.new (kd:=[102]) (t:=[110,111]) (by decide) ⟨rfl,rfl⟩ rfl (h2.size) (by simp) (by simp [go_sem]) (by simp [go_sem]) (by simp [go_sem]) (by simp [go_sem])
            have B0:=((Below.refl w.heap.size w).alloc (Nat.le_refl _) (.cells #[v] 65)).alloc (by simp) (.cells #[.string ⟨#[121,101,115]⟩, .string ⟨#[110,111]⟩] 9)
            first | exact hR _ (by simp) B0 | exact hR _ (by simp) B0.drew)
        | false =>
          rw [hd] at hpe
          have HD:=hid (of_decide_eq_false hd)
          clear hd
          go_wp2_with fail
          go_round
          all_goals first | exact ⟨(.inr (.inr ⟨rfl,HY.out,HD.out⟩) : FlagAt S.data.toList (.int .i64 2)),by simp [RowKit.intOf]⟩ | exact (.inr (.inr ⟨rfl,HY.out,HD.out⟩) : FlagAt S.data.toList (.int .i64 2)) | (simp [RowKit.intOf];done)
      · have HD:=hid (show ¬ [110,111] <+: S.data.toList from fun h => by have:=h.length_le;rw [size_list] at this;simp at this;omega)
        have h3d : decide (2 ≤ S.size) = false:=decide_eq_false h3
        have h3i : (S.size : Int) < 2:=by omega
        go_wp2_with fail
        go_round
        all_goals first | exact ⟨(.inr (.inr ⟨rfl,HY.out,HD.out⟩) : FlagAt S.data.toList (.int .i64 2)),by simp [RowKit.intOf]⟩ | exact (.inr (.inr ⟨rfl,HY.out,HD.out⟩) : FlagAt S.data.toList (.int .i64 2)) | (simp [RowKit.intOf];done)
    · have HP:=hid (Wf.parse_flag_none x n hy hn)
      clear hy hn
      go_wp2_with fail
      exact bodyPost_ret (v:=.tuple #[.pointer none, .string S, .bool false]) (by simp [results,Try.results47,go_sem, *]) rfl ⟨LrOut.no HP.out ⟨_,_,rfl⟩,((Below.refl w.heap.size w).alloc (Nat.le_refl _) _).alloc (by simp) _⟩
end Go.Proofs.Ytidjpalnmnehmaa

namespace Go.Proofs.Ytidjpalnmnehmaa
open Go.ChangeShapes Go.WideShapes Go.ChangeAt Go.RowKit Go.Lib
set_option linter.unusedVariables false
theorem ends8 {x : Wf.Sc} (hx : Wf.ScOk x) {t : Wf.Ty} (ht : t ∈ x) : Wf.endsIn x 8 t = true:=Wf.endsIn_mono _ _ (Wf.endsIn_enough ht (hx.ends t ht)) _ hx.len
theorem stands89 {x : Wf.Sc} (hx : Wf.ScOk x) (k : Wf.K) : Wf.stands x 9 k = Wf.stands x 8 k:=by
  cases k with
  | ref nm =>
    cases hf : x.find nm with
    | none => simp [Wf.stands,hf]
    | some t => exact Wf.stands_nxt hx.tys 8 9 t nm hf (ends8 hx (Wf.find_mem hf).1) (by decide)
  | _ => rfl
theorem stands_len {x : Wf.Sc} (hx : Wf.ScOk x) : ∀ (n : Nat) (k : Wf.K),(Wf.stands x n k).length ≤ 7 + 9 * n:=by
  intro n
  induction n with
  | zero => intro k;cases k <;> simp [Wf.stands]
  | succ n ih =>
    intro k
    cases k with
    | ref nm =>
      simp only [Wf.stands]
      cases hf : x.find nm with
      | none => simp
      | some t =>
        dsimp only
        by_cases h82 : t.sort = 82
        · rw [if_pos h82];simp;omega
        · rw [if_neg h82]
          cases hfs : t.fields with
          | nil => simp
          | cons f fs =>
            have htag : f.tag ≤ 999999:=by have:=((hx.tys t (Wf.find_mem hf).1).fds f (by rw [hfs];exact List.mem_cons_self ..)).tag2;omega
            have hd:=Wf.dec_len6 htag
            have hi:=ih f.kind
            by_cases h69 : t.sort = 69
            · simp only [h69,if_true,List.length_cons];omega
            · simp only [h69,if_false,List.length_cons,List.length_append,List.length_nil];omega
    | num => simp [Wf.stands];omega
    | txt => simp [Wf.stands];omega
    | flag => simp [Wf.stands];omega
    | list k => simp [Wf.stands];omega
    | opt k => simp [Wf.stands];omega
theorem stands_ref {x : Wf.Sc} {nm : List UInt8} {t : Wf.Ty} (hf : x.find nm = some t) : Wf.stands x 9 (.ref nm) = if t.sort = 82 then [123,125] else match t.fields with | [] => [] | f :: _ => if t.sort = 69 then 35 :: Wf.dec f.tag else 60 :: (Wf.dec f.tag ++ 61 :: (Wf.stands x 8 f.kind ++ [62])):=by
  simp only [Wf.stands,hf]
  cases t.fields <;> rfl
set_option maxRecDepth 20000 in
theorem l3Plain (k : Wf.K) (h : k = .num ∨ k = .txt ∨ k = .flag) (x : Wf.Sc) (w : World) : Calls Try.prog 63 #[tx k.text] w fun e w' => e = .returned (tx (Wf.stands x 9 k)) ∧ w = w':=by
  rcases h with rfl | rfl | rfl
  all_goals
    simp only [Wf.K.text,Wf.stands,tx]
    go_enter Try.func63,Try.ntmps63
    go_wp2
    go_ret
    exact ⟨rfl,rfl⟩
theorem get0 {s : ByteArray} {c : UInt8} {r : List UInt8} (h : s.data.toList = c :: r) : 0 < s.size ∧ ∀ h,(s[0]'h).toNat = c.toNat:=by
  have hl:=size_list s
  rw [h,List.length_cons] at hl
  have h0 : 0 < s.size:=by omega
  refine ⟨h0, ?_⟩
  obtain ⟨c',hc',e0⟩:=byte_at s 0 h0
  rw [h] at hc'
  have : c' = c:=by simpa using hc'.symm
  rw [this] at e0;exact e0
set_option maxRecDepth 20000 in
set_option maxHeartbeats 1000000 in
theorem l3stands_sign (v : Value) (c : UInt8) (hc : c = 91 ∨ c = 63) (r : List UInt8) (w : World) : Calls Try.prog 60 #[v,tx (c :: r)] w fun e w' => e = .returned (tx (if c = 91 then [91,93] else [45])) ∧ Below w.heap.size w w':=by
  obtain ⟨S,hS⟩ : ∃ S : ByteArray,(⟨(c :: r).toArray⟩ : ByteArray) = S:=⟨_,rfl⟩
  obtain ⟨h0,e0⟩:=get0 (s:=S) (c:=c) (r:=r) (by rw [← hS])
  rw [tx,hS]
  clear hS
  rcases hc with rfl | rfl
  all_goals
    have e1:=e0 h0
    clear e0
    go_enter Try.func60,Try.ntmps60
    go_wp2_with fail
    go_ret
    exact ⟨rfl,Below.refl _ _⟩
set_option maxRecDepth 20000 in
set_option maxHeartbeats 1000000 in
theorem l3stands_plain (x : Wf.Sc) (lo b : Nat) (v : Value) (k : Wf.K) (hk : k = .num ∨ k = .txt ∨ k = .flag) (W w : World) (hW : Below W.heap.size W w) (hx8 : x.length ≤ 1000) (H : ScSp W lo b v x) : Calls Try.prog 60 #[v,tx k.text] w fun e w' => e = .returned (tx (Wf.stands x 9 k)) ∧ Below w.heap.size w w':=by
  have HR:=hid (show Calls Try.prog 52 #[v,tx k.text] w fun e w' => e = .returned (.tuple #[.agg #[.int .u8 0,tx [], .slice none 0 0], .bool false]) ∧ Below w.heap.size w w' by
    refine (l3ref x lo b v k (by rcases hk with rfl | rfl | rfl <;> decide) W w hW hx8 H).mono fun e w' ⟨h1,h2⟩ => ⟨?_,h2⟩
    have : refT x k = none:=by rcases hk with rfl | rfl | rfl <;> rfl
    unfold TyFound at h1;rw [this] at h1;exact h1)
  have HP:=hid fun wz => l3Plain k hk x wz
  obtain ⟨O,hO⟩ : ∃ O : ByteArray,(⟨(Wf.stands x 9 k).toArray⟩ : ByteArray) = O:=⟨_,rfl⟩
  simp only [tx,hO] at HP
  rw [tx,tx,hO]
  obtain ⟨S,hS⟩ : ∃ S : ByteArray,(⟨k.text.toArray⟩ : ByteArray) = S:=⟨_,rfl⟩
  simp only [tx,hS] at HP HR
  rw [hS]
  have hx : (0 < S.size ∧ ∀ h,(S[0]'h).toNat = 110) ∨ (0 < S.size ∧ ∀ h,(S[0]'h).toNat = 116) ∨ (0 < S.size ∧ ∀ h,(S[0]'h).toNat = 102):=by
    rcases hk with rfl | rfl | rfl
    · exact .inl (get0 (c:=110) (r:=[]) (by rw [← hS];rfl))
    · exact .inr (.inl (get0 (c:=116) (r:=[]) (by rw [← hS];rfl)))
    · exact .inr (.inr (get0 (c:=102) (r:=[]) (by rw [← hS];rfl)))
  clear hS hO hk H hW
  rcases hx with ⟨h0,e0⟩ | ⟨h0,e0⟩ | ⟨h0,e0⟩
  all_goals
    have e1:=e0 h0
    clear e0
    go_enter Try.func60,Try.ntmps60
    go_wp2_with (first | (go_at_call 63;refine (HP.out _).mono ?_;rintro e w3 ⟨rfl,rfl⟩) | (go_at_call 52;refine HR.out.mono ?_;rintro e w2 ⟨rfl,hb2⟩;have HB2:=hid hb2;clear hb2))
    go_ret
    exact ⟨rfl,by have B:=HB2.out;repeat (first | with_reducible exact B | with_reducible refine Below.alloc ?_ (by first | exact B.size | (simp;omega)) _)⟩
set_option maxRecDepth 20000 in
set_option maxHeartbeats 1000000 in
theorem row_first {W w w2 : World} {fb n : Nat} {fa : Option Addr} {fc : Nat} {cells : List (List Value)} (hrow : RowK W fb (.slice fa n fc) 4 cells) (hc0 : 0 < cells.length) (hW : Below W.heap.size W w) (hb2 : Below w.heap.size w w2) :
    ∃ go,fa = some ⟨fb,go,none⟩ ∧ n ≤ fc ∧ fc ≤ maxLen ∧ fb < w2.heap.size ∧ ∀ j u,j < 4 → (cells[0]'hc0)[j]? = some u → w2.cell? ⟨fb,go + j,none⟩ = some u:=by
  obtain ⟨go,h1,hgw,hgm,hgc,hcell⟩:=RowK.get hrow (i:=0) hc0
  have B:=hW.trans (hb2.mono hW.size)
  refine ⟨go,h1,hgm,hgc,Nat.lt_of_lt_of_le hgw B.size,fun j u hj hu => ?_⟩
  have:=(B.cell (p:=⟨fb,go + 0 * 4 + j,none⟩) hgw).trans (hcell j u hj hu)
  simpa using this
theorem l3stands_rec (v : Value) (KT : ByteArray) (h0 : 0 < KT.size) (e0 : ∀ h,(KT[0]'h).toNat = 64) (N : ByteArray) (n : Nat) (w : World)
    (href : Calls Try.prog 52 #[v, .string KT] w fun e w' => (∃ fa fc,e = .returned (.tuple #[.agg #[.int .u8 82, .string N, .slice fa n fc], .bool true])) ∧ Below w.heap.size w w') :
    Calls Try.prog 60 #[v, .string KT] w fun e w' => e = .returned (.string ⟨#[123,125]⟩) ∧ Below w.heap.size w w':=by
  have HR:=hid href
  have e1:=e0 h0
  clear e0 href
  go_enter Try.func60,Try.ntmps60
  go_wp2_with (go_at_call 52;refine HR.out.mono ?_;rintro e w2 ⟨⟨fa,fc,rfl⟩,hb2⟩;have HB2:=hid hb2;clear hb2)
  go_ret
  exact ⟨rfl,by have B:=HB2.out;repeat (first | with_reducible exact B | with_reducible refine Below.alloc ?_ (by first | exact B.size | (simp;omega)) _)⟩
set_option maxRecDepth 20000 in
set_option maxHeartbeats 1000000 in
theorem l3stands_enum (v : Value) (KT : ByteArray) (h0 : 0 < KT.size) (e0 : ∀ h,(KT[0]'h).toNat = 64) (N : ByteArray) (n : Nat) (W w : World) (hW : Below W.heap.size W w) (G : Nat) (hG : G ≤ 999999) (O : ByteArray) (cells : List (List Value))
    (href : Calls Try.prog 52 #[v, .string KT] w fun e w' => (∃ fb fa fc,e = .returned (.tuple #[.agg #[.int .u8 69, .string N, .slice fa n fc], .bool true]) ∧ RowK W fb (.slice fa n fc) 4 cells) ∧ Below w.heap.size w w')
    (hn : 0 < n) (hc0 : 0 < cells.length) (hc : cells[0][0]? = some (.int .i64 G)) (ho : O.data.toList = 35 :: Wf.dec G) :
    Calls Try.prog 60 #[v, .string KT] w fun e w' => e = .returned (.string O) ∧ Below w.heap.size w w':=by
  have HR:=hid href
  have e1:=e0 h0
  have HF:=hid fun fb fa fc w2 (hrow : RowK W fb (.slice fa n fc) 4 cells) (hb2 : Below w.heap.size w w2) => row_first hrow hc0 hW hb2
  have HC:=hid hc
  have HD:=hid fun wz => l6Dec G G wz (Nat.le_refl _) (by omega)
  have ld:=Wf.dec_len6 hG
  obtain ⟨D,hD⟩ : ∃ D : ByteArray,(⟨(Wf.dec G).toArray⟩ : ByteArray) = D:=⟨_,rfl⟩
  simp only [tx,hD] at HD
  have hds : D.size ≤ 6:=by rw [← hD,← size_list];simpa using ld
  have HO:=hid (show (⟨#[35]⟩ : ByteArray) ++ D = O by rw [eq_list,ho,← hD];simp)
  clear e0 href ho hD ld hc
  go_enter Try.func60,Try.ntmps60
  go_wp2_with (first | (go_at_call 41;refine (HD.out _).mono ?_;rintro e w3 ⟨rfl,hb3⟩;have HB3:=hid hb3;clear hb3) | (go_at_call 52;refine HR.out.mono ?_;rintro e w2 ⟨⟨fb,fa,fc,rfl,hrow⟩,hb2⟩;obtain ⟨go,rfl,hm,hmx,hz2,hcell⟩:=HF.out _ _ _ _ hrow hb2;have g0:=hcell 0 _ (by decide) HC.out;rw [Nat.add_zero] at g0;have HB2:=hid hb2;clear hb2 hrow hcell))
  go_ret
  exact ⟨ret_str HO.out,by have B:=below_join (HB2.out.alloc HB2.out.size _) HB3.out;repeat (first | with_reducible exact B | with_reducible refine Below.alloc ?_ (by first | exact B.size | (simp;omega)) _)⟩
set_option maxRecDepth 20000 in
set_option maxHeartbeats 2000000 in
theorem l3stands_union (v : Value) (KT K2 : ByteArray) (h0 : 0 < KT.size) (e0 : ∀ h,(KT[0]'h).toNat = 64) (N : ByteArray) (n : Nat) (W w : World) (hW : Below W.heap.size W w) (G : Nat) (hG : G ≤ 999999) (S2 O : ByteArray) (hS2 : S2.size ≤ 200) (cells : List (List Value))
    (href : Calls Try.prog 52 #[v, .string KT] w fun e w' => (∃ fb fa fc,e = .returned (.tuple #[.agg #[.int .u8 85, .string N, .slice fa n fc], .bool true]) ∧ RowK W fb (.slice fa n fc) 4 cells) ∧ Below w.heap.size w w')
    (hn : 0 < n) (hc0 : 0 < cells.length) (hc : cells[0][0]? = some (.int .i64 G)) (hc2 : cells[0][2]? = some (.string K2)) (ho : O.data.toList = 60 :: (Wf.dec G ++ 61 :: (S2.data.toList ++ [62])))
    (hrec : ∀ wz,Below w.heap.size w wz → Calls Try.prog 60 #[v, .string K2] wz fun e w' => e = .returned (.string S2) ∧ Below wz.heap.size wz w') :
    Calls Try.prog 60 #[v, .string KT] w fun e w' => e = .returned (.string O) ∧ Below w.heap.size w w':=by
  have HR:=hid href
  have e1:=e0 h0
  clear e0 href
  have HF:=hid fun fb fa fc w2 (hrow : RowK W fb (.slice fa n fc) 4 cells) (hb2 : Below w.heap.size w w2) => row_first hrow hc0 hW hb2
  have HC:=hid hc
  have HC2:=hid hc2
  have HD:=hid fun wz => l6Dec G G wz (Nat.le_refl _) (by omega)
  have ld:=Wf.dec_len6 hG
  obtain ⟨D,hD⟩ : ∃ D : ByteArray,(⟨(Wf.dec G).toArray⟩ : ByteArray) = D:=⟨_,rfl⟩
  simp only [tx,hD] at HD
  have hds : D.size ≤ 6:=by rw [← hD,← size_list];simpa using ld
  have HO:=hid (show (⟨#[60]⟩ : ByteArray) ++ D ++ ⟨#[61]⟩ ++ S2 ++ ⟨#[62]⟩ = O by rw [eq_list,ho,← hD];simp)
  have HREC:=hid hrec
  have a1:=fun wz => run_string_add_sum (P:=Try.prog) (w:=wz) ⟨#[60]⟩ D (by show 1 + D.size ≤ _;omega)
  have a2:=fun wz => run_string_add_sum (P:=Try.prog) (w:=wz) (⟨#[60]⟩ ++ D) ⟨#[61]⟩ (by rw [ByteArray.size_append];show 1 + D.size + 1 ≤ _;omega)
  have a3:=fun wz => run_string_add_sum (P:=Try.prog) (w:=wz) (⟨#[60]⟩ ++ D ++ ⟨#[61]⟩) S2 (by rw [ByteArray.size_append,ByteArray.size_append];show 1 + D.size + 1 + S2.size ≤ _;omega)
  have a4:=fun wz => run_string_add_sum (P:=Try.prog) (w:=wz) (⟨#[60]⟩ ++ D ++ ⟨#[61]⟩ ++ S2) ⟨#[62]⟩ (by rw [ByteArray.size_append,ByteArray.size_append,ByteArray.size_append];show 1 + D.size + 1 + S2.size + 1 ≤ _;omega)
  clear ho hD ld hc hc2 hrec
  go_enter Try.func60,Try.ntmps60
  go_wp2_with (go_at_call 52;refine HR.out.mono ?_;rintro e w2 ⟨⟨fb,fa,fc,rfl,hrow⟩,hb2⟩;obtain ⟨go,rfl,hm,hmx,hz2,hcell⟩:=HF.out _ _ _ _ hrow hb2;have g0:=hcell 0 _ (by decide) HC.out;rw [Nat.add_zero] at g0;have g2:=hcell 2 _ (by decide) HC2.out;have HB2:=hid hb2;have F:=Lib.hid fun (wz : World) (hz : Below (w2.heap.size + 1) (w2.alloc (.cells #[.int .u8 85, .string N, .slice (some ⟨fb,go,none⟩) n fc] 78)) wz) => (show wz.cell? ⟨w2.heap.size,2,none⟩ = some (.slice (some ⟨fb,go,none⟩) n fc) ∧ wz.cell? ⟨fb,go,none⟩ = some (.int .i64 G) ∧ wz.cell? ⟨fb,go + 2,none⟩ = some (.string K2) from ⟨(hz.cell (p:=⟨w2.heap.size,2,none⟩) (by simp)).trans (by simp),(hz.cell (p:=⟨fb,go,none⟩) (by simp;omega)).trans ((World.cell?_alloc_lt w2 _ _ hz2).trans g0),(hz.cell (p:=⟨fb,go + 2,none⟩) (by simp;omega)).trans ((World.cell?_alloc_lt w2 _ _ hz2).trans g2)⟩);clear hb2 hrow hcell)
  go_region_held3 (fun w' => w'.cell? ⟨w2.heap.size,2,none⟩ = some (.slice (some ⟨fb,go,none⟩) n fc) ∧ w'.cell? ⟨fb,go,none⟩ = some (.int .i64 G) ∧ w'.cell? ⟨fb,go + 2,none⟩ = some (.string K2)) (first | exact ⟨k1,k2,k3⟩ | exact ⟨d1,d2,d3⟩ | go_keep) (first | (go_at_call 41;refine (HD.out _).mono ?_;rintro e w3 ⟨rfl,hb3⟩;have TD:=Lib.hid (show Below (w2.heap.size + 1) (w2.alloc (.cells #[.int .u8 85, .string N, .slice (some ⟨fb,go,none⟩) n fc] 78)) w3 by first | exact TS.out.trans (hb3.mono (by have:=TS.out.size;simp at this;omega)) | exact Below.trans ((Below.refl _ _).drew) (hb3.mono (by show _ ≤ (World.alloc _ _).heap.size;simp)));obtain ⟨d1,d2,d3⟩:=F.out _ TD.out;clear hb3) | (go_at_call 60;refine (HREC.out _ (by first | exact (HB2.out.alloc HB2.out.size _).trans (TD.out.mono (by have:=HB2.out.size;omega)) | exact (HB2.out.alloc HB2.out.size _).drew)).mono ?_;rintro e w4 ⟨rfl,hb4⟩;have TS:=Lib.hid (show Below (w2.heap.size + 1) (w2.alloc (.cells #[.int .u8 85, .string N, .slice (some ⟨fb,go,none⟩) n fc] 78)) w4 by first | exact TD.out.trans (hb4.mono (by have:=TD.out.size;simp at this;omega)) | exact Below.trans ((Below.refl _ _).drew) (hb4.mono (by show _ ≤ (World.alloc _ _).heap.size;simp)));obtain ⟨k1,k2,k3⟩:=F.out _ TS.out;clear hb4))
  all_goals go_wp2
  all_goals go_ret
  all_goals exact ⟨ret_str HO.out,by first | exact (HB2.out.alloc HB2.out.size _).trans (TS.out.mono (by have:=HB2.out.size;omega)) | exact (HB2.out.alloc HB2.out.size _).trans (TD.out.mono (by have:=HB2.out.size;omega))⟩
theorem l3standsN (x : Wf.Sc) (hx : Wf.ScOk x) (lo b : Nat) (v : Value) (W : World) (H : ScSp W lo b v x) : ∀ (n : Nat) (k : Wf.K) (w : World),Below W.heap.size W w → k.text.length ≤ 12 → Wf.hasRef x k = true → (∀ t,refT x k = some t → Wf.endsIn x n t = true) →
    Calls Try.prog 60 #[v,tx k.text] w fun e w' => e = .returned (tx (Wf.stands x 9 k)) ∧ Below w.heap.size w w':=by
  have hx8:=hx.len
  intro n
  induction n with
  | zero =>
    intro k w hW hk hr he
    cases k with
    | ref nm =>
      obtain ⟨t,ht⟩:=Option.isSome_iff_exists.1 (show (x.find nm).isSome = true by simpa [Wf.hasRef,Wf.K.base,Wf.K.name] using hr)
      have:=he t ht
      simp [Wf.endsIn] at this
    | num => exact l3stands_plain x lo b v _ (.inl rfl) W w hW (by omega) H
    | txt => exact l3stands_plain x lo b v _ (.inr (.inl rfl)) W w hW (by omega) H
    | flag => exact l3stands_plain x lo b v _ (.inr (.inr rfl)) W w hW (by omega) H
    | list k => exact l3stands_sign v 91 (.inl rfl) k.text w
    | opt k => exact l3stands_sign v 63 (.inr rfl) k.text w
  | succ n ih =>
    intro k w hW hk hr he
    cases k with
    | num => exact l3stands_plain x lo b v _ (.inl rfl) W w hW (by omega) H
    | txt => exact l3stands_plain x lo b v _ (.inr (.inl rfl)) W w hW (by omega) H
    | flag => exact l3stands_plain x lo b v _ (.inr (.inr rfl)) W w hW (by omega) H
    | list k => exact l3stands_sign v 91 (.inl rfl) k.text w
    | opt k => exact l3stands_sign v 63 (.inr rfl) k.text w
    | ref nm =>
      obtain ⟨t,ht⟩:=Option.isSome_iff_exists.1 (show (x.find nm).isSome = true by simpa [Wf.hasRef,Wf.K.base,Wf.K.name] using hr)
      have hm:=(Wf.find_mem ht).1
      have hok:=hx.tys t hm
      have hend:=he t ht
      have hs:=stands_ref ht
      obtain ⟨g0,g1⟩:=get0 (s:=⟨(Wf.K.ref nm).text.toArray⟩) (c:=64) (r:=nm ++ [59]) rfl
      have href:=l3ref x lo b v (.ref nm) (by omega) W w hW (by omega) H
      have href2 : Calls Try.prog 52 #[v,tx (Wf.K.ref nm).text] w fun e w' => (∃ fb a c,e = .returned (.tuple #[.agg #[.int .u8 t.sort.toNat,tx t.name, .slice a t.fields.length c], .bool true]) ∧ lo ≤ fb ∧ RowK W fb (.slice a t.fields.length c) 4 (t.fields.map (fdS t.sort))) ∧ Below w.heap.size w w':=by
        refine href.mono fun e w' ⟨h1,h2⟩ => ⟨?_,h2⟩
        unfold TyFound at h1
        rw [show refT x (.ref nm) = some t from ht] at h1
        exact h1
      by_cases h82 : t.sort = 82
      · rw [hs,if_pos h82]
        refine l3stands_rec v ⟨(Wf.K.ref nm).text.toArray⟩ g0 g1 ⟨t.name.toArray⟩ t.fields.length w (href2.mono fun e w' ⟨⟨fb,a,c,h1,_,_⟩,h2⟩ => ⟨⟨a,c, ?_⟩,h2⟩)
        rw [h1,h82];rfl
      · rw [if_neg h82] at hs
        obtain ⟨f,fs,hfs⟩ : ∃ f fs,t.fields = f :: fs:=List.exists_cons_of_ne_nil (hok.some h82)
        have hfd:=hok.fds f (by rw [hfs];exact List.mem_cons_self ..)
        have htag : f.tag ≤ 999999:=by have:=hfd.tag2;omega
        rw [hfs] at hs
        dsimp only at hs
        have hlen : 0 < (t.fields.map (fdS t.sort)).length:=by rw [hfs];simp
        have e0 : (t.fields.map (fdS t.sort))[0]'hlen = fdS t.sort f:=by simp [hfs]
        by_cases h69 : t.sort = 69
        · rw [if_pos h69] at hs
          rw [hs]
          refine l3stands_enum v ⟨(Wf.K.ref nm).text.toArray⟩ g0 g1 ⟨t.name.toArray⟩ t.fields.length W w hW f.tag htag ⟨(35 :: Wf.dec f.tag).toArray⟩ _ (href2.mono fun e w' ⟨⟨fb,a,c,h1,_,h3⟩,h2⟩ => ⟨⟨fb,a,c, ?_,h3⟩,h2⟩) (by rw [hfs];simp) hlen (by rw [e0];rfl) rfl
          rw [h1,h69];rfl
        · rw [if_neg h69] at hs
          have h85 : t.sort = 85:=by
            rcases hok.sort with h | h | h
            · exact absurd h h82
            · exact h
            · exact absurd h h69
          have hk2:=fd_kind hfd
          have hr2:=hx.refs t hm h69 f (by rw [hfs];exact List.mem_cons_self ..)
          have hL:=stands_len hx 9 f.kind
          rw [← stands89 hx] at hs
          rw [hs]
          refine l3stands_union v ⟨(Wf.K.ref nm).text.toArray⟩ ⟨f.kind.text.toArray⟩ g0 g1 ⟨t.name.toArray⟩ t.fields.length W w hW f.tag htag ⟨(Wf.stands x 9 f.kind).toArray⟩ _ (by rw [← size_list];simpa using Nat.le_trans hL (by decide)) _ (href2.mono fun e w' ⟨⟨fb,a,c,h1,_,h3⟩,h2⟩ => ⟨⟨fb,a,c, ?_,h3⟩,h2⟩) (by rw [hfs];simp) hlen (by rw [e0];rfl) (by rw [e0,fdS,if_neg h69];rfl) rfl (fun wz hz => ih f.kind wz (hW.trans (hz.mono hW.size)) hk2 hr2 fun u hu => ?_)
          · rw [h1,h85];rfl
          · have:=ends_step (x:=x) (m:=n) h85 hfs
            rw [hend,hu] at this
            exact this.symm
theorem l3stands (x : Wf.Sc) (hx : Wf.ScOk x) (lo b : Nat) (v : Value) (k : Wf.K) (W w : World) (hW : Below W.heap.size W w) (H : ScSp W lo b v x) (hk : k.text.length ≤ 12) (hr : Wf.hasRef x k = true) :
    Calls Try.prog 60 #[v,tx k.text] w fun e w' => e = .returned (tx (Wf.stands x 9 k)) ∧ Below w.heap.size w w' :=
  l3standsN x hx lo b v W H 9 k w hW hk hr fun t ht => hx.ends t (refT_mem ht)

set_option maxRecDepth 20000 in
set_option maxHeartbeats 1000000 in
theorem l3stand_w (v : Value) (G : Int) (N K S O : ByteArray) (w : World) (h : (S.toList.isEmpty = true ∧ Calls Try.prog 60 #[v, .string K] (w.alloc (.cells #[.int .i64 G, .string N, .string K, .string S] 85)) fun e w' => e = .returned (.string O) ∧ Below (w.heap.size + 1) (w.alloc (.cells #[.int .i64 G, .string N, .string K, .string S] 85)) w') ∨ (S.toList.isEmpty = false ∧ O = S)) :
    Calls Try.prog 53 #[v, .agg #[.int .i64 G, .string N, .string K, .string S]] w fun e w' => e = .returned (.string O) ∧ Below w.heap.size w w':=by
  rcases h with ⟨he,hc⟩ | ⟨he,rfl⟩
  · have HC:=hid hc
    clear hc
    go_enter Try.func53,Try.ntmps53
    go_wp2_with (go_at_call 60;refine HC.out.mono ?_;rintro e w2 ⟨rfl,hb2⟩;have HB2:=hid hb2;clear hb2)
    go_ret
    exact ⟨rfl,((Below.refl _ _).alloc (Nat.le_refl _) _).trans (HB2.out.mono (Nat.le_succ _))⟩
  · go_enter Try.func53,Try.ntmps53
    go_wp2_with fail
    go_ret
    exact ⟨rfl,(Below.refl _ _).alloc (Nat.le_refl _) _⟩
theorem l3stand (x : Wf.Sc) (hx : Wf.ScOk x) (lo b : Nat) (v : Value) (f : Wf.Fd) (W w : World) (hW : Below W.heap.size W w) (H : ScSp W lo b v x) (hk : f.kind.text.length ≤ 12) (hr : Wf.hasRef x f.kind = true) :
    Calls Try.prog 53 #[v, .agg #[.int .i64 f.tag,tx f.name,tx f.kind.text,tx f.given]] w fun e w' => e = .returned (tx (Wf.standF x f)) ∧ Below w.heap.size w w':=by
  refine l3stand_w v f.tag ⟨f.name.toArray⟩ ⟨f.kind.text.toArray⟩ ⟨f.given.toArray⟩ ⟨(Wf.standF x f).toArray⟩ w ?_
  unfold Wf.standF
  by_cases hg : f.given = []
  · left
    refine ⟨by rw [ByteArray.toList_eq,hg];rfl, ?_⟩
    rw [if_pos hg]
    refine (l3stands x hx lo b v f.kind W _ (hW.alloc hW.size _) H hk hr).mono fun e w' ⟨h1,h2⟩ => ⟨h1, ?_⟩
    have : (w.alloc (.cells #[.int .i64 f.tag, .string ⟨f.name.toArray⟩, .string ⟨f.kind.text.toArray⟩, .string ⟨f.given.toArray⟩] 85)).heap.size = w.heap.size + 1:=by simp
    rw [← this];exact h2
  · right
    refine ⟨by rw [ByteArray.toList_eq];cases hh : f.given with | nil => exact absurd hh hg | cons a r => rfl,by rw [if_neg hg]⟩
def kindOf (l kt : List UInt8) : Option (Wf.Sc × Wf.K):=match Wf.schemaOf l with
  | none => none
  | some x => match Wf.parseK kt with
    | none => none
    | some k => if Wf.hasRef x k = true then some (x,k) else none
def LkOut (l kt : List UInt8) (lo : Nat) (e : Ending) (w' : World) : Prop:=match kindOf l kt with
  | some y => ∃ b a c,e = .returned (.tuple #[.slice a y.1.length c, .bool true]) ∧ ScSp w' lo b (.slice a y.1.length c) y.1
  | none => ∃ a n c,e = .returned (.tuple #[.slice a n c, .bool false])
theorem kindOf_text {l kt : List UInt8} {y : Wf.Sc × Wf.K} (h : kindOf l kt = some y) : Wf.schemaOf l = some y.1 ∧ Wf.parseK kt = some y.2 ∧ Wf.hasRef y.1 y.2 = true ∧ y.2.text = kt ∧ kt.length ≤ 12:=by
  unfold kindOf at h
  cases hs : Wf.schemaOf l with
  | none => rw [hs] at h;cases h
  | some x =>
    rw [hs] at h
    cases hk : Wf.parseK kt with
    | none => rw [hk] at h;cases h
    | some k =>
      rw [hk] at h
      dsimp only at h
      split at h
      · rename_i hr
        simp only [Option.some.injEq] at h
        subst h
        have hl:=parseK_len hk
        unfold Wf.parseK at hk
        split at hk
        · exact ⟨rfl,rfl,hr,Wf.kindIn_text hk,by assumption⟩
        · cases hk
      · cases h
theorem lk_fin {l kt : List UInt8} {x : Wf.Sc} {k : Wf.K} {is ok : Bool} {n lo b c : Nat} {a : Option Addr} {w' : World} (h : kindOf l kt = if (!is || ok) = true then some (x,k) else none) (hn : x.length = n) (hs : ScSp w' lo b (.slice a n c) x) {r : Bool} (hr : r = (!is || ok)) : LkOut l kt lo (.returned (.tuple #[.slice a n c, .bool r])) w':=by
  subst hr
  unfold LkOut
  rw [h]
  cases hb : (!is || ok) with
  | true => rw [if_pos rfl];exact ⟨b,a,c,by rw [hn],by rw [hn];exact hs⟩
  | false => rw [if_neg (by decide)];exact ⟨_,_,_,rfl⟩
set_option maxRecDepth 20000 in
set_option maxHeartbeats 1000000 in
theorem l3Kind (s kt : ByteArray) (w : World) (hs : s.size ≤ 1048576) : Calls Try.prog 28 #[.string s, .string kt] w fun e w' => LkOut s.data.toList kt.data.toList w.heap.size e w' ∧ Below w.heap.size w w':=by
  have HOF:=hid fun wz => l3Of s wz hs
  have HOK:=hid fun wz => kindOk_spec kt.size kt wz (Nat.le_refl _)
  cases hsc : Wf.schemaOf s.data.toList with
  | none =>
    have HO:=hid fun e lo wz (h : OfOut s.data.toList lo e wz) => (by unfold OfOut at h;rw [hsc] at h;exact h : ∃ a n c,e = .returned (.tuple #[.slice a n c, .bool false]))
    have HF:=hid (show kindOf s.data.toList kt.data.toList = none by unfold kindOf;rw [hsc])
    clear hsc
    go_enter Try.func28,Try.ntmps28
    go_wp2_with (go_at_call 36;refine (HOF.out _).mono ?_;rintro e w2 ⟨ho,hb2⟩;obtain ⟨a,n,c,rfl⟩:=HO.out _ _ _ ho;have HB2:=hid hb2;clear ho hb2)
    go_ret2
    exact ⟨by unfold LkOut;rw [HF.out];exact ⟨_,_,_,rfl⟩,HB2.out⟩
  | some x =>
    have hx8:=(Wf.schemaOf_ok hsc).len
    have HO:=hid fun e lo wz (h : OfOut s.data.toList lo e wz) => (by unfold OfOut at h;rw [hsc] at h;obtain ⟨b,v,he,hsp⟩:=h;obtain ⟨a,c,rfl,_⟩:=hsp.slice;exact ⟨b,a,c,he,hsp⟩ : ∃ b a c,e = .returned (.tuple #[.slice a x.length c, .bool true]) ∧ ScSp wz lo b (.slice a x.length c) x)
    obtain ⟨n,hn⟩ : ∃ n,x.length = n:=⟨_,rfl⟩
    rw [hn] at HO
    have HN:=hid hn
    cases hk : Wf.parseK kt.data.toList with
    | none =>
      rw [ok_none hk] at HOK
      have HF:=hid (show kindOf s.data.toList kt.data.toList = none by unfold kindOf;rw [hsc];dsimp only;rw [hk])
      clear hsc hk hn
      go_enter Try.func28,Try.ntmps28
      go_wp2_with (first | (go_at_call 37;refine (HOK.out _).mono ?_;rintro e w3 ⟨rfl,rfl⟩) | (go_at_call 36;refine (HOF.out _).mono ?_;rintro e w2 ⟨ho,hb2⟩;obtain ⟨b,a,c,rfl,hs2⟩:=HO.out _ _ _ ho;have HB2:=hid hb2;clear ho hb2 hs2))
      go_ret2
      exact ⟨by unfold LkOut;rw [HF.out];exact ⟨_,_,_,rfl⟩,HB2.out⟩
    | some k =>
      rw [ok_some hk] at HOK
      have hkl:=parseK_len hk
      have hkt : tx k.text = .string kt:=by
        unfold Wf.parseK at hk
        split at hk
        · rw [Wf.kindIn_text hk]
        · cases hk
      have HCORE:=hid fun wz => l2Core_text k (by omega) wz
      have hcl:=core_len k
      have HREF:=hid fun wz => l2Ref_text k.core (by omega) wz
      obtain ⟨NM,is,hri,hhas⟩:=core_is x k
      rw [hri] at HREF
      have HFIND:=hid fun wz lo b v (h : ScSp wz lo b v x) => (l3findAny x lo b v NM wz wz (Below.refl _ _) (by omega) h)
      obtain ⟨CT,hCT⟩ : ∃ CT : ByteArray,(⟨k.core.text.toArray⟩ : ByteArray) = CT:=⟨_,rfl⟩
      rw [hkt] at HCORE
      simp only [tx,hCT] at HCORE HREF
      obtain ⟨ok,hokk⟩ : ∃ ok,(x.find NM.data.toList).isSome = ok:=⟨_,rfl⟩
      rw [hokk] at hhas HFIND
      have HF:=hid (show kindOf s.data.toList kt.data.toList = if (!is || ok) = true then some (x,k) else none by unfold kindOf;rw [hsc];dsimp only;rw [hk];dsimp only;rw [hhas])
      clear hsc hk hn hhas hokk hCT hri hcl hkl hkt
      have hcs : (is = false) ∨ (is = true ∧ ok = true) ∨ (is = true ∧ ok = false):=by cases is <;> cases ok <;> simp
      go_enter Try.func28,Try.ntmps28
      go_wp2_with (first | (go_at_call 40;refine (HFIND.out _ _ _ _ HS.out).mono ?_;rintro e w5 ⟨⟨fq,fN,fA,fM,fC,rfl⟩,hb5⟩;have HB5:=hid hb5;clear hb5) | (go_at_call 38;refine (HREF.out _).mono ?_;rintro e w4 ⟨rfl,rfl⟩) | (go_at_call 39;refine (HCORE.out _).mono ?_;rintro e w3 ⟨rfl,rfl⟩) | (go_at_call 37;refine (HOK.out _).mono ?_;rintro e w3 ⟨rfl,rfl⟩) | (go_at_call 36;refine (HOF.out _).mono ?_;rintro e w2 ⟨ho,hb2⟩;obtain ⟨b,a,c,rfl,hs2⟩:=HO.out _ _ _ ho;have HS:=hid hs2;have HB2:=hid hb2;clear ho hb2 hs2))
      all_goals go_ret2
      · exact ⟨lk_fin (is:=is) (ok:=ok) HF.out HN.out (HS.out.below HB5.out |>.below ((Below.refl _ _).alloc (Nat.le_refl _) _)) (by simp [*]),(HB2.out.trans (HB5.out.mono HB2.out.size)).alloc (Nat.le_trans HB2.out.size HB5.out.size) _⟩
      · exact ⟨lk_fin (is:=is) (ok:=ok) HF.out HN.out (HS.out.below HB5.out |>.below ((Below.refl _ _).alloc (Nat.le_refl _) _)) (by simp [*]),(HB2.out.trans (HB5.out.mono HB2.out.size)).alloc (Nat.le_trans HB2.out.size HB5.out.size) _⟩
def okL (l : List UInt8) : Bool:=(Wf.schemaOf l).isSome
theorem of_ok {l : List UInt8} {lo : Nat} {e : Ending} {w' : World} (h : OfOut l lo e w') : ∃ a n c,e = .returned (.tuple #[.slice a n c, .bool (okL l)]):=by
  unfold OfOut at h
  unfold okL
  cases hs : Wf.schemaOf l with
  | none => rw [hs] at h;exact h
  | some x =>
    rw [hs] at h
    obtain ⟨b,v,he,hsp⟩:=h
    obtain ⟨a,c,rfl,_⟩:=hsp.slice
    exact ⟨_,_,_,he⟩
set_option maxRecDepth 20000 in
theorem schemaOk_s (s : ByteArray) (w : World) (hs : s.size ≤ 1048576) : Calls Try.prog 26 #[.string s] w fun e w' => e = .returned (.bool (okL s.data.toList)) ∧ Below w.heap.size w w':=by
  have HOF:=hid fun wz => l3Of s wz hs
  go_enter Try.func26,Try.ntmps26
  go_wp2_with (go_at_call 36;refine (HOF.out _).mono ?_;rintro e w2 ⟨ho,hb2⟩;obtain ⟨a,n,c,rfl⟩:=of_ok ho;have HB2:=hid hb2;clear ho hb2)
  go_ret
  exact ⟨rfl,HB2.out⟩
theorem apart_step {v v' : Value} {wx w' : World} (hg : wx.grownBy w' v.ownBlock) (hl : v'.ownBlock = v.ownBlock ∨ v'.ownBlock = some wx.heap.size) {b : Nat} (hb : b < wx.heap.size) (ha : some b ≠ v.ownBlock) : w'.heap[b]? = wx.heap[b]? ∧ some b ≠ v'.ownBlock:=by
  refine ⟨hg.block b hb ha, ?_⟩
  rcases hl with h | h
  · rw [h];exact ha
  · rw [h];intro e;have:=Option.some.inj e;omega
structure Gat (w w2 wr : World) (e : TypeId) (b : Nat) (v : Value) (n : Nat) (xs : List Value) : Prop where
  own : wr.ownsRow w.heap.size e 1 v n xs
  size : w2.heap.size ≤ wr.heap.size
  block : wr.heap[b]? = w2.heap[b]?
  apart : some b ≠ v.ownBlock
  below : Below w.heap.size w wr
theorem Gat.cell {w w2 wr : World} {e : TypeId} {b : Nat} {v : Value} {n : Nat} {xs : List Value} (h : Gat w w2 wr e b v n xs) {o : Nat} {u : Value} (hu : w2.cell? ⟨b,o,none⟩ = some u) : wr.cell? ⟨b,o,none⟩ = some u:=(World.cell?_of_block (w:=w2) (a:=⟨b,o,none⟩) h.block).trans hu
theorem Gat.put {w w2 wr w' : World} {e : TypeId} {b : Nat} {v v' : Value} {n m : Nat} {xs ys : List Value} {o : Obj} (h : Gat w w2 wr e b v n xs) (hb : b < w2.heap.size) (hg : (wr.alloc o).grownBy w' v.ownBlock) (hl : v'.ownBlock = v.ownBlock ∨ v'.ownBlock = some (wr.alloc o).heap.size) (ho : w'.ownsRow w.heap.size e 1 v' m ys) : Gat w w2 w' e b v' m ys:=by
  have hbr : b < wr.heap.size:=Nat.lt_of_lt_of_le hb h.size
  have hs : (wr.alloc o).heap.size = wr.heap.size + 1:=by simp
  obtain ⟨a1,a2⟩:=apart_step hg hl (by omega) h.apart
  refine ⟨ho, ?_, ?_,a2, ?_⟩
  · have:=hg.size;have:=h.size;omega
  · rw [a1]
    have hA:=(Below.refl wr.heap.size wr).alloc (Nat.le_refl _) o
    rw [hA.block b hbr,h.block]
  · refine (h.below.alloc h.below.size o).trans ?_
    refine below_grown2 hg (fun g hgk => (owns_lt h.own g hgk).1) ?_
    have:=h.below.size;omega
theorem info_int : (Try.prog.info? 3).map (fun i => (i.zero,i.size,i.bytes)) = some (some (.int .i64 0),1,8):=by kernel_rfl

def hasParts (w : UInt8) : Prop:=w = 91 ∨ w = 63 ∨ w = 61 ∨ w = 82 ∨ w = 85
structure ShapeV (what : UInt8) (tag : Nat) (kids : List Wf.V) : Prop where
  tag : tag ≤ 999999
  parts : kids ≠ [] → hasParts what
  fld : what = 61 → kids.length = 1
mutual
def VC (W : World) (P : Nat → Prop) : Wf.V → List Value → Prop
  | .mk what text tag kids,cs => ∃ (a : Option Addr) (c : Nat),cs = [.int .u8 what.toNat,tx text, .int .i64 tag, .slice a kids.length c] ∧ kids.length ≤ c ∧ c ≤ maxLen ∧ ShapeV what tag kids ∧ (kids = [] ∨ ∃ b o,a = some ⟨b,o,none⟩ ∧ P b ∧ b < W.heap.size ∧ VCs W P b o kids)
def VCs (W : World) (P : Nat → Prop) (b : Nat) : Nat → List Wf.V → Prop
  | _,[] => True
  | o,v :: l => (∃ cs,VC W P v cs ∧ ∀ j u,cs[j]? = some u → W.cell? ⟨b,o + j,none⟩ = some u) ∧ VCs W P b (o + 4) l
end
section
variable {W W' : World} {P Q : Nat → Prop}
mutual
theorem VC.keep (hk : ∀ b,P b → b < W.heap.size → Q b ∧ W'.heap[b]? = W.heap[b]?) (hs : W.heap.size ≤ W'.heap.size) : ∀ (v : Wf.V) (cs : List Value),VC W P v cs → VC W' Q v cs
  | .mk what text tag kids,cs,h => by
    simp only [VC] at h ⊢
    obtain ⟨a,c,h1,h2,h3,h9,h4⟩:=h
    refine ⟨a,c,h1,h2,h3,h9, ?_⟩
    rcases h4 with h4 | ⟨b,o,h5,h6,h7,h8⟩
    · exact .inl h4
    · exact .inr ⟨b,o,h5,(hk b h6 h7).1,Nat.lt_of_lt_of_le h7 hs,VCs.keep hk hs b h6 h7 kids o h8⟩
theorem VCs.keep (hk : ∀ b,P b → b < W.heap.size → Q b ∧ W'.heap[b]? = W.heap[b]?) (hs : W.heap.size ≤ W'.heap.size) (b : Nat) (hp : P b) (hb : b < W.heap.size) : ∀ (l : List Wf.V) (o : Nat),VCs W P b o l → VCs W' Q b o l
  | [],_,_ => trivial
  | v :: l,o,h => by
    simp only [VCs] at h ⊢
    obtain ⟨⟨cs,h1,h2⟩,h3⟩:=h
    exact ⟨⟨cs,VC.keep hk hs v cs h1,fun j u hu => (World.cell?_of_block (w:=W) (a:=⟨b,o + j,none⟩) (hk b hp hb).2).trans (h2 j u hu)⟩,VCs.keep hk hs b hp hb l (o + 4) h3⟩
end
theorem VC.mono {v : Wf.V} {cs : List Value} (h : VC W P v cs) (hk : ∀ b,P b → b < W.heap.size → Q b) : VC W Q v cs:=VC.keep (fun b h1 h2 => ⟨hk b h1 h2,rfl⟩) (Nat.le_refl _) v cs h
theorem VC.below {v : Wf.V} {cs : List Value} (h : VC W P v cs) (hb : Below W.heap.size W W') : VC W' P v cs:=VC.keep (fun b h1 h2 => ⟨h1,hb.block b h2⟩) hb.size v cs h
theorem VCs.get {b : Nat} : ∀ {l : List Wf.V} {o : Nat},VCs W P b o l → ∀ i (hi : i < l.length),∃ cs,VC W P l[i] cs ∧ ∀ j u,cs[j]? = some u → W.cell? ⟨b,o + i * 4 + j,none⟩ = some u:=by
  intro l
  induction l with
  | nil => intro o _ i hi;simp at hi
  | cons v l ih =>
    intro o h i hi
    simp only [VCs] at h
    cases i with
    | zero =>
      obtain ⟨⟨cs,h1,h2⟩,_⟩:=h
      exact ⟨cs,h1,fun j u hu => by simpa using h2 j u hu⟩
    | succ i =>
      obtain ⟨cs,h1,h2⟩:=ih h.2 i (by simpa using hi)
      refine ⟨cs,h1,fun j u hu => ?_⟩
      have:=h2 j u hu
      rw [show o + 4 + i * 4 + j = o + (i + 1) * 4 + j by omega] at this
      exact this
theorem VCs.of {b : Nat} : ∀ {l : List Wf.V} {o : Nat},(∀ i (hi : i < l.length),∃ cs,VC W P l[i] cs ∧ ∀ j u,cs[j]? = some u → W.cell? ⟨b,o + i * 4 + j,none⟩ = some u) → VCs W P b o l:=by
  intro l
  induction l with
  | nil => intro o _;trivial
  | cons v l ih =>
    intro o h
    simp only [VCs]
    constructor
    · obtain ⟨cs,h1,h2⟩:=h 0 (by simp)
      exact ⟨cs,h1,fun j u hu => by simpa using h2 j u hu⟩
    · refine ih fun i hi => ?_
      obtain ⟨cs,h1,h2⟩:=h (i + 1) (by simpa using hi)
      refine ⟨cs,h1,fun j u hu => ?_⟩
      have:=h2 j u hu
      rw [show o + (i + 1) * 4 + j = o + 4 + i * 4 + j by omega] at this
      exact this
theorem VC.form {v : Wf.V} {cs : List Value} (h : VC W P v cs) : ∃ a c,cs = [.int .u8 v.what.toNat,tx v.text, .int .i64 v.tag, .slice a v.kids.length c] ∧ v.kids.length ≤ c ∧ c ≤ maxLen ∧ ShapeV v.what v.tag v.kids ∧ (v.kids = [] ∨ ∃ b o,a = some ⟨b,o,none⟩ ∧ P b ∧ b < W.heap.size ∧ VCs W P b o v.kids):=by
  cases v with
  | mk what text tag kids =>
    simp only [VC] at h
    exact h
theorem VC.len {v : Wf.V} {cs : List Value} (h : VC W P v cs) : cs.length = 4:=by
  obtain ⟨a,c,h,_⟩:=h.form
  rw [h];rfl
theorem VC.leaf (what : UInt8) (text : List UInt8) (tag : Nat) (ht : tag ≤ 999999) (h61 : what ≠ 61) : VC W P (.mk what text tag []) [.int .u8 what.toNat,tx text, .int .i64 tag, .slice none 0 0]:=by
  simp only [VC]
  exact ⟨none,0,rfl,Nat.le_refl _,by unfold maxLen;omega,⟨ht,fun h => absurd rfl h,fun h => absurd h h61⟩, .inl trivial⟩
theorem VC.row {b : Nat} {a : Option Addr} {n c : Nat} {es : List (List Value)} {l : List Wf.V} (what : UInt8) (text : List UInt8) (tag : Nat) (hs : ShapeV what tag l) (hr : RowK W b (.slice a n c) 4 es) (hp : es = [] ∨ P b) (hl : es.length = l.length) (hv : ∀ i (h1 : i < es.length) (h2 : i < l.length),VC W P l[i] es[i]) : VC W P (.mk what text tag l) [.int .u8 what.toNat,tx text, .int .i64 tag, .slice a n c]:=by
  obtain ⟨a',c',e1,h2,h3,h4⟩:=hr
  simp only [Value.slice.injEq] at e1
  obtain ⟨rfl,rfl,rfl⟩:=e1
  simp only [VC]
  refine ⟨a,c,by rw [hl],by omega,h3,hs, ?_⟩
  rcases h4 with h4 | ⟨o,h5,h6,h7⟩
  · left
    rw [h4] at hl
    exact List.eq_nil_of_length_eq_zero (by simpa using hl.symm)
  · rcases hp with hp | hp
    · left
      rw [hp] at hl
      exact List.eq_nil_of_length_eq_zero (by simpa using hl.symm)
    right
    refine ⟨b,o,h5,hp,h6,VCs.of fun i hi => ?_⟩
    have h1 : i < es.length:=by omega
    have hvc:=hv i h1 hi
    exact ⟨es[i],hvc,fun j u hu => h7 i h1 j u (by have:=(List.getElem?_eq_some_iff.1 hu).1;rw [hvc.len] at this;exact this) hu⟩
end
end Go.Proofs.Ytidjpalnmnehmaa

namespace Go.Proofs.Ytidjpalnmnehmaa
end Go.Proofs.Ytidjpalnmnehmaa
