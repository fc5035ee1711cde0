/- Packed by pack.py: Xg Xh Va Nq. -/
import Derived.Test.YtmdacedmjbiekaaGreatDoorR28
import Derived.Test.YtmdacedmjbiekaaGreatDoorR5
import Derived.Test.YtmdacedmjbiekaaGreatDoorR6
import Derived.Test.YtmdacedmjbiekaaGreatDoorR25
import Derived.Test.YtmdacedmjbiekaaGreatDoorR4
namespace Go.Proofs.YtmdacedmjbiekaaGreatDoor
open Go.ChangeShapes Go.WideShapes Go.ChangeAt Go.RowKit Go.Lib
set_option linter.unusedVariables false
set_option linter.unusedSimpArgs false
def LrOut (o : Option (Wf.V × List UInt8)) (w : World) (e : Ending) (w' : World) : Prop:=match o with
  | some y => ∃ b,e = .returned (.tuple #[ptr b,tx y.2, .bool true]) ∧ LV w' (fun z => w.heap.size ≤ z) y.1 b
  | none => ∃ (p : Option Addr) (r : ByteArray),e = .returned (.tuple #[.pointer p, .string r, .bool false])
theorem LrOut.no {o : Option (Wf.V × List UInt8)} {w w' : World} {e : Ending} (h : o = none) (he : ∃ (p : Option Addr) (r : ByteArray),e = .returned (.tuple #[.pointer p, .string r, .bool false])) : LrOut o w e w':=by
  subst h;exact he
theorem LrOut.yes {o : Option (Wf.V × List UInt8)} {w w' : World} {e : Ending} {v : Wf.V} {r : List UInt8} (h : o = some (v,r)) (he : ∃ b,e = .returned (.tuple #[ptr b,tx r, .bool true]) ∧ LV w' (fun z => w.heap.size ≤ z) v b) : LrOut o w e w':=by
  subst h;exact he
theorem row_nil (w : World) (b : Nat) : RowAt w b (.slice none 0 0) []:=⟨none,0,rfl,Nat.le_refl _,by unfold maxLen;omega, .inl rfl⟩
theorem LV.new {w W : World} {P : Nat → Prop} {what : UInt8} {text kd t : List UInt8} {tag : Nat} (h61 : what ≠ 61) (hs : shapeR what text kd t) (ht : tagsOf what tag [] = []) (hp : P w.heap.size) (hlt : w.heap.size < W.heap.size)
    (c0 : W.cell? ⟨w.heap.size,0,none⟩ = some (tx kd)) (c1 : W.cell? ⟨w.heap.size,1,none⟩ = some (tx t)) (c2 : W.cell? ⟨w.heap.size,2,none⟩ = some (.slice none 0 0)) (c3 : W.cell? ⟨w.heap.size,3,none⟩ = some (.slice none 0 0)) : LV W P (.mk what text tag []) w.heap.size :=
  LV.mk (bs:=[]) (tb:=0) (kb:=0) h61 hp hlt c0 c1 c2 c3 (by rw [ht];exact row_nil _ _) (.inl ht) (row_nil _ _) (.inl rfl) hs (by simp only [LVs])
set_option maxRecDepth 20000 in
set_option maxHeartbeats 1000000 in
theorem plain_num (x : Wf.Sc) (n : Nat) (v : Value) (S : ByteArray) (hS : S.size ≤ 1048576) (w : World) : Calls Tryz.prog 97 #[.agg #[v], .string S,tx [110]] w fun e w' => LrOut (Wf.parse x (n + 1) .num S.data.toList) w e w' ∧ Below w.heap.size w w':=by
  have HDG:=hid fun wz => l4Digits S wz hS
  have hle : (S.extract 0 (S.data.toList.takeWhile Wf.isDig).length).size ≤ 9223372036854775807:=by rw [ByteArray.size_extract];omega
  have hnum:=fun wz => l3Num (S.extract 0 (S.data.toList.takeWhile Wf.isDig).length) 999999 (by omega) wz hle
  rw [pre_list] at hnum
  obtain ⟨T,hT⟩ : ∃ T,(S.data.toList.takeWhile Wf.isDig).length = T:=⟨_,rfl⟩
  have hTle : T ≤ S.size:=by rw [← hT,← size_list];exact tw_le _ _
  have k1:=sl_pre S T hTle
  have k2:=sl_suf S T hTle
  have HX:=hid (show S.extract 0 T = ⟨(S.data.toList.takeWhile Wf.isDig).toArray⟩ by rw [eq_list,← hT,pre_list])
  have HR:=hid (show S.extract T S.size = ⟨(S.data.toList.dropWhile Wf.isDig).toArray⟩ by rw [eq_list,suf_list,← hT,tw_drop])
  rw [hT] at HDG hnum
  obtain ⟨X1,hX1⟩ : ∃ X1,S.extract 0 T = X1:=⟨_,rfl⟩
  obtain ⟨X2,hX2⟩ : ∃ X2,S.extract T S.size = X2:=⟨_,rfl⟩
  rw [hX1] at k1 HX hnum
  rw [hX2] at k2 HR
  cases hp : Wf.plainN (S.data.toList.takeWhile Wf.isDig) 999999 with
  | none =>
    have HP:=hid (show Wf.parse x (n + 1) .num S.data.toList = none by rw [Wf.parse_num,Wf.numTok,hp];rfl)
    have HNUM:=hid fun wz => (hnum wz).mono (R':=fun e w' => (∃ m : Int,e = .returned (.tuple #[.int .i64 m, .bool false])) ∧ Below wz.heap.size wz w') fun e w' ⟨h1,h2⟩ => ⟨by unfold NumOut at h1;rw [hp] at h1;exact h1,h2⟩
    clear hnum hp hT hX1 hX2
    go_enter Tryz.func97,Tryz.ntmps97
    go_wp2_with (first | (go_at_call 135;refine (HNUM.out _).mono ?_;rintro e w2 ⟨⟨m,rfl⟩,hb2⟩;have B2:=hid (below_join ((Below.refl _ _).alloc (Nat.le_refl _) _) hb2);clear hb2) | (go_at_call 134;refine (HDG.out _).mono ?_;rintro e w1 ⟨rfl,rfl⟩))
    go_region
    all_goals (go_wp2_with fail)
    all_goals exact bodyPost_ret (v:=.tuple #[ptr w2.heap.size, .string X2, .bool false]) (by simp [results,Tryz.results97,go_sem, *]) rfl ⟨LrOut.no HP.out ⟨_,_,rfl⟩,by have BB:=B2.out;have hB:=BB.size;repeat (first | with_reducible exact BB | with_reducible refine Below.drew ?_ | with_reducible refine Below.alloc ?_ (by first | exact BB.size | (simp;omega)) _)⟩
  | some g =>
    have HP:=hid (show Wf.parse x (n + 1) .num S.data.toList = some (.mk 110 (S.data.toList.takeWhile Wf.isDig) 0 [],S.data.toList.dropWhile Wf.isDig) by rw [Wf.parse_num,Wf.numTok,hp,(Wf.plainN_some hp).1];rfl)
    have HNUM:=hid fun wz => (hnum wz).mono (R':=fun e w' => e = .returned (.tuple #[.int .i64 g, .bool true]) ∧ Below wz.heap.size wz w') fun e w' ⟨h1,h2⟩ => ⟨by unfold NumOut at h1;rw [hp] at h1;exact h1,h2⟩
    clear hnum hp hT hX1 hX2
    go_enter Tryz.func97,Tryz.ntmps97
    go_wp2_with (first | (go_at_call 135;refine (HNUM.out _).mono ?_;rintro e w2 ⟨rfl,hb2⟩;have B2:=hid (below_join ((Below.refl _ _).alloc (Nat.le_refl _) _) hb2);clear hb2) | (go_at_call 134;refine (HDG.out _).mono ?_;rintro e w1 ⟨rfl,rfl⟩))
    go_region
    all_goals (go_wp2_with fail)
    all_goals exact bodyPost_ret (v:=.tuple #[ptr w2.heap.size, .string X2, .bool true]) (by simp [results,Tryz.results97,go_sem, *]) rfl (by
      have hR : ∀ W3 : World,W3.heap.size = w2.heap.size → Below w.heap.size w W3 → (LrOut (Wf.parse x (n + 1) .num S.data.toList) w (.returned (.tuple #[ptr w2.heap.size, .string X2, .bool true])) (W3.alloc (.cells #[tx [110], .string X1, .slice none 0 0, .slice none 0 0] 142)) ∧ Below w.heap.size w (W3.alloc (.cells #[tx [110], .string X1, .slice none 0 0, .slice none 0 0] 142))):=fun W3 h1 h2 => by
        refine ⟨LrOut.yes HP.out ⟨w2.heap.size,by rw [HR.out], ?_⟩,h2.alloc h2.size _⟩
        rw [← h1]
        rw [HX.out]
        exact LV.new (kd:=[110]) (t:=S.data.toList.takeWhile Wf.isDig) (by decide) ⟨rfl,rfl⟩ rfl (h2.size) (by simp) (by simp [go_sem]) (by simp [go_sem]) (by simp [go_sem]) (by simp [go_sem])
      first | exact hR w2 rfl B2.out | exact hR w2.drew rfl B2.out.drew)
theorem quoted_some {l : List UInt8} (h : Wf.quoted l = true) : l = 39 :: (l.tail.dropLast ++ [39]):=by
  obtain ⟨b,rfl,_,_⟩:=Wf.quoted_iff.1 h
  simp
theorem parse_txt_any (x : Wf.Sc) (n : Nat) (l : List UInt8) : Wf.parse x (n + 1) .txt l = if Wf.quoted (l.take (Wf.txtEnd l)) = true then some (.mk 116 (l.take (Wf.txtEnd l)).tail.dropLast 0 [],l.drop (Wf.txtEnd l)) else none:=by
  cases l with
  | nil => rw [Wf.parse_nil];rfl
  | cons a r => exact Wf.parse_txt_ref x n a r
set_option maxRecDepth 20000 in
set_option maxHeartbeats 2000000 in
theorem plain_txt (x : Wf.Sc) (n : Nat) (v : Value) (S : ByteArray) (hS : S.size ≤ 1048576) (w : World) : Calls Tryz.prog 97 #[.agg #[v], .string S,tx [116]] w fun e w' => LrOut (Wf.parse x (n + 1) .txt S.data.toList) w e w' ∧ Below w.heap.size w w':=by
  obtain ⟨E,hE⟩ : ∃ E,Wf.txtEnd S.data.toList = E:=⟨_,rfl⟩
  have hEle : E ≤ S.size:=by rw [← hE,← size_list];exact Wf.txtEnd_le _
  have k1:=sl_pre S E hEle
  have k2:=sl_suf S E hEle
  have HX:=hid (show S.extract 0 E = ⟨(S.data.toList.take E).toArray⟩ by rw [eq_list,ext_list,List.drop_zero,Nat.sub_zero])
  have HR:=hid (show S.extract E S.size = ⟨(S.data.toList.drop E).toArray⟩ by rw [eq_list,suf_list])
  have htx:=fun wz => l3Text (S.extract 0 E) wz (by rw [ByteArray.size_extract];omega)
  rw [show (S.extract 0 E).data.toList = S.data.toList.take E by rw [ext_list,List.drop_zero,Nat.sub_zero]] at htx
  obtain ⟨Q,hQ⟩ : ∃ Q,Wf.quoted (S.data.toList.take E) = Q:=⟨_,rfl⟩
  have hpt:=parse_txt_any x n S.data.toList
  rw [hE,hQ] at hpt
  have HP:=hid hpt
  have HQ:=hid hQ
  rw [hQ] at htx
  obtain ⟨X1,hX1⟩ : ∃ X1,S.extract 0 E = X1:=⟨_,rfl⟩
  obtain ⟨X2,hX2⟩ : ∃ X2,S.extract E S.size = X2:=⟨_,rfl⟩
  rw [hX1] at k1 HX htx
  rw [hX2] at k2 HR
  have HTX:=hid htx
  obtain ⟨K,hK⟩ : ∃ K,1 + (S.data.toList.tail.takeWhile Wf.not39).length = K:=⟨_,rfl⟩
  have hEK : E = min (K + 1) S.size:=by rw [← hE,Wf.txtEnd,size_list,hK]
  have hKS : S.size ≠ 0 → K ≤ S.size:=fun h => by
    rw [← hK]
    have h1:=tw_le Wf.not39 S.data.toList.tail
    rw [List.length_tail,size_list] at h1
    omega
  have HIN:=hid fun (i : Nat) (h1 : 1 ≤ i) (h : i < K) => (show ∃ c,S.data.toList[i]? = some c ∧ Wf.not39 c = true by
    obtain ⟨c,hc,hp⟩:=tw_in (p:=Wf.not39) (l:=S.data.toList.tail) (i:=i - 1) (by omega)
    rw [List.getElem?_tail,show i - 1 + 1 = i by omega] at hc
    exact ⟨c,hc,hp⟩)
  have HAT:=hid fun (c : UInt8) (h : S.data.toList[K]? = some c) => (show Wf.not39 c = false by
    refine tw_at (p:=Wf.not39) (l:=S.data.toList.tail) ?_
    rw [List.getElem?_tail,show (S.data.toList.tail.takeWhile Wf.not39).length + 1 = K by omega]
    exact h)
  have hK1 : 1 ≤ K:=by omega
  have hK2 : K ≤ 1048577:=by
    by_cases h : S.size = 0
    · rw [← hK]
      have h1:=tw_le Wf.not39 S.data.toList.tail
      rw [List.length_tail,size_list] at h1
      omega
    · have:=hKS h;omega
  have hmin : min ((K : Int) + 1) (S.size : Int) = (E : Int):=by rw [hEK];omega
  have HMIN:=hid hmin
  clear hpt hQ htx hX1 hX2 hE hK hEK hKS hmin
  go_enter Tryz.func97,Tryz.ntmps97
  go_wp2_with fail
  go_loop [9] (fun v => ∃ i : Nat,1 ≤ i ∧ i ≤ K ∧ v = .int .i64 i) (fun v => K - (RowKit.intOf v).toNat)
  case atStart => exact ⟨1,Nat.le_refl _,hK1,rfl⟩
  case round =>
    obtain ⟨i,hi1,hi,rfl⟩:=hrel
    by_cases hlt : i < K
    · obtain ⟨c',hc',hd⟩:=HIN.out i hi1 hlt
      have his : i < S.size:=by rw [← size_list];exact (List.getElem?_eq_some_iff.1 hc').1
      obtain ⟨c,hc,e1⟩:=byte_at S i his
      rw [hc] at hc'
      obtain rfl:=Option.some.inj hc'
      obtain ⟨b,hb⟩ : ∃ b,c.toNat = b:=⟨_,rfl⟩
      rw [hb] at e1
      have h1 : ((b : Int) != 39) = true:=by
        rw [bne_iff_ne]
        intro h
        have h39 : c = 39:=UInt8.toNat_inj.1 (by rw [hb];show b = 39;omega)
        rw [h39] at hd
        exact absurd hd (by decide)
      clear hc hc' hd hb
      go_wp2_with fail
      go_round
      case rel => exact ⟨i + 1,by omega,by omega,by go_num⟩
      case measure => simp [RowKit.intOf];omega
    · have hiT : i = K:=by omega
      subst hiT
      have fin : ∀ b : Bool,Q = b → ∀ W3 : World,W3.heap.size = w.heap.size + 1 → Below w.heap.size w W3 → (LrOut (Wf.parse x (n + 1) .txt S.data.toList) w (.returned (.tuple #[ptr (w.heap.size + 1), .string X2, .bool b])) (W3.alloc (.cells #[tx [116], .string X1, .slice none 0 0, .slice none 0 0] 142)) ∧ Below w.heap.size w (W3.alloc (.cells #[tx [116], .string X1, .slice none 0 0, .slice none 0 0] 142))):=fun b hb W3 h1 h2 => by
        refine ⟨?_,h2.alloc h2.size _⟩
        cases b with
        | false => exact LrOut.no (by rw [HP.out,hb];rfl) ⟨_,_,rfl⟩
        | true =>
          refine LrOut.yes (by rw [HP.out,hb,if_pos rfl]) ⟨w.heap.size + 1,by rw [HR.out], ?_⟩
          rw [← h1,HX.out]
          exact LV.new (kd:=[116]) (t:=S.data.toList.take E) (by decide) ⟨rfl,quoted_some (by rw [HQ.out,hb])⟩ rfl (h2.size) (by simp) (by simp [go_sem]) (by simp [go_sem]) (by simp [go_sem]) (by simp [go_sem])
      have FIN:=hid fin
      clear fin
      have hmin:=HMIN.out
      by_cases his : i < S.size
      · obtain ⟨c,hc,e1⟩:=byte_at S i his
        have hd:=HAT.out c hc
        have h39 : c = 39:=by simpa [Wf.not39] using hd
        have hb : c.toNat = 39:=by rw [h39];rfl
        rw [hb] at e1
        clear hc hd h39 hb
        go_wp2_with fail
        go_region_with (go_at_call 136;refine (HTX.out _).mono ?_;rintro e w1 ⟨rfl,rfl⟩)
        all_goals (go_wp2_with fail)
        all_goals exact bodyPost_ret (v:=.tuple #[ptr (w.heap.size + 1), .string X2, .bool Q]) (by simp [results,Tryz.results97,go_sem, *]) rfl (by
          have B0:=(Below.refl w.heap.size w).alloc (Nat.le_refl _) (.cells #[v] 109)
          first | exact FIN.out Q rfl _ (by simp) B0 | exact FIN.out Q rfl _ (by simp) B0.drew)
      · have his2 : S.size ≤ i:=by omega
        clear his
        go_wp2_with fail
        go_region_with (go_at_call 136;refine (HTX.out _).mono ?_;rintro e w1 ⟨rfl,rfl⟩)
        all_goals (go_wp2_with fail)
        all_goals exact bodyPost_ret (v:=.tuple #[ptr (w.heap.size + 1), .string X2, .bool Q]) (by simp [results,Tryz.results97,go_sem, *]) rfl (by
          have B0:=(Below.refl w.heap.size w).alloc (Nat.le_refl _) (.cells #[v] 109)
          first | exact FIN.out Q rfl _ (by simp) B0 | exact FIN.out Q rfl _ (by simp) B0.drew)

theorem pre_eq (S : ByteArray) (p : List UInt8) (h : p.length ≤ S.size) : ((S.extract 0 p.length).toList == p) = decide (p <+: S.data.toList):=by
  rw [ByteArray.toList_eq,ext_list,List.drop_zero,Nat.sub_zero,Bool.beq_eq_decide_eq,decide_eq_decide]
  rw [List.prefix_iff_eq_take]
  exact eq_comm
def FlagAt (l : List UInt8) (v : Value) : Prop:=v = .int .i64 0 ∨ (v = .int .i64 1 ∧ ¬ [121,101,115] <+: l) ∨ (v = .int .i64 2 ∧ ¬ [121,101,115] <+: l ∧ ¬ [110,111] <+: l)
set_option maxRecDepth 20000 in
set_option maxHeartbeats 2000000 in
theorem plain_flag (x : Wf.Sc) (n : Nat) (v : Value) (S : ByteArray) (hS : S.size ≤ 1048576) (w : World) : Calls Tryz.prog 97 #[.agg #[v], .string S,tx [102]] w fun e w' => LrOut (Wf.parse x (n + 1) .flag S.data.toList) w e w' ∧ Below w.heap.size w w':=by
  go_enter Tryz.func97,Tryz.ntmps97
  go_wp2_with fail
  go_loop [70] (fun v => FlagAt S.data.toList v) (fun v => 2 - (RowKit.intOf v).toNat)
  case atStart => exact .inl rfl
  case round =>
    rcases hrel with rfl | ⟨rfl,hy⟩ | ⟨rfl,hy,hn⟩
    · by_cases h3 : 3 ≤ S.size
      · have hpe:=pre_eq S [121,101,115] h3
        rw [show ([121,101,115] : List UInt8).length = 3 from rfl] at hpe
        cases hd : decide ([121,101,115] <+: S.data.toList) with
        | true =>
          rw [hd] at hpe
          obtain ⟨q,hq⟩:=of_decide_eq_true hd
          have HP:=hid (show Wf.parse x (n + 1) .flag S.data.toList = some (.mk 102 [121,101,115] 0 [],q) by rw [← hq];exact Wf.parse_yes x n q)
          have HR:=hid (show S.extract 3 S.size = ⟨q.toArray⟩ by rw [eq_list,suf_list,← hq];rfl)
          clear hd hq
          go_wp2_with fail
          go_region
          all_goals (go_wp2_with fail)
          all_goals exact bodyPost_ret (v:=.tuple #[ptr (w.heap.size + 1 + 1), .string (S.extract 3 S.size), .bool true]) (by simp [results,Tryz.results97,go_sem, *]) rfl (by
            have hR : ∀ W3 : World,W3.heap.size = w.heap.size + 1 + 1 → Below w.heap.size w W3 → (LrOut (Wf.parse x (n + 1) .flag S.data.toList) w (.returned (.tuple #[ptr (w.heap.size + 1 + 1), .string (S.extract 3 S.size), .bool true])) (W3.alloc (.cells #[tx [102],tx [121,101,115], .slice none 0 0, .slice none 0 0] 142)) ∧ Below w.heap.size w (W3.alloc (.cells #[tx [102],tx [121,101,115], .slice none 0 0, .slice none 0 0] 142))):=fun W3 h1 h2 => by
              refine ⟨LrOut.yes HP.out ⟨w.heap.size + 1 + 1,by rw [HR.out], ?_⟩,h2.alloc h2.size _⟩
              rw [← h1]
              exact LV.new (kd:=[102]) (t:=[121,101,115]) (by decide) ⟨rfl,rfl⟩ rfl (h2.size) (by simp) (by simp [go_sem]) (by simp [go_sem]) (by simp [go_sem]) (by simp [go_sem])
            have B0:=((Below.refl w.heap.size w).alloc (Nat.le_refl _) (.cells #[v] 109)).alloc (by simp) (.cells #[.string ⟨#[121,101,115]⟩, .string ⟨#[110,111]⟩] 9)
            first | exact hR _ (by simp) B0 | exact hR _ (by simp) B0.drew)
        | false =>
          rw [hd] at hpe
          have HD:=hid (of_decide_eq_false hd)
          clear hd
          go_wp2_with fail
          go_round
          all_goals first | exact ⟨(.inr (.inl ⟨rfl,HD.out⟩) : FlagAt S.data.toList (.int .i64 1)),by simp [RowKit.intOf]⟩ | exact (.inr (.inl ⟨rfl,HD.out⟩) : FlagAt S.data.toList (.int .i64 1)) | (simp [RowKit.intOf];done)
      · have HD:=hid (show ¬ [121,101,115] <+: S.data.toList from fun h => by have:=h.length_le;rw [size_list] at this;simp at this;omega)
        have h3d : decide (3 ≤ S.size) = false:=decide_eq_false h3
        have h3i : (S.size : Int) < 3:=by omega
        go_wp2_with fail
        go_round
        all_goals first | exact ⟨(.inr (.inl ⟨rfl,HD.out⟩) : FlagAt S.data.toList (.int .i64 1)),by simp [RowKit.intOf]⟩ | exact (.inr (.inl ⟨rfl,HD.out⟩) : FlagAt S.data.toList (.int .i64 1)) | (simp [RowKit.intOf];done)
    · have HY:=hid hy
      clear hy
      by_cases h3 : 2 ≤ S.size
      · have hpe:=pre_eq S [110,111] h3
        rw [show ([110,111] : List UInt8).length = 2 from rfl] at hpe
        cases hd : decide ([110,111] <+: S.data.toList) with
        | true =>
          rw [hd] at hpe
          obtain ⟨q,hq⟩:=of_decide_eq_true hd
          have HP:=hid (show Wf.parse x (n + 1) .flag S.data.toList = some (.mk 102 [110,111] 0 [],q) by rw [← hq];exact Wf.parse_no x n q)
          have HR:=hid (show S.extract 2 S.size = ⟨q.toArray⟩ by rw [eq_list,suf_list,← hq];rfl)
          clear hd hq
          go_wp2_with fail
          go_region
          all_goals (go_wp2_with fail)
          all_goals exact bodyPost_ret (v:=.tuple #[ptr (w.heap.size + 1 + 1), .string (S.extract 2 S.size), .bool true]) (by simp [results,Tryz.results97,go_sem, *]) rfl (by
            have hR : ∀ W3 : World,W3.heap.size = w.heap.size + 1 + 1 → Below w.heap.size w W3 → (LrOut (Wf.parse x (n + 1) .flag S.data.toList) w (.returned (.tuple #[ptr (w.heap.size + 1 + 1), .string (S.extract 2 S.size), .bool true])) (W3.alloc (.cells #[tx [102],tx [110,111], .slice none 0 0, .slice none 0 0] 142)) ∧ Below w.heap.size w (W3.alloc (.cells #[tx [102],tx [110,111], .slice none 0 0, .slice none 0 0] 142))):=fun W3 h1 h2 => by
              refine ⟨LrOut.yes HP.out ⟨w.heap.size + 1 + 1,by rw [HR.out], ?_⟩,h2.alloc h2.size _⟩
              rw [← h1]
              exact LV.new (kd:=[102]) (t:=[110,111]) (by decide) ⟨rfl,rfl⟩ rfl (h2.size) (by simp) (by simp [go_sem]) (by simp [go_sem]) (by simp [go_sem]) (by simp [go_sem])
            have B0:=((Below.refl w.heap.size w).alloc (Nat.le_refl _) (.cells #[v] 109)).alloc (by simp) (.cells #[.string ⟨#[121,101,115]⟩, .string ⟨#[110,111]⟩] 9)
            first | exact hR _ (by simp) B0 | exact hR _ (by simp) B0.drew)
        | false =>
          rw [hd] at hpe
          have HD:=hid (of_decide_eq_false hd)
          clear hd
          go_wp2_with fail
          go_round
          all_goals first | exact ⟨(.inr (.inr ⟨rfl,HY.out,HD.out⟩) : FlagAt S.data.toList (.int .i64 2)),by simp [RowKit.intOf]⟩ | exact (.inr (.inr ⟨rfl,HY.out,HD.out⟩) : FlagAt S.data.toList (.int .i64 2)) | (simp [RowKit.intOf];done)
      · have HD:=hid (show ¬ [110,111] <+: S.data.toList from fun h => by have:=h.length_le;rw [size_list] at this;simp at this;omega)
        have h3d : decide (2 ≤ S.size) = false:=decide_eq_false h3
        have h3i : (S.size : Int) < 2:=by omega
        go_wp2_with fail
        go_round
        all_goals first | exact ⟨(.inr (.inr ⟨rfl,HY.out,HD.out⟩) : FlagAt S.data.toList (.int .i64 2)),by simp [RowKit.intOf]⟩ | exact (.inr (.inr ⟨rfl,HY.out,HD.out⟩) : FlagAt S.data.toList (.int .i64 2)) | (simp [RowKit.intOf];done)
    · have HP:=hid (Wf.parse_flag_none x n hy hn)
      clear hy hn
      go_wp2_with fail
      exact bodyPost_ret (v:=.tuple #[.pointer none, .string S, .bool false]) (by simp [results,Tryz.results97,go_sem, *]) rfl ⟨LrOut.no HP.out ⟨_,_,rfl⟩,((Below.refl w.heap.size w).alloc (Nat.le_refl _) _).alloc (by simp) _⟩
end Go.Proofs.YtmdacedmjbiekaaGreatDoor

namespace Go.Proofs.YtmdacedmjbiekaaGreatDoor
open Go.ChangeShapes Go.WideShapes Go.ChangeAt Go.RowKit Go.Lib
set_option linter.unusedVariables false
def hasParts (w : UInt8) : Prop:=w = 91 ∨ w = 63 ∨ w = 61 ∨ w = 82 ∨ w = 85
structure ShapeV (what : UInt8) (tag : Nat) (kids : List Wf.V) : Prop where
  tag : tag ≤ 999999
  parts : kids ≠ [] → hasParts what
  fld : what = 61 → kids.length = 1
mutual
def VC (W : World) (P : Nat → Prop) : Wf.V → List Value → Prop
  | .mk what text tag kids,cs => ∃ (a : Option Addr) (c : Nat),cs = [.int .u8 what.toNat,tx text, .int .i64 tag, .slice a kids.length c] ∧ kids.length ≤ c ∧ c ≤ maxLen ∧ ShapeV what tag kids ∧ (kids = [] ∨ ∃ b o,a = some ⟨b,o,none⟩ ∧ P b ∧ b < W.heap.size ∧ VCs W P b o kids)
def VCs (W : World) (P : Nat → Prop) (b : Nat) : Nat → List Wf.V → Prop
  | _,[] => True
  | o,v :: l => (∃ cs,VC W P v cs ∧ ∀ j u,cs[j]? = some u → W.cell? ⟨b,o + j,none⟩ = some u) ∧ VCs W P b (o + 4) l
end
section
variable {W W' : World} {P Q : Nat → Prop}
mutual
theorem VC.keep (hk : ∀ b,P b → b < W.heap.size → Q b ∧ W'.heap[b]? = W.heap[b]?) (hs : W.heap.size ≤ W'.heap.size) : ∀ (v : Wf.V) (cs : List Value),VC W P v cs → VC W' Q v cs
  | .mk what text tag kids,cs,h => by
    simp only [VC] at h ⊢
    obtain ⟨a,c,h1,h2,h3,h9,h4⟩:=h
    refine ⟨a,c,h1,h2,h3,h9, ?_⟩
    rcases h4 with h4 | ⟨b,o,h5,h6,h7,h8⟩
    · exact .inl h4
    · exact .inr ⟨b,o,h5,(hk b h6 h7).1,Nat.lt_of_lt_of_le h7 hs,VCs.keep hk hs b h6 h7 kids o h8⟩
theorem VCs.keep (hk : ∀ b,P b → b < W.heap.size → Q b ∧ W'.heap[b]? = W.heap[b]?) (hs : W.heap.size ≤ W'.heap.size) (b : Nat) (hp : P b) (hb : b < W.heap.size) : ∀ (l : List Wf.V) (o : Nat),VCs W P b o l → VCs W' Q b o l
  | [],_,_ => trivial
  | v :: l,o,h => by
    simp only [VCs] at h ⊢
    obtain ⟨⟨cs,h1,h2⟩,h3⟩:=h
    exact ⟨⟨cs,VC.keep hk hs v cs h1,fun j u hu => (World.cell?_of_block (w:=W) (a:=⟨b,o + j,none⟩) (hk b hp hb).2).trans (h2 j u hu)⟩,VCs.keep hk hs b hp hb l (o + 4) h3⟩
end
theorem VC.mono {v : Wf.V} {cs : List Value} (h : VC W P v cs) (hk : ∀ b,P b → b < W.heap.size → Q b) : VC W Q v cs:=VC.keep (fun b h1 h2 => ⟨hk b h1 h2,rfl⟩) (Nat.le_refl _) v cs h
theorem VC.below {v : Wf.V} {cs : List Value} (h : VC W P v cs) (hb : Below W.heap.size W W') : VC W' P v cs:=VC.keep (fun b h1 h2 => ⟨h1,hb.block b h2⟩) hb.size v cs h
theorem VCs.get {b : Nat} : ∀ {l : List Wf.V} {o : Nat},VCs W P b o l → ∀ i (hi : i < l.length),∃ cs,VC W P l[i] cs ∧ ∀ j u,cs[j]? = some u → W.cell? ⟨b,o + i * 4 + j,none⟩ = some u:=by
  intro l
  induction l with
  | nil => intro o _ i hi;simp at hi
  | cons v l ih =>
    intro o h i hi
    simp only [VCs] at h
    cases i with
    | zero =>
      obtain ⟨⟨cs,h1,h2⟩,_⟩:=h
      exact ⟨cs,h1,fun j u hu => by simpa using h2 j u hu⟩
    | succ i =>
      obtain ⟨cs,h1,h2⟩:=ih h.2 i (by simpa using hi)
      refine ⟨cs,h1,fun j u hu => ?_⟩
      have:=h2 j u hu
      rw [show o + 4 + i * 4 + j = o + (i + 1) * 4 + j by omega] at this
      exact this
theorem VCs.of {b : Nat} : ∀ {l : List Wf.V} {o : Nat},(∀ i (hi : i < l.length),∃ cs,VC W P l[i] cs ∧ ∀ j u,cs[j]? = some u → W.cell? ⟨b,o + i * 4 + j,none⟩ = some u) → VCs W P b o l:=by
  intro l
  induction l with
  | nil => intro o _;trivial
  | cons v l ih =>
    intro o h
    simp only [VCs]
    constructor
    · obtain ⟨cs,h1,h2⟩:=h 0 (by simp)
      exact ⟨cs,h1,fun j u hu => by simpa using h2 j u hu⟩
    · refine ih fun i hi => ?_
      obtain ⟨cs,h1,h2⟩:=h (i + 1) (by simpa using hi)
      refine ⟨cs,h1,fun j u hu => ?_⟩
      have:=h2 j u hu
      rw [show o + (i + 1) * 4 + j = o + 4 + i * 4 + j by omega] at this
      exact this
theorem VC.form {v : Wf.V} {cs : List Value} (h : VC W P v cs) : ∃ a c,cs = [.int .u8 v.what.toNat,tx v.text, .int .i64 v.tag, .slice a v.kids.length c] ∧ v.kids.length ≤ c ∧ c ≤ maxLen ∧ ShapeV v.what v.tag v.kids ∧ (v.kids = [] ∨ ∃ b o,a = some ⟨b,o,none⟩ ∧ P b ∧ b < W.heap.size ∧ VCs W P b o v.kids):=by
  cases v with
  | mk what text tag kids =>
    simp only [VC] at h
    exact h
theorem VC.len {v : Wf.V} {cs : List Value} (h : VC W P v cs) : cs.length = 4:=by
  obtain ⟨a,c,h,_⟩:=h.form
  rw [h];rfl
theorem VC.leaf (what : UInt8) (text : List UInt8) (tag : Nat) (ht : tag ≤ 999999) (h61 : what ≠ 61) : VC W P (.mk what text tag []) [.int .u8 what.toNat,tx text, .int .i64 tag, .slice none 0 0]:=by
  simp only [VC]
  exact ⟨none,0,rfl,Nat.le_refl _,by unfold maxLen;omega,⟨ht,fun h => absurd rfl h,fun h => absurd h h61⟩, .inl trivial⟩
theorem VC.row {b : Nat} {a : Option Addr} {n c : Nat} {es : List (List Value)} {l : List Wf.V} (what : UInt8) (text : List UInt8) (tag : Nat) (hs : ShapeV what tag l) (hr : RowK W b (.slice a n c) 4 es) (hp : es = [] ∨ P b) (hl : es.length = l.length) (hv : ∀ i (h1 : i < es.length) (h2 : i < l.length),VC W P l[i] es[i]) : VC W P (.mk what text tag l) [.int .u8 what.toNat,tx text, .int .i64 tag, .slice a n c]:=by
  obtain ⟨a',c',e1,h2,h3,h4⟩:=hr
  simp only [Value.slice.injEq] at e1
  obtain ⟨rfl,rfl,rfl⟩:=e1
  simp only [VC]
  refine ⟨a,c,by rw [hl],by omega,h3,hs, ?_⟩
  rcases h4 with h4 | ⟨o,h5,h6,h7⟩
  · left
    rw [h4] at hl
    exact List.eq_nil_of_length_eq_zero (by simpa using hl.symm)
  · rcases hp with hp | hp
    · left
      rw [hp] at hl
      exact List.eq_nil_of_length_eq_zero (by simpa using hl.symm)
    right
    refine ⟨b,o,h5,hp,h6,VCs.of fun i hi => ?_⟩
    have h1 : i < es.length:=by omega
    have hvc:=hv i h1 hi
    exact ⟨es[i],hvc,fun j u hu => h7 i h1 j u (by have:=(List.getElem?_eq_some_iff.1 hu).1;rw [hvc.len] at this;exact this) hu⟩
end

structure NumC (l : List UInt8) : Prop where
  ne : l ≠ []
  len : l.length ≤ 6
  all : l.all Wf.isDig = true
  head : l.head? = some 48 → l.length = 1
noncomputable def numV (l : List UInt8) : Nat:=open Classical in if NumC l then Wf.val l else 0
theorem num_bad (most : Nat) {l : List UInt8} (h : ¬ NumC l) : numV l = 0 ∧ (Wf.plainN l most).isSome = false:=by
  refine ⟨by unfold numV;rw [if_neg h], ?_⟩
  unfold Wf.plainN
  rw [if_neg (fun hh => h ⟨hh.1,hh.2.1,hh.2.2.1,hh.2.2.2.1⟩)]
  rfl
theorem num_good (most : Nat) {l : List UInt8} (h : NumC l) : numV l = Wf.val l ∧ (Wf.plainN l most).isSome = decide (Wf.val l ≤ most):=by
  refine ⟨by unfold numV;rw [if_pos h], ?_⟩
  unfold Wf.plainN
  by_cases hv : Wf.val l ≤ most
  · rw [if_pos ⟨h.ne,h.len,h.all,h.head,hv⟩,decide_eq_true hv];rfl
  · rw [if_neg (fun hh => hv hh.2.2.2.2),decide_eq_false hv];rfl
theorem num_no {l : List UInt8} {i : Nat} {c : UInt8} (h : l[i]? = some c) (hc : c.toNat < 48 ∨ 57 < c.toNat) : ¬ NumC l:=by
  intro hn
  have:=List.all_eq_true.1 hn.all c (List.mem_of_getElem? h)
  simp [Wf.isDig] at this
  omega
theorem val_lt10 {l : List UInt8} (h : l.all Wf.isDig = true) : Wf.val l < 10 ^ l.length:=by
  induction l using Wf.snoc_ind with
  | h0 => simp [Wf.val]
  | h1 s c ih =>
    rw [List.all_append,Bool.and_eq_true] at h
    have h1:=ih h.1
    rw [Wf.val_snoc,List.length_append,List.length_singleton,Nat.pow_succ]
    have : Wf.isDig c = true:=by simpa using h.2
    simp [Wf.isDig] at this
    omega
theorem numV_le (l : List UInt8) : numV l ≤ 999999:=by
  unfold numV
  split
  · rename_i h
    have h1:=val_lt10 h.all
    have h2 : 10 ^ l.length ≤ 10 ^ 6:=Nat.pow_le_pow_right (by decide) h.len
    have h3 : 10 ^ 6 = 1000000:=rfl
    omega
  · omega
theorem numV_some {l : List UInt8} {most n : Nat} (h : Wf.plainN l most = some n) : numV l = n:=by
  by_cases hn : NumC l
  · obtain ⟨h1,_⟩:=num_good most hn
    obtain ⟨h3,_,_⟩:=Wf.plainN_some h
    rw [h1,h3,Wf.val_dec]
  · have:=(num_bad most hn).2
    rw [h] at this
    cases this
set_option maxRecDepth 20000 in
set_option maxHeartbeats 1000000 in
theorem plainNumberV (s : ByteArray) (most : Nat) (hm : most ≤ 999999) (w : World) : Calls Tryz.prog 165 #[.string s, .int .i64 most] w fun e w' => e = .returned (.tuple #[.int .i64 (numV s.data.toList), .bool (Wf.plainN s.data.toList most).isSome]) ∧ w = w':=by
  have hl:=size_list s
  by_cases h1 : s.size < 1
  · have h0 : s.data.toList = []:=List.eq_nil_of_length_eq_zero (by omega)
    have HN:=hid (num_bad most (show ¬ NumC s.data.toList from fun h => h.ne h0))
    clear h0 hl
    go_enter Tryz.func165,Tryz.ntmps165
    go_wp2
    go_ret2
    exact ⟨by rw [HN.out.1,HN.out.2];rfl,rfl⟩
  · by_cases h6 : 6 < s.size
    · have HN:=hid (num_bad most (show ¬ NumC s.data.toList from fun h => by have:=h.len;omega))
      clear hl
      go_enter Tryz.func165,Tryz.ntmps165
      go_wp2
      go_ret2
      exact ⟨by rw [HN.out.1,HN.out.2];rfl,rfl⟩
    · obtain ⟨c0,hc0,e0⟩:=byte_at s 0 (by omega)
      by_cases hz : c0.toNat = 48 ∧ 1 < s.size
      · obtain ⟨hz1,hz2⟩:=hz
        have HN:=hid (num_bad most (show ¬ NumC s.data.toList from fun h => by
          have:=h.head (by rw [List.head?_eq_getElem?,hc0];exact congrArg some (UInt8.toNat_inj.1 (by rw [hz1];rfl)))
          omega))
        rw [hz1] at e0
        clear hl hc0 hz1
        go_enter Tryz.func165,Tryz.ntmps165
        go_wp2
        go_ret2
        exact ⟨by rw [HN.out.1,HN.out.2];rfl,rfl⟩
      · obtain ⟨a,ha⟩ : ∃ a,c0.toNat = a:=⟨_,rfl⟩
        rw [ha] at e0 hz
        have hne : s.data.toList ≠ []:=fun h => by rw [h] at hl;simp at hl;omega
        have h0 : s.data.toList.head? = some 48 → s.data.toList.length = 1:=by
          intro h
          rw [List.head?_eq_getElem?,hc0] at h
          have h48 : a = 48:=by rw [← ha,Option.some.inj h];rfl
          omega
        have HE:=hid fun (h : s.data.toList.all Wf.isDig = true) => num_good most (show NumC s.data.toList from ⟨hne,by omega,h,h0⟩)
        have HL:=hid hl
        have hg : (((a : Int) == 48) = true ∧ decide ((1 : Int) < (s.size : Int)) = false) ∨ ((a : Int) == 48) = false:=by
          by_cases h48 : a = 48
          · exact .inl ⟨by rw [h48];rfl,decide_eq_false (by omega)⟩
          · exact .inr (by rw [beq_eq_false_iff_ne];omega)
        clear hz hc0 ha hl hne h0
        rcases hg with ⟨hg1,hg2⟩ | hg1
        all_goals
          go_enter Tryz.func165,Tryz.ntmps165
          go_wp2
          go_loop [6,28] (fun n i => ∃ k v : Nat,k ≤ s.size ∧ i = .int .i64 k ∧ n = .int .i64 v ∧ v < 10 ^ k ∧ Hid ((s.data.toList.take k).all Wf.isDig = true ∧ v = Wf.val (s.data.toList.take k))) (fun _ i => s.size - (RowKit.intOf i).toNat)
          case atStart => exact ⟨0,0,Nat.zero_le _,rfl,rfl,by decide,hid ⟨by simp,by simp [Wf.val]⟩⟩
          case round =>
            obtain ⟨k,v,hk,rfl,rfl,hv,hd⟩:=hrel
            by_cases hlt : k < s.size
            · obtain ⟨c,hc,e1⟩:=byte_at s k hlt
              obtain ⟨b,hb⟩ : ∃ b,c.toNat = b:=⟨_,rfl⟩
              rw [hb] at e1
              have HC:=hid hc
              have HB:=hid hb
              have hv6 : v < 1000000:=by
                have : 10 ^ k ≤ 10 ^ 5:=Nat.pow_le_pow_right (by decide) (by omega)
                have : 10 ^ 5 = 100000:=rfl
                omega
              have hb256 : b < 256:=by rw [← hb];exact c.toNat_lt
              clear hc hb
              by_cases hlo : b < 48
              · go_wp2
                go_ret2
                have HX:=num_bad most (num_no HC.out (by rw [HB.out];omega))
                exact ⟨by rw [HX.1,HX.2];rfl,rfl⟩
              · by_cases hhi : 57 < b
                · go_wp2
                  go_ret2
                  have HX:=num_bad most (num_no HC.out (by rw [HB.out];omega))
                  exact ⟨by rw [HX.1,HX.2];rfl,rfl⟩
                · have HT:=hid (dig_take hd.out.1 HC.out (by rw [HB.out];omega) (by rw [HB.out];omega))
                  go_wp2
                  go_round
                  case rel => exact ⟨k + 1,10 * v + (b - 48),by omega,by go_num,congrArg (Value.int .i64) (by rw [Int.natCast_add,Int.natCast_mul,Int.ofNat_sub (by omega)];rfl),by rw [Nat.pow_succ];omega,hid ⟨HT.out.1,by rw [HT.out.2,HB.out,hd.out.2]⟩⟩
                  case measure => simp [RowKit.intOf];omega
            · have hks : k = s.size:=by omega
              subst hks
              have HF:=hid (show s.data.toList.all Wf.isDig = true ∧ v = Wf.val s.data.toList by have:=hd.out;rwa [List.take_of_length_le (by rw [HL.out];exact Nat.le_refl _)] at this)
              go_wp2
              go_ret2
              have HX:=HE.out HF.out.1
              exact ⟨by rw [HX.1,HX.2,← HF.out.2];rfl,rfl⟩
end Go.Proofs.YtmdacedmjbiekaaGreatDoor
