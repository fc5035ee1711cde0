/- Packed by pack.py: Xp Xr. -/
import Derived.Shelf.Strings.SlTrimAscii
import Derived.Shelf.Strings.Prefix
import Derived.Shelf.Strings.Cut
import Derived.Shelf.Strings.Search3
import Derived.Shelf.Strings.Split
import Derived.Shelf.Strings.SplitShaped
import Derived.Shelf.Strings.Shaped
import Derived.Shelf.Small.Wraps
import Derived.Shelf.Strings.OnBuilder
import Derived.WalkKit
import Derived.Lib.UnsafeStr
import Derived.Lib.Hide
import Derived.ProofKit
import Derived.OpenShut
import Derived.BigQuiet
import Derived.WalkSpells
import Derived.KernelRfl
import Derived.Below
import Derived.Lib.SlTrimSet
import Derived.Deep.QuietTactic
import Derived.Deep.RegionWith
import Derived.Deep.RegionHeld3
import Derived.IntWalk
import Derived.Deep.DeepCutAuto
import Derived.Lib.Split
import Derived.Lib.IndexMore
import Derived.Lib.CountLaws
import Derived.Lib.SplitLaws
import Derived.Deep.AppendLies
import Derived.Deep.RegionLaw
import Derived.Maps.Own
import Derived.Maps.OwnOps
import Derived.Maps.OwnSet
import Derived.Maps.Views
import Derived.StringKeys
import Derived.Maps.AppendAt
import Derived.Deep.CutRange
import Derived.Deep.RegionHeldLaw
import Derived.WalkSmall
import Derived.Lib.PathFns
import Derived.Deep.WholeRow
import Derived.Test.YtidjpalnmnehmaaRows
import Derived.Test.YtidjpalnmnehmaaF0
import Derived.Test.YtidjpalnmnehmaaF1
import Derived.Test.YtidjpalnmnehmaaF2
import Derived.Test.YtidjpalnmnehmaaF3
import Derived.Test.YtidjpalnmnehmaaF4
import Derived.Test.YtidjpalnmnehmaaF5
import Derived.Test.YtidjpalnmnehmaaF6
import Derived.Test.YtidjpalnmnehmaaF7
import Derived.Test.YtidjpalnmnehmaaF8
import Derived.Test.YtidjpalnmnehmaaF9
import Derived.Test.YtidjpalnmnehmaaF10
import Derived.Test.YtidjpalnmnehmaaF11
import Derived.Test.YtidjpalnmnehmaaF12
import Derived.Test.YtidjpalnmnehmaaF13
import Derived.Test.YtidjpalnmnehmaaF14
import Derived.Test.YtidjpalnmnehmaaF15
import Derived.Test.YtidjpalnmnehmaaF16
import Derived.Test.YtidjpalnmnehmaaF17
import Derived.Test.YtidjpalnmnehmaaF18
import Derived.Test.YtidjpalnmnehmaaF19
import Derived.Test.YtidjpalnmnehmaaF20
import Derived.Test.YtidjpalnmnehmaaF21
import Derived.Test.YtidjpalnmnehmaaF22
import Derived.Test.YtidjpalnmnehmaaF23
import Derived.Test.YtidjpalnmnehmaaF24
import Derived.Test.YtidjpalnmnehmaaF26
import Derived.Test.YtidjpalnmnehmaaF27
import Derived.Test.YtidjpalnmnehmaaF28
import Derived.Test.YtidjpalnmnehmaaF29
import Derived.Test.YtidjpalnmnehmaaF30
import Derived.Test.YtidjpalnmnehmaaF42
namespace Go.Proofs.Ytidjpalnmnehmaa
open Go.ChangeShapes Go.WideShapes Go.ChangeAt Go.RowKit Go.Lib
set_option linter.unusedVariables false
set_option linter.unusedSimpArgs false
theorem ref_at {x : Wf.Sc} {v : Value} {W : World} (hx : Wf.ScOk x) (lo bsc : Nat) (hsp : ScSp W lo bsc v x) {nm : List UInt8} {t : Wf.Ty} (hf : x.find nm = some t) (hnm : (Wf.K.ref nm).text.length ≤ 1000000) (q : Nat) (hq : t.sort.toNat = q) (wz : World) (hz : Below W.heap.size W wz) : Calls Try.prog 52 #[v,tx (Wf.K.ref nm).text] wz fun e w' => (∃ fb fa fc,e = .returned (.tuple #[.agg #[.int .u8 q, .string ⟨t.name.toArray⟩, .slice fa t.fields.length fc], .bool true]) ∧ RowK W fb (.slice fa t.fields.length fc) 4 (t.fields.map (fdS t.sort))) ∧ Below wz.heap.size wz w':=by
  rw [← hq]
  exact ref_found x v W t nm hx lo bsc hsp hf hnm wz hz
theorem l4read (x : Wf.Sc) (hx : Wf.ScOk x) (v : Value) (lo bsc : Nat) (W : World) (hsp : ScSp W lo bsc v x) : ∀ (n : Nat),n ≤ 1000 → ∀ (k : Wf.K),KOk x k → LR x v W n k:=by
  intro n
  induction n with
  | zero =>
    intro _ k hk S w hS hW
    refine read_no v S ⟨k.text.toArray⟩ (0 : Nat) w _ ?_ (Wf.parse_zero x k _)
    by_cases h : S.toList.isEmpty = true
    · exact .inl h
    · exact .inr ⟨by simpa using h,by decide⟩
  | succ n ih =>
    intro hn k hk S w hS hW
    have hD : decide (((n + 1 : Nat) : Int) < 1) = false:=decide_eq_false (by omega)
    have hDe : ((n + 1 : Nat) : Int) = (n : Int) + 1:=by omega
    have kd : IntKind.i64.wrap (((n + 1 : Nat) : Int) - 1) = (n : Int):=by rw [hDe,Int.add_sub_cancel];exact IntWalk.i64_in _ (by omega)
    cases hl : S.data.toList with
    | nil =>
      refine read_no v S ⟨k.text.toArray⟩ _ w _ (.inl ?_) (Wf.parse_nil x (n + 1) k)
      rw [ByteArray.toList_eq,hl];rfl
    | cons c q =>
      obtain ⟨e1,e2,e3,e4,e5,e6⟩:=str_ne hl
      have hRs : (S.extract 1 S.size).size ≤ 1048576:=by rw [ByteArray.size_extract];omega
      rw [← hl]
      cases k with
      | num => exact read_plain v S ⟨(Wf.K.text .num).toArray⟩ _ w _ e1 hD 110 (by decide) (fun _ => rfl) (.inl rfl) (fun wz => plain_num x n v S hS wz)
      | txt => exact read_plain v S ⟨(Wf.K.text .txt).toArray⟩ _ w _ e1 hD 116 (by decide) (fun _ => rfl) (.inr (.inl rfl)) (fun wz => plain_txt x n v S hS wz)
      | flag => exact read_plain v S ⟨(Wf.K.text .flag).toArray⟩ _ w _ e1 hD 102 (by decide) (fun _ => rfl) (.inr (.inr rfl)) (fun wz => plain_flag x n v S hS wz)
      | list k =>
        obtain ⟨hk0,ek⟩:=kd_first (kd:=(Wf.K.list k).text) (c:=91) rfl
        by_cases hc : c = 91
        · subst hc
          rw [hl]
          have h:=fun wz (hz : Below w.heap.size w wz) => l4list x v W n k (S.extract 1 S.size) ((n + 1 : Nat) : Int) wz hRs hDe (by omega) (ih (by omega) k hk.list) (hW.trans (hz.mono hW.size))
          rw [e6] at h
          exact read_list v S _ _ w _ _ e1 e3 e4 rfl hD hk0 ek e5 h
        · refine read_list_no v S _ _ w _ e1 e3 hD hk0 ek c.toNat e5 ?_ (Wf.parse_list_no x n k (by rw [hl];simpa using hc))
          rw [bne_iff_ne]
          intro h
          exact hc (UInt8.toNat_inj.1 (by show c.toNat = 91;omega))
      | opt k =>
        obtain ⟨hk0,ek⟩:=kd_first (kd:=(Wf.K.opt k).text) (c:=63) rfl
        have hK1 : (⟨(Wf.K.opt k).text.toArray⟩ : ByteArray).extract 1 (⟨(Wf.K.opt k).text.toArray⟩ : ByteArray).size = ⟨k.text.toArray⟩:=by rw [eq_list,suf_list];rfl
        by_cases h45 : c = 45
        · subst h45
          exact read_opt_none v S _ _ w _ _ e1 e3 e4 rfl hD hk0 ek rfl e5 (by rw [e6,hl];exact Wf.parse_opt_none x n k q)
        · by_cases h43 : c = 43
          · subst h43
            refine read_opt_some v n S _ _ w _ k _ _ e1 e3 e4 rfl hD hk0 (by simp [ByteArray.size,Wf.K.text]) hK1 ek rfl e5 kd (Wf.parse x n k (S.extract 1 S.size).data.toList) (by rw [hl,e6];exact Wf.parse_opt_some x n k q) (fun wz hz => ih (by omega) k hk.opt _ wz hRs (hW.trans (hz.mono hW.size)))
          · refine read_opt_no v S _ _ w _ e1 e3 hD hk0 ek c.toNat e5 ?_ ?_ (Wf.parse_opt_no x n k (by rw [hl];simpa using h45) (by rw [hl];simpa using h43))
            · rw [beq_eq_false_iff_ne]
              intro h
              exact h45 (UInt8.toNat_inj.1 (by show c.toNat = 45;omega))
            · rw [bne_iff_ne]
              intro h
              exact h43 (UInt8.toNat_inj.1 (by show c.toNat = 43;omega))
      | ref nm =>
        obtain ⟨hk0,ek⟩:=kd_first (kd:=(Wf.K.ref nm).text) (c:=64) rfl
        obtain ⟨t,hf⟩:=Wf.hasRef_ref hk.ref
        have htx:=(Wf.find_mem hf).1
        have hto:=hx.tys t htx
        have hnm : (Wf.K.ref nm).text.length ≤ 1000000:=by have:=hk.len;omega
        have htl : t.fields.length ≤ 1000:=by have:=hto.len;omega
        have hR:=fun (h69 : t.sort ≠ 69) f hfm => ih (by omega) f.kind (KOk.fld hx htx h69 (f:=f) hfm)
        refine read_ref v S _ _ w _ e1 hD hk0 ek fun wz hz => ?_
        have hWz:=hW.trans (hz.mono hW.size)
        rcases hto.sort with hs | hs | hs
        · have hr:=fun wy (hy : Below wz.heap.size wz wy) => ref_at hx lo bsc hsp hf hnm 82 (by rw [hs];rfl) wy (hWz.trans (hy.mono hWz.size))
          by_cases hc : c = 123
          · subst hc
            rw [hl]
            have h:=fun fb fa fc wy (hrow : RowK W fb (.slice fa t.fields.length fc) 4 (t.fields.map (fdS t.sort))) (hy : Below wz.heap.size wz wy) => l4record x v W n t nm (S.extract 1 S.size) ((n + 1 : Nat) : Int) wy hx lo bsc hsp htx hf fb fc fa hrow hs hRs hDe (by omega) (hR (by rw [hs];decide)) (hWz.trans (hy.mono hWz.size))
            rw [e6] at h
            exact nm_rec v W t S _ wz _ _ _ _ e4 e5 rfl _ hr h
          · refine nm_no v S _ wz 82 c.toNat _ _ t.fields.length e3 e5 (.inl ⟨rfl, ?_⟩) (fun wy hy => (hr wy hy).mono fun e w' ⟨⟨fb,fa,fc,h1,_⟩,h2⟩ => ⟨⟨fa,fc,h1⟩,h2⟩) _ (Wf.parse_rec_no x n hf hs (by rw [hl];simpa using hc))
            rw [beq_eq_false_iff_ne]
            intro h
            exact hc (UInt8.toNat_inj.1 (by show c.toNat = 123;omega))
        · have hr:=fun wy (hy : Below wz.heap.size wz wy) => ref_at hx lo bsc hsp hf hnm 85 (by rw [hs];rfl) wy (hWz.trans (hy.mono hWz.size))
          by_cases hc : c = 60
          · subst hc
            rw [hl]
            have h:=nm_uni x v W n t nm S ((n + 1 : Nat) : Int) wz ⟨(Wf.K.ref nm).text.toArray⟩ ⟨t.name.toArray⟩ (S.extract 1 S.size) t.fields.length hx htx hf e4 hRs rfl e5 rfl hs hDe (by omega) hWz (hR (by rw [hs];decide)) hr (fun fb fa fc wy hrow hy => by
              have h:=l4tag t htl v (S.extract 1 S.size) hRs fb fc fa W wy (hWz.trans (hy.mono hWz.size)) hrow
              rw [hs] at h
              exact h)
            rw [e6] at h
            exact h
          · refine nm_no v S _ wz 85 c.toNat _ _ t.fields.length e3 e5 (.inr (.inr ⟨rfl, ?_⟩)) (fun wy hy => (hr wy hy).mono fun e w' ⟨⟨fb,fa,fc,h1,_⟩,h2⟩ => ⟨⟨fa,fc,h1⟩,h2⟩) _ (Wf.parse_uni_no x n hf hs (by rw [hl];simpa using hc))
            rw [beq_eq_false_iff_ne]
            intro h
            exact hc (UInt8.toNat_inj.1 (by show c.toNat = 60;omega))
        · have hr:=fun wy (hy : Below wz.heap.size wz wy) => ref_at hx lo bsc hsp hf hnm 69 (by rw [hs];rfl) wy (hWz.trans (hy.mono hWz.size))
          by_cases hc : c = 35
          · subst hc
            rw [hl,parse_enm_tagF x n hf hs q]
            have h:=nm_enm v W t S ((n + 1 : Nat) : Int) wz ⟨(Wf.K.ref nm).text.toArray⟩ ⟨t.name.toArray⟩ (S.extract 1 S.size) t.fields.length e4 rfl e5 rfl hs hr (fun fb fa fc wy hrow hy => by
              have h:=l4tag t htl v (S.extract 1 S.size) hRs fb fc fa W wy (hWz.trans (hy.mono hWz.size)) hrow
              rw [hs] at h
              exact h)
            rw [e6] at h
            exact h
          · refine nm_no v S _ wz 69 c.toNat _ _ t.fields.length e3 e5 (.inr (.inl ⟨rfl, ?_⟩)) (fun wy hy => (hr wy hy).mono fun e w' ⟨⟨fb,fa,fc,h1,_⟩,h2⟩ => ⟨⟨fa,fc,h1⟩,h2⟩) _ (Wf.parse_enm_no x n hf hs (by rw [hl];simpa using hc))
            rw [beq_eq_false_iff_ne]
            intro h
            exact hc (UInt8.toNat_inj.1 (by show c.toNat = 35;omega))
def LoOut (l kt s : List UInt8) (lo : Nat) (e : Ending) (w' : World) : Prop:=match valOf l kt s with
  | some y => ∃ b a c p,e = .returned (.tuple #[.slice a y.1.1.length c,ptr p, .bool true]) ∧ ScSp w' lo b (.slice a y.1.1.length c) y.1.1 ∧ LV w' (fun z => lo ≤ z) y.2 p
  | none => ∃ a n c p,e = .returned (.tuple #[.slice a n c, .pointer p, .bool false])
theorem LoOut.no {l kt s : List UInt8} {lo : Nat} {e : Ending} {w' : World} (h : valOf l kt s = none) (he : ∃ a n c p,e = .returned (.tuple #[.slice a n c, .pointer p, .bool false])) : LoOut l kt s lo e w':=by
  unfold LoOut;rw [h];exact he
theorem LoOut.yes {l kt s : List UInt8} {lo : Nat} {e : Ending} {w' : World} {y : (Wf.Sc × Wf.K) × Wf.V} (h : valOf l kt s = some y) (he : ∃ b a c p,e = .returned (.tuple #[.slice a y.1.1.length c,ptr p, .bool true]) ∧ ScSp w' lo b (.slice a y.1.1.length c) y.1.1 ∧ LV w' (fun z => lo ≤ z) y.2 p) : LoOut l kt s lo e w':=by
  unfold LoOut;rw [h];exact he
set_option maxRecDepth 20000 in
set_option maxHeartbeats 2000000 in
theorem l4Of (s kt v : ByteArray) (w : World) (hs : s.size ≤ 1048576) (hv : v.size ≤ 1048576) : Calls Try.prog 23 #[.string s, .string kt, .string v] w fun e w' => LoOut s.data.toList kt.data.toList v.data.toList w.heap.size e w' ∧ Below w.heap.size w w':=by
  have HLK:=hid (l3Kind s kt w hs)
  cases hty : kindOf s.data.toList kt.data.toList with
  | none =>
    have HO:=hid fun lo e wz (h : LkOut s.data.toList kt.data.toList lo e wz) => (by unfold LkOut at h;rw [hty] at h;exact h : ∃ a n c,e = .returned (.tuple #[.slice a n c, .bool false]))
    have HF:=hid (show valOf s.data.toList kt.data.toList v.data.toList = none by unfold valOf;rw [hty])
    clear hty
    go_enter Try.func23,Try.ntmps23
    go_wp2_with (go_at_call 28;refine HLK.out.mono ?_;rintro e w2 ⟨ho,hb2⟩;obtain ⟨a,n,c,rfl⟩:=HO.out _ _ _ ho;have HB2:=hid hb2;clear ho hb2)
    all_goals exact bodyPost_ret (v:=.tuple #[.slice none 0 0, .pointer none, .bool false]) (by simp [results,Try.results23,go_sem, *]) rfl ⟨LoOut.no HF.out ⟨_,_,_,_,rfl⟩,HB2.out⟩
  | some y =>
    obtain ⟨x,k⟩:=y
    obtain ⟨hsc,hpk,hhas,hkt,hkl⟩:=kindOf_text hty
    have hx:=Wf.schemaOf_ok hsc
    have hk : KOk x k:=⟨by rw [hkt];exact hkl,hhas⟩
    have HO:=hid fun lo e wz (h : LkOut s.data.toList kt.data.toList lo e wz) => (by unfold LkOut at h;rw [hty] at h;exact h : ∃ b a c,e = .returned (.tuple #[.slice a x.length c, .bool true]) ∧ ScSp wz lo b (.slice a x.length c) x)
    obtain ⟨xn,hxn⟩ : ∃ xn,x.length = xn:=⟨_,rfl⟩
    rw [hxn] at HO
    have hkk : tx k.text = .string kt:=by rw [tx,show k.text = kt.data.toList from hkt]
    by_cases h400 : v.size ≤ 400
    · have HRD:=hid fun (wz : World) (vv : Value) (lo b : Nat) (hsp : ScSp wz lo b vv x) => (by
        have h:=l4read x hx vv lo b wz hsp 12 (by omega) k hk v wz hv (Below.refl _ _)
        rw [hkk] at h
        exact h : Calls Try.prog 31 #[.agg #[vv], .string v, .string kt, .int .i64 12] wz fun e w' => LrOut (Wf.parse x 12 k v.data.toList) wz e w' ∧ Below wz.heap.size wz w')
      have HV:=hid (show valOf s.data.toList kt.data.toList v.data.toList = match (match Wf.parse x 12 k v.data.toList with | some (u,[]) => some u | _ => none) with | some u => some ((x,k),u) | none => none by
        unfold valOf
        rw [hty]
        dsimp only
        rw [Wf.valIn,if_pos (by rw [size_list];exact h400)]
        rfl)
      have hd : decide ((400 : Int) < (v.size : Int)) = false:=decide_eq_false (by omega)
      clear hty hsc hpk hhas hkt hkl hkk
      cases hp : Wf.parse x 12 k v.data.toList with
      | none =>
        have HF:=hid (show valOf s.data.toList kt.data.toList v.data.toList = none by rw [HV.out,hp])
        have HO2:=hid fun (e : Ending) (w w' : World) (h : LrOut (Wf.parse x 12 k v.data.toList) w e w') => (by rw [hp] at h;exact h : ∃ (p : Option Addr) (r : ByteArray),e = .returned (.tuple #[.pointer p, .string r, .bool false]))
        clear hp
        go_enter Try.func23,Try.ntmps23
        go_wp2_with (first | (go_at_call 31;refine (HRD.out _ _ _ _ HSP.out).mono ?_;rintro e w3 ⟨ho,hb3⟩;obtain ⟨p,r,rfl⟩:=HO2.out _ _ _ ho;have HB3:=hid (below_join HB2.out hb3);clear ho hb3) | (go_at_call 28;refine HLK.out.mono ?_;rintro e w2 ⟨ho,hb2⟩;obtain ⟨b,a,c,rfl,hsp⟩:=HO.out _ _ _ ho;have HSP:=hid hsp;have HB2:=hid hb2;clear ho hb2 hsp))
        all_goals exact bodyPost_ret (v:=.tuple #[.slice a xn c, .pointer p, .bool false]) (by simp [results,Try.results23,go_sem, *]) rfl ⟨LoOut.no HF.out ⟨_,_,_,_,rfl⟩,HB3.out⟩
      | some y =>
        obtain ⟨u,rr⟩:=y
        obtain ⟨RR,hRR⟩ : ∃ RR : ByteArray,(⟨rr.toArray⟩ : ByteArray) = RR:=⟨_,rfl⟩
        have HO2:=hid fun (e : Ending) (w w' : World) (h : LrOut (Wf.parse x 12 k v.data.toList) w e w') => (by unfold LrOut at h;rw [hp] at h;dsimp only at h;rw [tx,hRR] at h;exact h : ∃ b,e = .returned (.tuple #[ptr b, .string RR, .bool true]) ∧ LV w' (fun z => w.heap.size ≤ z) u b)
        cases rr with
        | nil =>
          have HF:=hid (show valOf s.data.toList kt.data.toList v.data.toList = some ((x,k),u) by rw [HV.out,hp])
          have hre : RR.toList.isEmpty = true:=by rw [← hRR,ByteArray.toList_eq];rfl
          have hre2 : RR.toList = []:=List.isEmpty_iff.1 hre
          have HXN:=hid hxn
          clear hp hRR hxn
          go_enter Try.func23,Try.ntmps23
          go_wp2_with (first | (go_at_call 31;refine (HRD.out _ _ _ _ HSP.out).mono ?_;rintro e w3 ⟨ho,hb3⟩;obtain ⟨pb,rfl,hlv⟩:=HO2.out _ _ _ ho;have HLV:=hid hlv;have HB3:=hid (below_join HB2.out hb3);have HSP3:=hid (HSP.out.below hb3);clear ho hb3 hlv) | (go_at_call 28;refine HLK.out.mono ?_;rintro e w2 ⟨ho,hb2⟩;obtain ⟨b,a,c,rfl,hsp⟩:=HO.out _ _ _ ho;have HSP:=hid hsp;have HB2:=hid hb2;clear ho hb2 hsp))
          all_goals exact bodyPost_ret (v:=.tuple #[.slice a xn c,ptr pb, .bool true]) (by simp [results,Try.results23,go_sem, *]) rfl ⟨LoOut.yes HF.out ⟨b,a,c,pb,by rw [HXN.out],by rw [HXN.out];exact HSP3.out,LV.mono HLV.out fun z hz _ => Nat.le_trans HB2.out.size hz⟩,HB3.out⟩
        | cons c0 q0 =>
          have HF:=hid (show valOf s.data.toList kt.data.toList v.data.toList = none by rw [HV.out,hp])
          have hre : RR.toList.isEmpty = false:=by rw [← hRR,ByteArray.toList_eq];rfl
          have hre2 : RR.toList ≠ []:=by rw [← hRR,ByteArray.toList_eq];exact List.cons_ne_nil _ _
          clear hp hRR
          go_enter Try.func23,Try.ntmps23
          go_wp2_with (first | (go_at_call 31;refine (HRD.out _ _ _ _ HSP.out).mono ?_;rintro e w3 ⟨ho,hb3⟩;obtain ⟨pb,rfl,hlv⟩:=HO2.out _ _ _ ho;have HB3:=hid (below_join HB2.out hb3);clear ho hb3 hlv) | (go_at_call 28;refine HLK.out.mono ?_;rintro e w2 ⟨ho,hb2⟩;obtain ⟨b,a,c,rfl,hsp⟩:=HO.out _ _ _ ho;have HSP:=hid hsp;have HB2:=hid hb2;clear ho hb2 hsp))
          all_goals exact bodyPost_ret (v:=.tuple #[.slice a xn c,ptr pb, .bool false]) (by simp [results,Try.results23,go_sem, *]) rfl ⟨LoOut.no HF.out ⟨_,_,_,_,rfl⟩,HB3.out⟩
    · have HF:=hid (show valOf s.data.toList kt.data.toList v.data.toList = none by
        unfold valOf
        rw [hty]
        dsimp only
        rw [Wf.valIn_long (by rw [size_list];exact h400)])
      have hd : decide ((400 : Int) < (v.size : Int)) = true:=decide_eq_true (by omega)
      clear hty hsc hpk hhas hkt hkl hkk
      go_enter Try.func23,Try.ntmps23
      go_wp2_with (go_at_call 28;refine HLK.out.mono ?_;rintro e w2 ⟨ho,hb2⟩;obtain ⟨b,a,c,rfl,hsp⟩:=HO.out _ _ _ ho;have HB2:=hid hb2;clear ho hb2 hsp)
      all_goals exact bodyPost_ret (v:=.tuple #[.slice none 0 0, .pointer none, .bool false]) (by simp [results,Try.results23,go_sem, *]) rfl ⟨LoOut.no HF.out ⟨_,_,_,_,rfl⟩,HB2.out⟩
theorem LoOut.form {l kt s : List UInt8} {lo : Nat} {e : Ending} {w' : World} (h : LoOut l kt s lo e w') : ∃ (a : Option Addr) (n c : Nat) (p : Option Addr),e = .returned (.tuple #[.slice a n c, .pointer p, .bool (vOkB l kt s)]):=by
  unfold LoOut at h
  unfold vOkB
  cases hv : valOf l kt s with
  | none =>
    rw [hv] at h
    exact h
  | some y =>
    rw [hv] at h
    obtain ⟨b,a,c,p,rfl,_⟩:=h
    exact ⟨_,_,_,_,rfl⟩

def vfV : Option (List UInt8) → Value
  | some b => .tuple #[tx b, .bool true]
  | none => .tuple #[tx [], .bool false]
end Go.Proofs.Ytidjpalnmnehmaa
