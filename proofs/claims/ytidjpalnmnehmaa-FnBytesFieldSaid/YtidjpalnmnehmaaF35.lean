/- Packed by pack.py: Ec. -/
import Derived.Shelf.Strings.SlTrimAscii
import Derived.Shelf.Strings.Prefix
import Derived.Shelf.Strings.Cut
import Derived.Shelf.Strings.Search3
import Derived.Shelf.Strings.Split
import Derived.Shelf.Strings.SplitShaped
import Derived.Shelf.Strings.Shaped
import Derived.Shelf.Small.Wraps
import Derived.Shelf.Strings.OnBuilder
import Derived.WalkKit
import Derived.Lib.UnsafeStr
import Derived.Lib.Hide
import Derived.ProofKit
import Derived.OpenShut
import Derived.BigQuiet
import Derived.WalkSpells
import Derived.KernelRfl
import Derived.Below
import Derived.Lib.SlTrimSet
import Derived.Deep.QuietTactic
import Derived.Deep.RegionWith
import Derived.Deep.RegionHeld3
import Derived.IntWalk
import Derived.Deep.DeepCutAuto
import Derived.Lib.Split
import Derived.Lib.IndexMore
import Derived.Lib.CountLaws
import Derived.Lib.SplitLaws
import Derived.Deep.AppendLies
import Derived.Deep.RegionLaw
import Derived.Maps.Own
import Derived.Maps.OwnOps
import Derived.Maps.OwnSet
import Derived.Maps.Views
import Derived.StringKeys
import Derived.Maps.AppendAt
import Derived.Deep.CutRange
import Derived.Deep.RegionHeldLaw
import Derived.WalkSmall
import Derived.Lib.PathFns
import Derived.Deep.WholeRow
import Derived.Test.YtidjpalnmnehmaaRows
import Derived.Test.YtidjpalnmnehmaaF0
import Derived.Test.YtidjpalnmnehmaaF1
import Derived.Test.YtidjpalnmnehmaaF2
import Derived.Test.YtidjpalnmnehmaaF3
import Derived.Test.YtidjpalnmnehmaaF4
import Derived.Test.YtidjpalnmnehmaaF5
import Derived.Test.YtidjpalnmnehmaaF6
import Derived.Test.YtidjpalnmnehmaaF7
import Derived.Test.YtidjpalnmnehmaaF8
import Derived.Test.YtidjpalnmnehmaaF9
import Derived.Test.YtidjpalnmnehmaaF10
import Derived.Test.YtidjpalnmnehmaaF11
import Derived.Test.YtidjpalnmnehmaaF12
import Derived.Test.YtidjpalnmnehmaaF13
import Derived.Test.YtidjpalnmnehmaaF14
import Derived.Test.YtidjpalnmnehmaaF15
import Derived.Test.YtidjpalnmnehmaaF16
import Derived.Test.YtidjpalnmnehmaaF17
import Derived.Test.YtidjpalnmnehmaaF18
import Derived.Test.YtidjpalnmnehmaaF19
import Derived.Test.YtidjpalnmnehmaaF20
import Derived.Test.YtidjpalnmnehmaaF21
import Derived.Test.YtidjpalnmnehmaaF22
import Derived.Test.YtidjpalnmnehmaaF23
import Derived.Test.YtidjpalnmnehmaaF24
import Derived.Test.YtidjpalnmnehmaaF26
import Derived.Test.YtidjpalnmnehmaaF30
import Derived.Test.YtidjpalnmnehmaaF34
import Derived.Test.YtidjpalnmnehmaaF40
import Derived.Test.YtidjpalnmnehmaaF42
namespace Go.Proofs.Ytidjpalnmnehmaa
open Go.ChangeShapes Go.WideShapes Go.ChangeAt Go.RowKit Go.Lib
set_option linter.unusedVariables false
set_option linter.unusedSimpArgs false
theorem RW.start {w w2 : World} {rb k : Nat} (hb : Below w.heap.size w w2) (hr0 : rb < w.heap.size) (hr : Rd w rb k) (KT N : ByteArray) (fv : Value) (W3 : World) (hW3 : ((w2.alloc (.cells #[.int .u8 82, .string N,fv] 78)).alloc (.cells #[.int .u8 82] 5)).alloc (.cells #[.string KT, .string ⟨#[82]⟩, .slice none 0 0, .slice none 0 0] 69) = W3) :
    RW w W3 rb w2.heap.size (w2.heap.size + 1 + 1) fv KT k none 0 0 none 0 0 [] [] []:=by
  obtain ⟨h,hB⟩:=start_typed hb KT N ⟨#[82]⟩ 82 fv W3 hW3
  have h1:=h.vlt
  exact ⟨⟨Nat.lt_succ_self _,h.vle,h1,h.v2,h.f2,h.v3,h.f3,World.ownsRow_nil _ _ _ _,World.ownsRow_nil _ _ _ _,(fun y h => by cases h),rfl,rfl,by simp only [LVs]⟩,Beside.of_below hB (Nat.le_refl _),hr.below hB hr0,by omega,h.tle,h.t2,h.v0,h.v1⟩
theorem RW.done {w wr : World} {rb tb vb k mt tc m c : Nat} {fv : Value} {KT : ByteArray} {ta a : Option Addr} {es : List (Wf.Fd × Wf.V)} {bs : List Nat} (h : RW w wr rb tb vb fv KT k ta mt tc a m c (es.map fun e => e.1.tag) (es.map (·.2)) bs) (hk : KT.data.toList.head? = some 64) : LV wr (fun y => w.heap.size ≤ y) (Wf.recV es) vb:=by
  have hr:=h.rr
  have hbl : (bs.map ptr).length = m:=by rw [List.length_map,hr.hl]
  have hgm : ((es.map fun e => e.1.tag).map ix).length = mt:=by rw [List.length_map,hr.hg]
  obtain ⟨b,hb,hrow⟩:=RowAt.of_owns (xs:=bs.map ptr) (by rw [hbl];exact hr.ownK)
  obtain ⟨b2,hb2,hrow2⟩:=RowAt.of_owns (xs:=(es.map fun e => e.1.tag).map ix) (by rw [hgm];exact hr.ownT)
  have h1:=hr.lt
  have h3:=hr.le
  have h4:=hr.sz
  have ht : tagsOf 82 0 (es.map Wf.tagged) = es.map (fun e => e.1.tag):=tags_rec es
  have hfl : fl (es.map fun e => e.1.tag) (es.map (·.2)) = es.map Wf.tagged:=by
    clear h hr hbl hgm hrow hrow2 ht
    induction es with
    | nil => rfl
    | cons e es ih =>
      simp only [fl,List.map_cons,List.zipWith_cons_cons] at ih ⊢
      rw [ih]
      rfl
  have hl:=fl_lvs (gs:=es.map fun e => e.1.tag) (us:=es.map (·.2)) (bs:=bs) (W:=wr) (P:=fun y => w.heap.size ≤ y) (by rw [List.length_map,List.length_map]) (LVs.keep (fun y hp hlt => ⟨by have:=hp.1;omega,rfl⟩) (Nat.le_refl _) _ _ hr.vals)
  rw [hfl] at hl
  exact LV.mk (kd:=KT.data.toList) (t:=[82]) (tb:=b2) (kb:=b) (bs:=bs) (by decide) h3 (by omega) h.v0 h.v1 hr.v2 hr.v3 (by rw [ht];exact hrow2) (.inr (by omega)) hrow (.inr (by omega)) ⟨hk,rfl⟩ hl
theorem app_below {wr wx w4 : World} {base m c k : Nat} {a : Option Addr} {xs : List Value} {T : TypeId} (hb : base ≤ wr.heap.size) (ho : wr.ownsRow base T k (.slice a m c) m xs) (hx : Below wr.heap.size wr wx) (hg : wx.grownBy w4 (Value.slice a m c).ownBlock) : Below base wr w4 :=
  (hx.mono hb).trans (below_grown2 hg (fun g h => (owns_lt ho g h).1) (Nat.le_trans hb hx.size))
structure Drn (x : Wf.Sc) (t : Wf.Ty) (N B i : Nat) (es : List (Wf.Fd × Wf.V)) : Prop where
  len : es.length ≤ i
  asc : Wf.Asc es
  mem : ∀ e ∈ es,(∃ j,∃ h : j < t.fields.length,j < i ∧ t.fields[j] = e.1) ∧ Wf.Typed x N e.1.kind e.2 ∧ e.2.print.length ≤ B ∧ e.2.print ≠ Wf.standF x e.1
theorem Drn.skip {x : Wf.Sc} {t : Wf.Ty} {N B i : Nat} {es : List (Wf.Fd × Wf.V)} (h : Drn x t N B i es) : Drn x t N B (i + 1) es :=
  ⟨Nat.le_succ_of_le h.len,h.asc,fun e he => by obtain ⟨⟨j,h1,h2,h3⟩,h4⟩:=h.mem e he;exact ⟨⟨j,h1,Nat.lt_succ_of_lt h2,h3⟩,h4⟩⟩
theorem Drn.put {x : Wf.Sc} {t : Wf.Ty} {N B i : Nat} {es : List (Wf.Fd × Wf.V)} (h : Drn x t N B i es) (ht : Wf.TyOk t) (hi : i < t.fields.length) {u : Wf.V} (h1 : Wf.Typed x N (t.fields[i]).kind u) (h2 : u.print.length ≤ B) (h3 : u.print ≠ Wf.standF x t.fields[i]) : Drn x t N B (i + 1) (es ++ [(t.fields[i],u)]):=by
  refine ⟨by rw [List.length_append];exact Nat.succ_le_succ h.len, ?_,fun e he => ?_⟩
  · show ((es ++ [(t.fields[i],u)]).map (fun e => e.1.tag)).Pairwise (· < ·)
    rw [List.map_append]
    refine List.pairwise_append.2 ⟨h.asc,by simp,fun a ha b hb => ?_⟩
    obtain ⟨e,he,rfl⟩:=List.mem_map.1 ha
    simp only [List.map_cons,List.map_nil,List.mem_singleton] at hb
    subst hb
    obtain ⟨⟨j,k1,k2,k3⟩,_⟩:=h.mem e he
    rw [← k3]
    have:=List.pairwise_iff_getElem.1 ht.tags j i (by rw [List.length_map];exact k1) (by rw [List.length_map];exact hi) k2
    simpa using this
  · rcases List.mem_append.1 he with he | he
    · exact h.skip.mem e he
    · rw [List.mem_singleton.1 he]
      exact ⟨⟨i,hi,Nat.lt_succ_self _,rfl⟩,h1,h2,h3⟩
theorem Drn.out {x : Wf.Sc} {t : Wf.Ty} {N B i : Nat} {es : List (Wf.Fd × Wf.V)} {nm : List UInt8} (h : Drn x t N B i es) (ht : Wf.TyOk t) (hf : x.find nm = some t) (h82 : t.sort = 82) (hi : i ≤ 8) : Wf.Typed x (N + 1) (.ref nm) (Wf.recV es) ∧ (Wf.recV es).print.length ≤ 2 + 8 * (B + 5):=by
  constructor
  · refine Wf.rec_typed ⟨h.asc,fun e he => ?_⟩ hf h82
    obtain ⟨⟨j,k1,k2,k3⟩,h1,h2,h3⟩:=h.mem e he
    have hm : e.1 ∈ t.fields:=by rw [← k3];exact List.getElem_mem _
    have hfo:=ht.fds e.1 hm
    exact ⟨hfo.tag1,field_self ht hm,hfo.tag2,h1,h3⟩
  · rw [Wf.recV,Wf.print_rec]
    have h1:=(Wf.commas_psum ((es.map Wf.tagged).map Wf.V.print)).1
    have h2 : ∀ (l : List (Wf.Fd × Wf.V)),(∀ e ∈ l,e.2.print.length ≤ B ∧ (Wf.dec e.1.tag).length ≤ 3) → Wf.psum ((l.map Wf.tagged).map Wf.V.print) ≤ l.length * (B + 5):=by
      intro l
      induction l with
      | nil => intro _;simp [Wf.psum]
      | cons e l ih =>
        intro h
        have e1 : Wf.psum (((e :: l).map Wf.tagged).map Wf.V.print) = (Wf.tagged e).print.length + 1 + Wf.psum ((l.map Wf.tagged).map Wf.V.print):=by unfold Wf.psum;simp
        have:=ih fun u hu => h u (List.mem_cons_of_mem _ hu)
        have:=h e (List.mem_cons_self ..)
        rw [e1,List.length_cons,Nat.succ_mul,Wf.tagged_print]
        simp only [List.length_append,List.length_cons]
        omega
    have h3:=h2 es fun e he => by
      obtain ⟨⟨j,k1,k2,k3⟩,_,h4,_⟩:=h.mem e he
      have hm : e.1 ∈ t.fields:=by rw [← k3];exact List.getElem_mem _
      exact ⟨h4,Wf.dec_len e.1.tag 2 (by have:=(ht.fds e.1 hm).tag2;omega)⟩
    have h4 : es.length * (B + 5) ≤ 8 * (B + 5):=Nat.mul_le_mul_right _ (by have:=h.len;omega)
    simp only [List.length_cons,List.length_append,List.length_nil]
    omega
section
variable (x : Wf.Sc) (v : Value) (rb lo bsc : Nat) (d : Int)
set_option maxRecDepth 20000 in
set_option maxHeartbeats 8000000 in
theorem dt_rec (hx : Wf.ScOk x) (nm : List UInt8) (hnm : (Wf.K.ref nm).text.length ≤ 1000000) (t : Wf.Ty) (hf : x.find nm = some t) (h82 : t.sort = 82) (h1 : 1 ≤ t.fields.length) (hd1 : -1000 ≤ d) (hd2 : d ≤ 1000) (C B N : Nat) (hB : B ≤ 1000000) (IH : 0 < d → ∀ f ∈ t.fields,DrV x v rb lo bsc (d - 1) f.kind C B N) : DtV x v rb lo bsc d nm (8 * (C + 1)) (2 + 8 * (B + 5)) (N + 1):=fun w k0 H hk0 hsp hlo => by
  have R0:=H.lt
  have htx:=(Wf.find_mem hf).1
  have hto:=hx.tys t htx
  have h69 : t.sort ≠ 69:=by rw [h82];decide
  have hr:=ref_draw x v rb lo bsc hx nm hnm t hf h1 w hsp hlo
  obtain ⟨n,hn⟩ : ∃ n,t.fields.length = n:=⟨_,rfl⟩
  have hn8 : n ≤ 8:=by have:=hto.len;omega
  obtain ⟨KT,hKT⟩ : ∃ KT : ByteArray,(⟨(Wf.K.ref nm).text.toArray⟩ : ByteArray) = KT:=⟨_,rfl⟩
  obtain ⟨N0,hN⟩ : ∃ N : ByteArray,(⟨t.name.toArray⟩ : ByteArray) = N:=⟨_,rfl⟩
  have HKH:=hid (show KT.data.toList.head? = some 64 by rw [← hKT];rfl)
  rw [hn,h82,tx,tx,hKT,hN] at hr
  have HREF:=hid hr
  have kc1:=fun W (a : Addr) (c : Nat) (h : W.cell? a = some (.int .u8 82)) => (show (convert 22 9 (.slice (some a) 1 c)).run Try.prog W = .ok (.string ⟨#[82]⟩) W from run_convert_one (P:=Try.prog) 22 9 5 Try.underlying22 Try.underlying5 Try.underlying9 W a c 82 h)
  have HFL:=hid fun (wz : World) (fb o i : Nat) (hfd : FdsAt rb wz fb o t) (hi : i < t.fields.length) => hfd.field hi h69
  have HIH:=hid IH
  have HSP:=hid hsp
  have HOUT:=hid fun (N : Nat) (f : Wf.Fd) (u : Wf.V) (ht : Wf.Typed x N f.kind u) (hl : u.print.length ≤ B) (P : Nat → Prop) (p : Nat) (W wz : World) (hv : LV W P u p) (hz : Below W.heap.size W wz) => out N f.kind u ht P p W wz hv hz (by omega)
  have HST:=hid fun (f : Wf.Fd) (hfm : f ∈ t.fields) (W wz : World) (hs : ScSp W lo bsc v x) (hz : Below W.heap.size W wz) => l3stand x hx lo bsc v f W wz hz hs (fd_kind (hto.fds f hfm)) (hx.refs t htx h69 f hfm)
  have HF:=hid hf
  have HN:=hid hn
  have H82:=hid h82
  have HTO:=hid hto
  have kd : IntKind.i64.wrap (d - 1) = d - 1:=IntWalk.i64_in _ (by omega)
  rw [tx,hKT]
  clear hKT hN hsp hf hn h82 hto hx hr IH h69 htx h1
  go_enter Try.func43,Try.ntmps43
  go_upto_region 14 with (go_at_call 52;refine HREF.out.mono ?_;rintro e w2 ⟨⟨fb,o,fc,rfl,hnc,hcm,hfd⟩,hb2⟩;have HFD:=hid hfd;have HB2:=hid hb2;have hl2:=hb2.size;clear hfd hb2)
  obtain ⟨W3,hW3⟩ : ∃ W3,((w2.alloc (.cells #[.int .u8 82, .string N0, .slice (some ⟨fb,o,none⟩) n fc] 78)).alloc (.cells #[.int .u8 82] 5)).alloc (.cells #[.string KT, .string ⟨#[82]⟩, .slice none 0 0, .slice none 0 0] 69) = W3:=⟨_,rfl⟩
  rw [hW3]
  have RW0:=hid (RW.start HB2.out R0 H KT N0 (.slice (some ⟨fb,o,none⟩) n fc) W3 hW3)
  clear hW3
  obtain ⟨tb,htb⟩ : ∃ tb,w2.heap.size = tb:=⟨_,rfl⟩
  rw [htb] at RW0 ⊢
  clear htb
  go_wp2_with fail
  go_loopw [13] (fun s13 wr => ∃ (i : Nat) (ta : Option Addr) (m tc : Nat) (a : Option Addr) (c : Nat) (es : List (Wf.Fd × Wf.V)) (bs : List Nat),s13 = .int .i64 i ∧ i ≤ n ∧ m ≤ i ∧ Hid (RW w wr rb tb (tb + 1 + 1) (.slice (some ⟨fb,o,none⟩) n fc) KT (k0 + i * (C + 1)) ta m tc a m c (es.map fun e => e.1.tag) (es.map (·.2)) bs ∧ Drn x t N B i es)) (fun s13 _ => n - (RowKit.intOf s13).toNat)
  case atStart => exact ⟨0,none,0,0,none,0,[],[],rfl,Nat.zero_le _,Nat.le_refl _,hid ⟨by rw [Nat.zero_mul];exact RW0.out,⟨Nat.le_refl _,by simp [Wf.Asc],by simp⟩⟩⟩
  case round =>
    obtain ⟨i,ta,m,tc,a,c,es,bs,rfl,hi,hmi,hh⟩:=hrel
    have t2:=hh.out.1.t2
    have tbl : tb < wr.heap.size:=by have:=hh.out.1.tl;have:=hh.out.1.rr.sz;omega
    by_cases hgo : i < n ∧ 0 < d
    · obtain ⟨hlt,hd⟩:=hgo
      have hdd : decide ((0 : Int) < d) = true:=decide_eq_true hd
      have hix : i < t.fields.length:=by rw [HN.out];exact hlt
      have hmc : i * (C + 1) ≤ 7 * (C + 1):=Nat.mul_le_mul_right _ (by omega)
      obtain ⟨hfbl,g0,g1,g2,g3⟩:=HFL.out wr fb o i (HFD.out.beside hh.out.1.bes) hix
      obtain ⟨G,hG⟩ : ∃ G,(t.fields[i]).tag = G:=⟨_,rfl⟩
      obtain ⟨FN,hFN⟩ : ∃ A : ByteArray,(⟨(t.fields[i]).name.toArray⟩ : ByteArray) = A:=⟨_,rfl⟩
      obtain ⟨FK,hFK⟩ : ∃ A : ByteArray,(⟨(t.fields[i]).kind.text.toArray⟩ : ByteArray) = A:=⟨_,rfl⟩
      obtain ⟨FG,hFG⟩ : ∃ A : ByteArray,(⟨(t.fields[i]).given.toArray⟩ : ByteArray) = A:=⟨_,rfl⟩
      simp only [tx,hG,hFN,hFK,hFG] at g0 g1 g2 g3
      have HC:=hid fun (wz : World) (kz : Nat) (hr : Rd wz rb kz) (hc : kz + C ≤ 900000) (hs : ScSp wz lo bsc v x) => (by
        have h:=HIH.out hd t.fields[i] (List.getElem_mem _) wz kz hr hc hs hlo
        rw [tx,hFK] at h
        exact h)
      have HSTI:=hid fun (W wz : World) (hs : ScSp W lo bsc v x) (hz : Below W.heap.size W wz) => (by
        have h:=HST.out t.fields[i] (List.getElem_mem _) W wz hs hz
        simp only [tx,hG,hFN,hFK,hFG] at h
        exact h)
      have HGG:=hid hG
      clear hG hFN hFK hFG
      go_upto_region 18 with (go_at_call 29;refine (HC.out wr (k0 + i * (C + 1)) hh.out.1.rd (by omega) (HSP.out.beside hh.out.1.bes hlo)).mono ?_;rintro e w4 ⟨u,p,rfl,ht,hpl,hlv,hr4,hb4⟩;have HT:=hid ht;have HPL:=hid hpl;have HLV:=hid hlv;have HR4:=hid hr4;have HB4:=hid hb4;clear ht hpl hlv hr4 hb4)
      have hbr : fb ≠ rb:=HFD.out.2.1
      have tbr : tb ≠ rb:=by have:=hh.out.1.tle;omega
      have RW4:=hid (hh.out.1.stepB HB4.out R0 HR4.out)
      have F:=hid fun (wz : World) (hz : Beside rb wr wz) => (show wz.cell? ⟨tb,2,none⟩ = some (.slice (some ⟨fb,o,none⟩) n fc) ∧ wz.cell? ⟨fb,o + i * 4,none⟩ = some (.int .i64 G) ∧ wz.cell? ⟨fb,o + i * 4 + 1,none⟩ = some (.string FN) ∧ wz.cell? ⟨fb,o + i * 4 + 2,none⟩ = some (.string FK) ∧ wz.cell? ⟨fb,o + i * 4 + 3,none⟩ = some (.string FG) from ⟨(hz.cell (p:=⟨tb,2,none⟩) tbl tbr).trans t2,(hz.cell (p:=⟨fb,o + i * 4,none⟩) hfbl hbr).trans g0,(hz.cell (p:=⟨fb,o + i * 4 + 1,none⟩) hfbl hbr).trans g1,(hz.cell (p:=⟨fb,o + i * 4 + 2,none⟩) hfbl hbr).trans g2,(hz.cell (p:=⟨fb,o + i * 4 + 3,none⟩) hfbl hbr).trans g3⟩)
      obtain ⟨pv,hpv,hpk⟩:=pickV rb (k0 + i * (C + 1) + C) 3 w4.drew (HR4.out.below (Below.drew (Below.refl _ _)) HR4.out.lt) (by omega) (by omega)
      have HPK:=hid hpk
      have hpv3 : pv = 0 ∨ pv = 1 ∨ pv = 2:=by have:=hpv (by omega);omega
      clear hpk hpv
      obtain ⟨PT,hPT⟩ : ∃ PT : ByteArray,(⟨u.print.toArray⟩ : ByteArray) = PT:=⟨_,rfl⟩
      obtain ⟨ST,hST⟩ : ∃ ST : ByteArray,(⟨(Wf.standF x t.fields[i]).toArray⟩ : ByteArray) = ST:=⟨_,rfl⟩
      have HO5:=hid fun (W wz : World) (hv : LV W (fun z => wr.heap.size ≤ z) u p) (hz : Below W.heap.size W wz) => (by
        have h:=HOUT.out N t.fields[i] u HT.out HPL.out _ p W wz hv hz
        rw [tx,hPT] at h
        exact h)
      have HS5:=hid fun (W wz : World) (hs : ScSp W lo bsc v x) (hz : Below W.heap.size W wz) => (by
        have h:=HSTI.out W wz hs hz
        rw [hST] at h
        exact h)
      have HEQ:=hid (show (PT.toList != ST.toList) = true → u.print ≠ Wf.standF x t.fields[i] from fun h e => by
        rw [← hPT,← hST,e] at h
        simp at h)
      have hwr4:=HB4.out.size
      have hrbr : rb < wr.heap.size:=Nat.lt_of_lt_of_le R0 hh.out.1.bes.size
      clear hPT hST
      obtain ⟨s0,s1,s2,s3,s4⟩:=F.out w4 HB4.out
      have hfb4 : fb < w4.heap.size:=Nat.lt_of_lt_of_le hfbl hwr4
      have htb4 : tb < w4.heap.size:=Nat.lt_of_lt_of_le tbl hwr4
      clear t2 g0 g1 g2 g3 hfbl
      go_cut [118] (fun s118 wx => ∃ b : Bool,s118 = .bool b ∧ Hid ((b = true → u.print ≠ Wf.standF x t.fields[i]) ∧ Beside rb w4 wx ∧ Rd wx rb (k0 + i * (C + 1) + C + 1)))
      case first =>
        rcases hpv3 with rfl | rfl | rfl
        · refine wp_region_any (by kernel_rfl) ?_
          refine wpAny_take (i:=0) (v:=.pointer (some ⟨rb,0,none⟩)) rfl (by kernel_rfl) (by kernel_rfl) (by kernel_rfl) (fun _ _ _ h => h) (Or.inl ⟨by rfl,fun w => by go_simp⟩) ?_
          refine wpAny_ready (rs:=[1]) (by kernel_rfl) (by simp) ?_
          refine AllReady.cons rfl (fun K hK => ?_) ?_
          rotate_left
          · exact AllReady.nil
          go_simp
          go_wp2_with (go_at_call 10;refine HPK.out.mono ?_;rintro e w5 ⟨rfl,hr5,hb5⟩;have B5:=hid ((Beside.drew (Beside.refl rb w4)).trans hb5);have R5:=hid hr5;clear hr5 hb5)
          try (refine hK _ _ ?_;clear hK K)
          refine wpAny_take (i:=2) (v:=Value.bool false) rfl (by kernel_rfl) (by kernel_rfl) (by kernel_rfl) (fun _ _ _ h => h) (Or.inl ⟨by rfl,fun w => by go_simp⟩) ?_
          refine wpAny_take (i:=3) (v:=Value.bool false) rfl (by kernel_rfl) (by kernel_rfl) (by kernel_rfl) (fun _ _ _ h => h) (Or.inl ⟨by rfl,fun w => by go_simp⟩) ?_
          refine wpAny_take (i:=4) (v:=undef) rfl (by kernel_rfl) (by kernel_rfl) (by kernel_rfl) (fun _ _ _ h => h) (Or.inr ⟨by kernel_rfl,rfl⟩) ?_
          refine wpAny_take (i:=6) (v:=undef) rfl (by kernel_rfl) (by kernel_rfl) (by kernel_rfl) (fun _ _ _ h => h) (Or.inr ⟨by kernel_rfl,rfl⟩) ?_
          refine wpAny_take (i:=7) (v:=undef) rfl (by kernel_rfl) (by kernel_rfl) (by kernel_rfl) (fun _ _ _ h => h) (Or.inr ⟨by kernel_rfl,rfl⟩) ?_
          refine wpAny_take (i:=9) (v:=undef) rfl (by kernel_rfl) (by kernel_rfl) (by kernel_rfl) (fun _ _ _ h => h) (Or.inr ⟨by kernel_rfl,rfl⟩) ?_
          refine wpAny_take (i:=8) (v:=undef) rfl (by kernel_rfl) (by kernel_rfl) (by kernel_rfl) (fun _ _ _ h => h) (Or.inr ⟨by kernel_rfl,rfl⟩) ?_
          refine wpAny_take (i:=10) (v:=undef) rfl (by kernel_rfl) (by kernel_rfl) (by kernel_rfl) (fun _ _ _ h => h) (Or.inr ⟨by kernel_rfl,rfl⟩) ?_
          refine wpAny_take (i:=11) (v:=undef) rfl (by kernel_rfl) (by kernel_rfl) (by kernel_rfl) (fun _ _ _ h => h) (Or.inr ⟨by kernel_rfl,rfl⟩) ?_
          refine wpAny_take (i:=5) (v:=undef) rfl (by kernel_rfl) (by kernel_rfl) (by kernel_rfl) (fun _ _ _ h => h) (Or.inr ⟨by kernel_rfl,rfl⟩) ?_
          refine wpAny_take (i:=12) (v:=undef) rfl (by kernel_rfl) (by kernel_rfl) (by kernel_rfl) (fun _ _ _ h => h) (Or.inr ⟨by kernel_rfl,rfl⟩) ?_
          refine wpAny_take (i:=13) (v:=undef) rfl (by kernel_rfl) (by kernel_rfl) (by kernel_rfl) (fun _ _ _ h => h) (Or.inr ⟨by kernel_rfl,rfl⟩) ?_
          refine wpAny_take (i:=14) (v:=Value.bool false) rfl (by kernel_rfl) (by kernel_rfl) (by kernel_rfl) (fun _ _ _ h => h) (Or.inl ⟨by rfl,fun w => by go_simp⟩) ?_
          refine wpAny_done (by kernel_rfl) ?_ _
          go_simp
          all_goals (go_wp2_with fail;go_meet)
          all_goals exact ⟨false,rfl,hid ⟨(fun h => by cases h),B5.out,R5.out⟩⟩
        all_goals
          first | (go_region_held_law (fun w' => w'.cell? ⟨tb,2,none⟩ = some (.slice (some ⟨fb,o,none⟩) n fc) ∧ w'.cell? ⟨fb,o + i * 4,none⟩ = some (.int .i64 G) ∧ w'.cell? ⟨fb,o + i * 4 + 1,none⟩ = some (.string FN) ∧ w'.cell? ⟨fb,o + i * 4 + 2,none⟩ = some (.string FK) ∧ w'.cell? ⟨fb,o + i * 4 + 3,none⟩ = some (.string FG)) (first | exact ⟨q0,q1,q2,q3,q4⟩ | exact ⟨r0,r1,r2,r3,r4⟩ | exact ⟨p0,p1,p2,p3,p4⟩ | go_keep) (first | (go_at_call 30;refine (HO5.out w5 _ HLV5.out (by first | exact TS.out | (repeat (first | with_reducible exact Below.refl _ _ | with_reducible refine Below.drew ?_)))).mono ?_;rintro e w6 ⟨rfl,hb6⟩;have TD:=Lib.hid (show Below w5.heap.size w5 w6 by first | exact TS.out.trans (hb6.mono TS.out.size) | (refine Below.trans (b:=_) ?_ hb6;(repeat (first | with_reducible exact Below.refl _ _ | with_reducible refine Below.drew ?_))));obtain ⟨q0,q1,q2,q3,q4⟩:=F5.out _ TD.out;clear hb6) | (go_at_call 53;refine (HS5.out w5 _ SP5.out (by first | exact TD.out | (repeat (first | with_reducible exact Below.refl _ _ | with_reducible refine Below.drew ?_)))).mono ?_;rintro e w7 ⟨rfl,hb7⟩;have TS:=Lib.hid (show Below w5.heap.size w5 w7 by first | exact TD.out.trans (hb7.mono TD.out.size) | (refine Below.trans (b:=_) ?_ hb7;(repeat (first | with_reducible exact Below.refl _ _ | with_reducible refine Below.drew ?_))));obtain ⟨r0,r1,r2,r3,r4⟩:=F5.out _ TS.out;clear hb7) | (go_at_call 10;refine HPK.out.mono ?_;rintro e w5 ⟨rfl,hr5,hb5⟩;have B5:=hid ((Beside.drew (Beside.refl rb w4)).trans hb5);have R5:=hid hr5;obtain ⟨p0,p1,p2,p3,p4⟩:=F.out _ (HB4.out.trans B5.out);have F5:=hid fun (wz : World) (hz : Below w5.heap.size w5 wz) => F.out wz ((HB4.out.trans B5.out).trans (Beside.of_below hz (Nat.le_refl _)));have HLV5:=hid (LV.keep (Q:=fun z => wr.heap.size ≤ z) (fun b hp hlt => ⟨hp,B5.out.block b hlt (by have h6 : wr.heap.size ≤ b:=hp;omega)⟩) B5.out.size _ _ HLV.out);have SP5:=hid (HSP.out.beside ((hh.out.1.bes.trans HB4.out).trans B5.out) hlo);clear hr5 hb5))) | fail
          all_goals (go_wp2_with fail;go_meet)
          all_goals exact ⟨_,rfl,hid ⟨fun h => HEQ.out h,by first | exact B5.out.trans (Beside.of_below TS.out (Nat.le_refl _)) | exact B5.out.trans (Beside.of_below TD.out (Nat.le_refl _)),by first | exact R5.out.below TS.out R5.out.lt | exact R5.out.below TD.out R5.out.lt⟩⟩
      case rest =>
        obtain ⟨b,rfl,hc⟩:=hcut
        obtain ⟨W5,hW5⟩ : ∃ W5,W5 = wc:=⟨_,rfl⟩
        subst hW5
        have RW5:=hid (RW4.out.stepB hc.out.2.1 R0 hc.out.2.2)
        have hkk : k0 + i * (C + 1) + C + 1 = k0 + (i + 1) * (C + 1):=by rw [Nat.succ_mul];omega
        have HKK:=hid hkk
        clear hkk s0 s1 s2 s3 s4 hfb4 htb4
        obtain ⟨s0,s1,s2,s3,s4⟩:=F.out W5 (HB4.out.trans hc.out.2.1)
        have hsz:=RW5.out.rr.sz
        have htl5 : tb < W5.heap.size:=by omega
        have hfl5 : fb < W5.heap.size:=Nat.lt_of_lt_of_le (Nat.lt_of_lt_of_le HFD.out.1 hh.out.1.bes.size) (Nat.le_trans hwr4 hc.out.2.1.size)
        cases b with
        | false =>
          go_wp2_with fail
          go_roundw
          case rel => exact ⟨i + 1,ta,m,tc,a,c,es,bs,by go_num,by omega,by omega,hid ⟨by rw [← HKK.out];exact RW5.out,hh.out.2.skip⟩⟩
          case measure => simp [RowKit.intOf];omega
        | true =>
          have v2:=RW5.out.rr.v2
          have f2:=RW5.out.rr.f2
          have HNE:=hid (hc.out.1 rfl)
          have HLV5:=hid (LV.keep (Q:=fun z => wr.heap.size ≤ z) (fun b hp hlt => ⟨hp,hc.out.2.1.block b hlt (by have h6 : wr.heap.size ≤ b:=hp;omega)⟩) hc.out.2.1.size _ _ HLV.out)
          have hvb5 : tb + 1 + 1 < W5.heap.size:=by omega
          go_wp2_with fail
          go_region_law (refine step_app_int (base:=tb + 1 + 1 + 1) (a:=ta) (m:=m) (c:=tc) (G:=G) (xs:=(es.map fun e => e.1.tag).map ix) (.tmp 123) (.tmp 130) rfl rfl (by simp;omega) (by repeat (first | with_reducible exact RW5.out.rr.ownT | with_reducible refine World.ownsRow.drew ?_ | with_reducible refine World.ownsRow.alloc ?_ _)) (by omega) (heap_alloc_last W5 _) (by simp [Act.eval,Act.put]) (by simp [Act.eval,Act.put]) ?_;intro g cap w6 hown6 hgrow6 hat6 b6;have TG:=hid (hh.out.1.tag RW5.out R0 HLV5.out (by repeat (first | with_reducible exact Below.refl _ _ | with_reducible refine Below.drew ?_ | with_reducible refine Below.alloc ?_ (by simp) _)) hgrow6 hown6 hat6);have B6:=hid (app_below hsz RW5.out.rr.ownT (by repeat (first | with_reducible exact Below.refl _ _ | with_reducible refine Below.drew ?_ | with_reducible refine Below.alloc ?_ (by simp) _)) hgrow6);have y2:=(B6.out.cell (p:=⟨tb + 1 + 1,2,none⟩) (Nat.lt_succ_self _)).trans v2;have yf:=(B6.out.frozen (p:=⟨tb + 1 + 1,2,none⟩) (Nat.lt_succ_self _)).trans f2;have hl6:=B6.out.size;clear hown6 hgrow6 hat6 b6)
          all_goals
            obtain ⟨W7,hW7⟩ : ∃ W7,w6.setCell ⟨tb + 1 + 1,2,none⟩ (.slice (some ⟨g,0,none⟩) (m + 1) cap) = W7:=⟨_,rfl⟩
            rw [hW7] at TG ⊢
            have hs7 : W7.heap.size = w6.heap.size:=by rw [← hW7];simp
            clear hW7 y2 yf
            have v3:=TG.out.1.rr.v3
            have f3:=TG.out.1.rr.f3
            have hvb7 : tb + 1 + 1 < W7.heap.size:=by omega
            have hsz7:=TG.out.1.rr.sz
            clear hs7 hl6
            go_wp2_with (at_builtin;refine list_app_ptr (base:=tb + 1 + 1 + 1) (a:=a) (m:=m) (c:=c) (p:=p) (xs:=bs.map ptr) (.tmp 138) (.tmp 140) rfl rfl (by simp;omega) (TG.out.1.rr.ownK.alloc _) (by omega) (heap_alloc_last W7 _) (by rfl) (by rfl) ?_;intro g2 cap2 w8 hown8 hgrow8 hat8 b8;have KD:=hid (TG.out.1.kid R0 TG.out.2 hgrow8 hown8 hat8);have y3:=(b8.cell (p:=⟨tb + 1 + 1,3,none⟩) (Nat.lt_succ_self _)).trans ((World.cell?_alloc_lt W7 _ ⟨tb + 1 + 1,3,none⟩ hvb7).trans v3);have yf:=(b8.frozen (p:=⟨tb + 1 + 1,3,none⟩) (Nat.lt_succ_self _)).trans ((((Below.refl W7.heap.size W7).alloc (Nat.le_refl _) _).frozen (p:=⟨tb + 1 + 1,3,none⟩) hvb7).trans f3);have hl8:=b8.size;clear hown8 hgrow8 hat8 b8)
            go_roundw
            case rel => exact ⟨i + 1,some ⟨g,0,none⟩,m + 1,cap,some ⟨g2,0,none⟩,cap2,es ++ [(t.fields[i],u)],bs ++ [p],by go_num,by omega,by omega,hid ⟨by
              rw [← HKK.out,List.map_append,List.map_append]
              have h:=KD.out
              rw [← HGG.out] at h
              exact h,hh.out.2.put HTO.out hix HT.out HPL.out HNE.out⟩⟩
            case measure => simp [RowKit.intOf];omega
    · have HFIN:=hid (hh.out.2.out HTO.out HF.out H82.out (by omega))
      have hkc : i * (C + 1) ≤ 8 * (C + 1):=Nat.mul_le_mul_right _ (by omega)
      by_cases hlt : i < n
      · have hdd : decide ((0 : Int) < d) = false:=decide_eq_false (fun h => hgo ⟨hlt,h⟩)
        clear hgo
        go_wp2_with fail
        go_ret
        exact ⟨Wf.recV es,tb + 1 + 1,rfl,HFIN.out.1,HFIN.out.2,hh.out.1.done HKH.out,hh.out.1.rd.mono (by omega),hh.out.1.bes⟩
      · have hin : i = n:=by omega
        clear hgo
        subst hin
        go_wp2_with fail
        go_ret
        exact ⟨Wf.recV es,tb + 1 + 1,rfl,HFIN.out.1,HFIN.out.2,hh.out.1.done HKH.out,hh.out.1.rd.mono (by omega),hh.out.1.bes⟩
end
end Go.Proofs.Ytidjpalnmnehmaa
