/- Packed by pack.py: Dx. -/
import Derived.Shelf.Strings.SlTrimAscii
import Derived.Shelf.Strings.Prefix
import Derived.Shelf.Strings.Cut
import Derived.Shelf.Strings.Search3
import Derived.Shelf.Strings.Split
import Derived.Shelf.Strings.SplitShaped
import Derived.Shelf.Strings.Shaped
import Derived.Shelf.Small.Wraps
import Derived.Shelf.Strings.OnBuilder
import Derived.WalkKit
import Derived.Lib.UnsafeStr
import Derived.Lib.Hide
import Derived.ProofKit
import Derived.OpenShut
import Derived.BigQuiet
import Derived.WalkSpells
import Derived.KernelRfl
import Derived.Below
import Derived.Lib.SlTrimSet
import Derived.Deep.QuietTactic
import Derived.Deep.RegionWith
import Derived.Deep.RegionHeld3
import Derived.IntWalk
import Derived.Deep.DeepCutAuto
import Derived.Lib.Split
import Derived.Lib.IndexMore
import Derived.Lib.CountLaws
import Derived.Lib.SplitLaws
import Derived.Deep.AppendLies
import Derived.Deep.RegionLaw
import Derived.Maps.Own
import Derived.Maps.OwnOps
import Derived.Maps.OwnSet
import Derived.Maps.Views
import Derived.StringKeys
import Derived.Maps.AppendAt
import Derived.Deep.CutRange
import Derived.Deep.RegionHeldLaw
import Derived.WalkSmall
import Derived.Lib.PathFns
import Derived.Deep.WholeRow
import Derived.Test.YtidjpalnmnehmaaRows
import Derived.Test.YtidjpalnmnehmaaF0
import Derived.Test.YtidjpalnmnehmaaF1
import Derived.Test.YtidjpalnmnehmaaF2
import Derived.Test.YtidjpalnmnehmaaF3
import Derived.Test.YtidjpalnmnehmaaF4
import Derived.Test.YtidjpalnmnehmaaF5
import Derived.Test.YtidjpalnmnehmaaF6
import Derived.Test.YtidjpalnmnehmaaF7
import Derived.Test.YtidjpalnmnehmaaF8
import Derived.Test.YtidjpalnmnehmaaF9
import Derived.Test.YtidjpalnmnehmaaF10
import Derived.Test.YtidjpalnmnehmaaF11
import Derived.Test.YtidjpalnmnehmaaF12
import Derived.Test.YtidjpalnmnehmaaF13
import Derived.Test.YtidjpalnmnehmaaF14
import Derived.Test.YtidjpalnmnehmaaF15
import Derived.Test.YtidjpalnmnehmaaF16
import Derived.Test.YtidjpalnmnehmaaF17
import Derived.Test.YtidjpalnmnehmaaF18
import Derived.Test.YtidjpalnmnehmaaF19
import Derived.Test.YtidjpalnmnehmaaF20
import Derived.Test.YtidjpalnmnehmaaF21
import Derived.Test.YtidjpalnmnehmaaF22
import Derived.Test.YtidjpalnmnehmaaF23
import Derived.Test.YtidjpalnmnehmaaF24
import Derived.Test.YtidjpalnmnehmaaF25
import Derived.Test.YtidjpalnmnehmaaF26
import Derived.Test.YtidjpalnmnehmaaF30
import Derived.Test.YtidjpalnmnehmaaF40
import Derived.Test.YtidjpalnmnehmaaF42
namespace Go.Proofs.Ytidjpalnmnehmaa
open Go.ChangeShapes Go.WideShapes Go.ChangeAt Go.RowKit Go.Lib
set_option linter.unusedVariables false
set_option linter.unusedSimpArgs false
theorem KB.put2 {w wr : World} {vb base m c : Nat} {a : Option Addr} {l : List Wf.V} {bs : List Nat} (h : KB w wr vb base a m c l bs) {wx w4 : World} (hs : KB w wx vb base a m c l bs) (hg : wx.grownBy w4 (Value.slice a m c).ownBlock) {g cap b : Nat} {u : Wf.V}
    (ho : w4.ownsRow base 54 1 (.slice (some ⟨g,0,none⟩) (m + 1) cap) (m + 1) (bs.map ptr ++ [ptr b])) (hat : (Value.slice a m c).ownBlock = some g ∨ g = wx.heap.size) (hv : LV wx (fun y => wr.heap.size ≤ y) u b) :
    KB w (w4.setCell ⟨vb,3,none⟩ (.slice (some ⟨g,0,none⟩) (m + 1) cap)) vb base (some ⟨g,0,none⟩) (m + 1) cap (l ++ [u]) (bs ++ [b]):=by
  have hlo:=owns_lt hs.own
  have hlo0:=owns_lt h.own
  have hB : Below base wx w4:=below_grown2 hg (fun g hgk => (hlo g hgk).1) hs.sz
  have hss : (w4.setCell ⟨vb,3,none⟩ (.slice (some ⟨g,0,none⟩) (m + 1) cap)).heap.size = w4.heap.size:=by simp
  have c3:=(hB.cell (p:=⟨vb,3,none⟩) h.lt).trans hs.v3
  have hloc : (Value.slice (some ⟨g,0,none⟩) (m + 1) cap).ownBlock = (Value.slice a m c).ownBlock ∨ (Value.slice (some ⟨g,0,none⟩) (m + 1) cap).ownBlock = some wx.heap.size:=by
    rcases hat with hat | hat
    · exact .inl hat.symm
    · exact .inr (by rw [← hat];rfl)
  have hl:=h.lt
  have hkeep : ∀ y,base ≤ y → y < wx.heap.size → some y ≠ (Value.slice a m c).ownBlock → some y ≠ (Value.slice (some ⟨g,0,none⟩) (m + 1) cap).ownBlock ∧ (w4.setCell ⟨vb,3,none⟩ (.slice (some ⟨g,0,none⟩) (m + 1) cap)).heap[y]? = wx.heap[y]?:=fun y hy1 hy2 hy3 => by
    obtain ⟨e1,e2⟩:=apart_step hg hloc hy2 hy3
    refine ⟨e2, ?_⟩
    rw [Below.heap_setCell w4 ⟨vb,3,none⟩ _ _ (by show y ≠ vb;omega)]
    exact e1
  refine ⟨h.lt,h.le,by rw [hss];exact Nat.le_trans hs.sz hB.size,World.cell?_setCell_same w4 _ _ c3, ?_, ?_,by rw [List.length_append,h.hl];rfl,LVs.snoc ?_ ?_⟩
  · have:=(hB.frozen (p:=⟨vb,3,none⟩) h.lt).trans hs.f3
    simpa using this
  · rw [List.map_append]
    exact ownsRow_setCell_below ho h.lt _
  · exact LV.keep (fun y hp hlt => by
      have hb1 : base ≤ y:=Nat.le_trans h.sz hp
      have hb3 : some y ≠ (Value.slice a m c).ownBlock:=fun he => by
        have h5:=(hlo0 y he.symm).2
        have h6 : wr.heap.size ≤ y:=hp
        omega
      obtain ⟨e1,e2⟩:=hkeep y hb1 hlt hb3
      exact ⟨⟨hb1,e1⟩,e2⟩) (by rw [hss];exact hB.size) _ _ hv
  · exact LVs.keep (fun y hp hlt => by
      obtain ⟨e1,e2⟩:=hkeep y hp.1 hlt hp.2
      exact ⟨⟨hp.1,e1⟩,e2⟩) (by rw [hss];exact hB.size) _ _ hs.vals
theorem KB.val {w wr : World} {vb base m c : Nat} {a : Option Addr} {l : List Wf.V} {bs : List Nat} {KT : ByteArray} {what : UInt8} (h : KB w wr vb base a m c l bs) (h61 : what ≠ 61) (h0 : wr.cell? ⟨vb,0,none⟩ = some (.string KT)) (h1 : wr.cell? ⟨vb,1,none⟩ = some (.string ⟨#[]⟩)) (h2 : wr.cell? ⟨vb,2,none⟩ = some (.slice none 0 0)) (hs : shapeR what [] KT.data.toList []) (ht : tagsOf what 0 l = []) : LV wr (fun y => w.heap.size ≤ y) (.mk what [] 0 l) vb:=by
  have hbl : (bs.map ptr).length = m:=by rw [List.length_map,h.hl]
  obtain ⟨b,hb,hrow⟩:=RowAt.of_owns (xs:=bs.map ptr) (by rw [hbl];exact h.own)
  have e1:=h.lt
  have e3:=h.le
  have e4:=h.sz
  exact LV.mk (kd:=KT.data.toList) (t:=[]) (tb:=0) (kb:=b) (bs:=bs) h61 e3 (by omega) h0 h1 h2 h.v3 (by rw [ht];exact row_nil _ _) (.inl ht) hrow (.inr (by omega)) hs (LVs.keep (fun y hp hlt => ⟨by have:=hp.1;omega,rfl⟩) (Nat.le_refl _) _ _ h.vals)
theorem beside_low {rb B : Nat} {w w3 w4 : World} (h : Beside rb w w3) (hb : Below B w3 w4) (hB : w.heap.size ≤ B) : Beside rb w w4 :=
  ⟨hb.os.trans h.os,hb.tape.trans h.tape,hb.output.trans h.output,Nat.le_trans h.size hb.size,fun k hk hr => (hb.block k (by omega)).trans (h.block k hk hr)⟩
theorem step_app_ptr {ops : Array Oper} {o : Oper} {act : Act} {K : Act → World → Prop} {Q : Exit → Act → World → Prop} {E : Prop} {wx : World} {base m c : Nat} {a : Option Addr} {xs : List Value} {p : Nat} (s x : Operand) (hgd : o.guard = none) (ho : o.op = .call { callee:=.builtin .append,args:=#[s,x],argTypes:=#[67,67] })
    (hb : base ≤ wx.heap.size) (hown : wx.ownsRow base 54 1 (.slice a m c) m xs) (hm1 : m ≤ 1000) {zb : Nat} (hz : wx.heap[zb]? = some (.cells #[ptr p] 54)) (hs : act.eval s = .slice a m c) (hx2 : act.eval x = .slice (some ⟨zb,0,none⟩) 1 1)
    (h : ∀ g cap w4,w4.ownsRow base 54 1 (.slice (some ⟨g,0,none⟩) (m + 1) cap) (m + 1) (xs ++ [ptr p]) → wx.grownBy w4 (Value.slice a m c).ownBlock → ((Value.slice a m c).ownBlock = some g ∨ g = wx.heap.size) → Below base wx w4 → K (act.put o.dst (.slice (some ⟨g,0,none⟩) (m + 1) cap)) w4) :
    if Region.wanted o (yielded ops act.tmps) = true then Oper.wp Try.prog o act wx K Q else E:=by
  obtain ⟨i0,hi0,hz0,hz1,hz2⟩:=info_parts info_ptrV
  refine step_append_lies wx hgd s x 67 ho base 54 i0 (.pointer none) 1 8 Try.underlying67 hi0 hz0 hz1 hz2 rfl (by decide) (.slice a m c) m _ hs hown ⟨zb,0,none⟩ 1 1 [ptr p] hx2 rfl (World.news_of_block hz) (one_ptr _) (by decide) (by unfold maxLen;omega) (by omega) hb _ rfl fun g cap w4 h1 h2 h3 h4 => ?_
  exact h g cap w4 h1 h2 h3 (below_grown2 h2 (fun g hg => (owns_lt hown g hg).1) hb)
theorem app_close {rb k : Nat} {w w3 w4 : World} {KT : ByteArray} {ob : Obj} (R0 : rb < w.heap.size) (hb3 : Beside rb w w3) (hlt : w.heap.size < w3.heap.size) (d0 : w3.cell? ⟨w.heap.size,0,none⟩ = some (.string KT)) (d1 : w3.cell? ⟨w.heap.size,1,none⟩ = some (.string ⟨#[]⟩)) (d2 : w3.cell? ⟨w.heap.size,2,none⟩ = some (.slice none 0 0)) (hr3 : Rd w3 rb k) (b4 : Below (w.heap.size + 1) (w3.alloc ob) w4) (S : Value) :
    (w4.setCell ⟨w.heap.size,3,none⟩ S).cell? ⟨w.heap.size,0,none⟩ = some (.string KT) ∧ (w4.setCell ⟨w.heap.size,3,none⟩ S).cell? ⟨w.heap.size,1,none⟩ = some (.string ⟨#[]⟩) ∧ (w4.setCell ⟨w.heap.size,3,none⟩ S).cell? ⟨w.heap.size,2,none⟩ = some (.slice none 0 0) ∧ Rd (w4.setCell ⟨w.heap.size,3,none⟩ S) rb k ∧ Beside rb w (w4.setCell ⟨w.heap.size,3,none⟩ S):=by
  have cc : ∀ j u,j ≠ 3 → w3.cell? ⟨w.heap.size,j,none⟩ = some u → (w4.setCell ⟨w.heap.size,3,none⟩ S).cell? ⟨w.heap.size,j,none⟩ = some u:=fun j u hj h =>
    (World.cell?_setCell_other w4 _ _ _ (by simp <;> omega)).trans ((b4.cell (p:=⟨w.heap.size,j,none⟩) (Nat.lt_succ_self _)).trans ((World.cell?_alloc_lt w3 _ ⟨w.heap.size,j,none⟩ hlt).trans h))
  have hB1 : Below (w.heap.size + 1) w3 w4:=((Below.refl _ w3).alloc (by omega) ob).trans b4
  have hB : Below w.heap.size w3 (w4.setCell ⟨w.heap.size,3,none⟩ S):=(hB1.mono (Nat.le_succ _)).setCell (Nat.le_refl _) _
  exact ⟨cc 0 _ (by decide) d0,cc 1 _ (by decide) d1,cc 2 _ (by decide) d2,hr3.below hB R0,beside_low hb3 hB (Nat.le_refl _)⟩
section
variable (x : Wf.Sc) (v : Value) (rb lo bsc : Nat) (d : Int)
set_option maxRecDepth 20000 in
set_option maxHeartbeats 4000000 in
theorem dr_opt (k : Wf.K) (hd0 : 0 < d) (hd1 : d ≤ 1000) (hkl : (Wf.K.opt k).text.length ≤ 1000) (C B N : Nat) (IH : DrV x v rb lo bsc (d - 1) k C B N) : DrV x v rb lo bsc d (.opt k) (C + 1) (B + 1) (N + 1):=fun w k0 H hk0 hsp hlo => by
  have R0:=H.lt
  obtain ⟨KT,hKT⟩ : ∃ KT : ByteArray,(⟨(Wf.K.opt k).text.toArray⟩ : ByteArray) = KT:=⟨_,rfl⟩
  obtain ⟨K1,hK1⟩ : ∃ K1 : ByteArray,(⟨k.text.toArray⟩ : ByteArray) = K1:=⟨_,rfl⟩
  obtain ⟨hk1,ek⟩:=kd_first (kd:=(Wf.K.opt k).text) (c:=63) rfl
  rw [hKT] at hk1 ek
  have ek2 : ∀ h,(KT[0]'h).toNat = 63:=ek
  have HKH:=hid (show KT.data.toList.head? = some 63 by rw [← hKT];rfl)
  have hsl : ∀ wz,(Instr.slice 9 (.string KT) (some (.int .i64 1)) none none).run Try.prog wz = .ok (.string K1) wz:=fun wz => by
    have h:=sl_suf KT 1 (by omega) wz
    have e : KT.extract 1 KT.size = K1:=by
      rw [← hKT,← hK1]
      apply ByteArray.ext
      apply Array.ext'
      rw [suf_list]
      rfl
    rw [e] at h
    exact h
  have kd : IntKind.i64.wrap (d - 1) = d - 1:=IntWalk.i64_in _ (by omega)
  have hdd : decide ((0 : Int) < d) = true:=decide_eq_true hd0
  have HSP:=hid hsp
  have HIH:=hid fun (wz : World) (kz : Nat) (hr : Rd wz rb kz) (hc : kz + C ≤ 900000) (hs : ScSp wz lo bsc v x) => (by
    have h:=IH wz kz hr hc hs hlo
    rw [tx,hK1] at h
    exact h)
  rw [tx,hKT]
  clear hKT ek hK1 IH hsp
  go_enter Try.func29,Try.ntmps29
  go_wp2_with (go_at_call 10;refine (pick rb k0 3 _ (H.alloc _) (by omega) (by omega)).mono ?_;rintro e w2 ⟨n,rfl,hn,_,hR2,hBs2⟩;obtain ⟨hn0,hn1⟩:=hn (by omega);have B2:=Lib.hid hBs2;have R2:=Lib.hid hR2;clear hBs2 hR2 hn;rcases (Bool.eq_false_or_eq_true (decide ((0 : Int) < n))) with hq | hq)
  · have BW2:=hid (((Beside.refl rb w).alloc _).trans B2.out)
    obtain ⟨hlt2,c0,c1,c2,c3,f1,f2,f3⟩:=vNew_cells R0 B2.out
    have K2:=hid (KB.new.stepB (B2.out.trans (Beside.drew (Beside.refl rb w2))) R0)
    have hR2:=R2.out.lt
    go_region_law (first | (refine step_app_ptr (base:=w.heap.size + 1) (.tmp 91) (.tmp 99) rfl rfl (by simp;omega) (World.ownsRow_nil _ _ _ _) (Nat.zero_le _) (heap_alloc_last w3 _) (by simp [Act.eval,Act.put]) (by simp [Act.eval,Act.put]) ?_;intro g cap w4 hown4 hgrow4 hat4 b4;have B4:=hid b4;have y3:=(b4.cell (p:=⟨w.heap.size,3,none⟩) (Nat.lt_succ_self _)).trans ((World.cell?_alloc_lt w3 _ ⟨w.heap.size,3,none⟩ hlt3).trans d3);have yf:=(b4.frozen (p:=⟨w.heap.size,3,none⟩) (Nat.lt_succ_self _)).trans ((((Below.refl w3.heap.size w3).alloc (Nat.le_refl _) _).frozen (p:=⟨w.heap.size,3,none⟩) hlt3).trans e3);have KX:=hid (KB.put2 K2.out ((K2.out.stepB HB3.out R0).step ((Below.refl w3.heap.size w3).alloc (Nat.le_refl _) _)) hgrow4 hown4 hat4 (HLV.out.below ((Below.refl w3.heap.size w3).alloc (Nat.le_refl _) _)));have hl4:=b4.size;clear hown4 hgrow4 hat4 b4) | ((try go_simp);go_at_call 29;refine (HIH.out w2.drew (k0 + 1) (R2.out.below (Below.drew (Below.refl _ _)) hR2) (by omega) (HSP.out.beside (BW2.out.trans (Beside.drew (Beside.refl rb w2))) hlo)).mono ?_;rintro e w3 ⟨u,p,rfl,ht,hpl,hlv,hr3,hb3⟩;obtain ⟨hlt3,d0,d1,d2,d3,e1,e2,e3⟩:=vNew_cells R0 ((B2.out.trans (Beside.drew (Beside.refl rb w2))).trans hb3);have HT:=hid ht;have HPL:=hid hpl;have HLV:=hid hlv;have R3:=hid hr3;have HB3:=hid hb3;clear ht hpl hlv hr3 hb3))
    all_goals (go_wp2_with fail)
    all_goals
      obtain ⟨q0,q1,q2,r5,b5⟩:=app_close R0 (BW2.out.trans ((Beside.drew (Beside.refl rb w2)).trans HB3.out)) hlt3 d0 d1 d2 R3.out B4.out (.slice (some ⟨g,0,none⟩) 1 cap)
      go_ret
      exact ⟨.mk 63 [] 0 [u],w.heap.size,rfl, .inr ⟨u,HT.out,rfl⟩,by rw [Wf.print_some];have:=HPL.out;simp;omega,KX.out.val (by decide) q0 q1 q2 ⟨HKH.out,rfl⟩ rfl,r5.mono (by omega),b5⟩
  · go_ret
    exact ⟨.mk 63 [] 0 [],w.heap.size,rfl, .inl rfl,by rw [Wf.print_none];simp,LV.empty R0 B2.out ⟨HKH.out,rfl⟩ (by decide) rfl,R2.out.mono (by omega),((Beside.refl rb w).alloc _).trans B2.out⟩
end
end Go.Proofs.Ytidjpalnmnehmaa
