/- Packed by pack.py: Dy Dz Eb. -/
import Derived.Shelf.Strings.SlTrimAscii
import Derived.Shelf.Strings.Prefix
import Derived.Shelf.Strings.Cut
import Derived.Shelf.Strings.Search3
import Derived.Shelf.Strings.Split
import Derived.Shelf.Strings.SplitShaped
import Derived.Shelf.Strings.Shaped
import Derived.Shelf.Small.Wraps
import Derived.Shelf.Strings.OnBuilder
import Derived.WalkKit
import Derived.Lib.UnsafeStr
import Derived.Lib.Hide
import Derived.ProofKit
import Derived.OpenShut
import Derived.BigQuiet
import Derived.WalkSpells
import Derived.KernelRfl
import Derived.Below
import Derived.Lib.SlTrimSet
import Derived.Deep.QuietTactic
import Derived.Deep.RegionWith
import Derived.Deep.RegionHeld3
import Derived.IntWalk
import Derived.Deep.DeepCutAuto
import Derived.Lib.Split
import Derived.Lib.IndexMore
import Derived.Lib.CountLaws
import Derived.Lib.SplitLaws
import Derived.Deep.AppendLies
import Derived.Deep.RegionLaw
import Derived.Maps.Own
import Derived.Maps.OwnOps
import Derived.Maps.OwnSet
import Derived.Maps.Views
import Derived.StringKeys
import Derived.Maps.AppendAt
import Derived.Deep.CutRange
import Derived.Deep.RegionHeldLaw
import Derived.WalkSmall
import Derived.Lib.PathFns
import Derived.Deep.WholeRow
import Derived.Test.YtidjpalnmnehmaaRows
import Derived.Test.YtidjpalnmnehmaaF0
import Derived.Test.YtidjpalnmnehmaaF1
import Derived.Test.YtidjpalnmnehmaaF2
import Derived.Test.YtidjpalnmnehmaaF3
import Derived.Test.YtidjpalnmnehmaaF4
import Derived.Test.YtidjpalnmnehmaaF5
import Derived.Test.YtidjpalnmnehmaaF6
import Derived.Test.YtidjpalnmnehmaaF7
import Derived.Test.YtidjpalnmnehmaaF8
import Derived.Test.YtidjpalnmnehmaaF9
import Derived.Test.YtidjpalnmnehmaaF10
import Derived.Test.YtidjpalnmnehmaaF11
import Derived.Test.YtidjpalnmnehmaaF12
import Derived.Test.YtidjpalnmnehmaaF13
import Derived.Test.YtidjpalnmnehmaaF14
import Derived.Test.YtidjpalnmnehmaaF15
import Derived.Test.YtidjpalnmnehmaaF16
import Derived.Test.YtidjpalnmnehmaaF17
import Derived.Test.YtidjpalnmnehmaaF18
import Derived.Test.YtidjpalnmnehmaaF19
import Derived.Test.YtidjpalnmnehmaaF20
import Derived.Test.YtidjpalnmnehmaaF21
import Derived.Test.YtidjpalnmnehmaaF22
import Derived.Test.YtidjpalnmnehmaaF23
import Derived.Test.YtidjpalnmnehmaaF24
import Derived.Test.YtidjpalnmnehmaaF25
import Derived.Test.YtidjpalnmnehmaaF26
import Derived.Test.YtidjpalnmnehmaaF27
import Derived.Test.YtidjpalnmnehmaaF30
import Derived.Test.YtidjpalnmnehmaaF33
import Derived.Test.YtidjpalnmnehmaaF40
import Derived.Test.YtidjpalnmnehmaaF42
namespace Go.Proofs.Ytidjpalnmnehmaa
open Go.ChangeShapes Go.WideShapes Go.ChangeAt Go.RowKit Go.Lib
set_option linter.unusedVariables false
set_option linter.unusedSimpArgs false
theorem list_print {l : List Wf.V} {B m : Nat} (h : ∀ u ∈ l,u.print.length ≤ B) (hm : l.length ≤ m) : (Wf.V.mk 91 [] 0 l).print.length ≤ 2 + m * (B + 1):=by
  rw [Wf.print_list]
  have h1:=(Wf.commas_psum (l.map Wf.V.print)).1
  have h2 : ∀ (l : List Wf.V),(∀ u ∈ l,u.print.length ≤ B) → Wf.psum (l.map Wf.V.print) ≤ l.length * (B + 1):=by
    intro l
    induction l with
    | nil => intro _;simp [Wf.psum]
    | cons v l ih =>
      intro h
      have e : Wf.psum ((v :: l).map Wf.V.print) = v.print.length + 1 + Wf.psum (l.map Wf.V.print):=by unfold Wf.psum;simp
      have:=ih fun u hu => h u (List.mem_cons_of_mem _ hu)
      have:=h v (List.mem_cons_self ..)
      rw [e,List.length_cons,Nat.succ_mul]
      omega
  have h3:=h2 l h
  have h4 : l.length * (B + 1) ≤ m * (B + 1):=Nat.mul_le_mul_right _ hm
  simp only [List.length_cons,List.length_append,List.length_nil]
  omega
section
variable (x : Wf.Sc) (v : Value) (rb lo bsc : Nat) (d : Int)
set_option maxRecDepth 20000 in
set_option maxHeartbeats 4000000 in
theorem dr_list_no (k : Wf.K) (hd0 : ¬ 0 < d) : DrV x v rb lo bsc d (.list k) 1 2 1:=fun w k0 H hk0 hsp hlo => by
  have R0:=H.lt
  obtain ⟨KT,hKT⟩ : ∃ KT : ByteArray,(⟨(Wf.K.list k).text.toArray⟩ : ByteArray) = KT:=⟨_,rfl⟩
  obtain ⟨hk1,ek⟩:=kd_first (kd:=(Wf.K.list k).text) (c:=91) rfl
  rw [hKT] at hk1 ek
  have ek2 : ∀ h,(KT[0]'h).toNat = 91:=ek
  have HKH:=hid (show KT.data.toList.head? = some 91 by rw [← hKT];rfl)
  have hdd : decide ((0 : Int) < d) = false:=decide_eq_false hd0
  rw [tx,hKT]
  clear hKT ek hsp
  go_enter Try.func29,Try.ntmps29
  go_wp2_with (go_at_call 10;refine (pick rb k0 4 _ (H.alloc _) (by omega) (by omega)).mono ?_;rintro e w2 ⟨n,rfl,hn,_,hR2,hBs2⟩;obtain ⟨hn0,hn1⟩:=hn (by omega);have B2:=Lib.hid hBs2;have R2:=Lib.hid hR2;clear hBs2 hR2 hn)
  go_loopw [10] (fun s10 wr => s10 = .int .i64 n ∧ wr = w2) (fun _ _ => 0)
  case atStart => exact ⟨rfl,rfl⟩
  case round =>
    obtain ⟨rfl,rfl⟩:=hrel
    rcases (Bool.eq_false_or_eq_true (decide ((0 : Int) < n))) with hq | hq
    all_goals
      go_wp2_with fail
      go_ret
      exact ⟨.mk 91 [] 0 [],w.heap.size,rfl,⟨[],by simp,by simp,rfl⟩,by rw [Wf.print_list];simp [Wf.commas],LV.empty R0 B2.out ⟨HKH.out,rfl⟩ (by decide) rfl,R2.out,((Beside.refl rb w).alloc _).trans B2.out⟩
set_option maxRecDepth 20000 in
set_option maxHeartbeats 4000000 in
theorem dr_list (k : Wf.K) (hd0 : 0 < d) (hd1 : d ≤ 1000) (C B N : Nat) (hC : 3 * C ≤ 900000) (IH : DrV x v rb lo bsc (d - 1) k C B N) : DrV x v rb lo bsc d (.list k) (1 + 3 * C) (2 + 3 * (B + 1)) (N + 1):=fun w k0 H hk0 hsp hlo => by
  have R0:=H.lt
  obtain ⟨KT,hKT⟩ : ∃ KT : ByteArray,(⟨(Wf.K.list k).text.toArray⟩ : ByteArray) = KT:=⟨_,rfl⟩
  obtain ⟨K1,hK1⟩ : ∃ K1 : ByteArray,(⟨k.text.toArray⟩ : ByteArray) = K1:=⟨_,rfl⟩
  obtain ⟨hk1,ek⟩:=kd_first (kd:=(Wf.K.list k).text) (c:=91) rfl
  rw [hKT] at hk1 ek
  have ek2 : ∀ h,(KT[0]'h).toNat = 91:=ek
  have HKH:=hid (show KT.data.toList.head? = some 91 by rw [← hKT];rfl)
  have hsl : ∀ wz,(Instr.slice 9 (.string KT) (some (.int .i64 1)) none none).run Try.prog wz = .ok (.string K1) wz:=fun wz => by
    have h:=sl_suf KT 1 (by omega) wz
    have e : KT.extract 1 KT.size = K1:=by
      rw [← hKT,← hK1]
      apply ByteArray.ext
      apply Array.ext'
      rw [suf_list]
      rfl
    rw [e] at h
    exact h
  have kd : IntKind.i64.wrap (d - 1) = d - 1:=IntWalk.i64_in _ (by omega)
  have hdd : decide ((0 : Int) < d) = true:=decide_eq_true hd0
  have HSP:=hid hsp
  have HIH:=hid fun (wz : World) (kz : Nat) (hr : Rd wz rb kz) (hc : kz + C ≤ 900000) (hs : ScSp wz lo bsc v x) => (by
    have h:=IH wz kz hr hc hs hlo
    rw [tx,hK1] at h
    exact h)
  rw [tx,hKT]
  clear hKT ek hK1 IH hsp
  go_enter Try.func29,Try.ntmps29
  go_wp2_with (go_at_call 10;refine (pick rb k0 4 _ (H.alloc _) (by omega) (by omega)).mono ?_;rintro e w2 ⟨n,rfl,hn,_,hR2,hBs2⟩;obtain ⟨hn0,hn1⟩:=hn (by omega);have B2:=Lib.hid hBs2;have R2:=Lib.hid hR2;clear hBs2 hR2 hn)
  obtain ⟨n0,rfl⟩:=Int.eq_ofNat_of_zero_le hn0
  go_loopw [10] (fun s10 wr => ∃ (i m : Nat) (a : Option Addr) (c : Nat) (l : List Wf.V) (bs : List Nat),s10 = .int .i64 i ∧ i + m ≤ 3 ∧ Hid (KB w wr w.heap.size (w.heap.size + 1) a m c l bs ∧ Beside rb w wr ∧ Rd wr rb (k0 + 1 + m * C) ∧ l.length = m ∧ (∀ u ∈ l,Wf.Typed x N k u ∧ u.print.length ≤ B) ∧ wr.cell? ⟨w.heap.size,0,none⟩ = some (.string KT) ∧ wr.cell? ⟨w.heap.size,1,none⟩ = some (.string ⟨#[]⟩) ∧ wr.cell? ⟨w.heap.size,2,none⟩ = some (.slice none 0 0))) (fun s10 _ => (RowKit.intOf s10).toNat)
  case atStart =>
    obtain ⟨hlt2,c0,c1,c2,c3,f1,f2,f3⟩:=vNew_cells R0 B2.out
    exact ⟨n0,0,none,0,[],[],rfl,by omega,hid ⟨KB.new.stepB B2.out R0,((Beside.refl rb w).alloc _).trans B2.out,by rw [Nat.zero_mul];exact R2.out,rfl,by simp,c0,c1,c2⟩⟩
  case round =>
    obtain ⟨i,m,a,c,l,bs,rfl,him,hh⟩:=hrel
    by_cases hi : 0 < i
    · have hq : decide ((0 : Int) < (i : Int)) = true:=decide_eq_true (by omega)
      have hm3 : m ≤ 2:=by omega
      have v3:=hh.out.1.v3
      have vf:=hh.out.1.f3
      have hvb : w.heap.size < wr.heap.size:=by have:=hh.out.1.sz;omega
      have hmc : m * C ≤ 2 * C:=Nat.mul_le_mul_right _ hm3
      have K2:=hid (hh.out.1.stepB (Beside.drew (Beside.refl rb wr)) R0)
      have BW:=hid hh.out.2.1
      have RL:=hh.out.2.2.1.lt
      have hnr : w.heap.size ≠ rb:=by omega
      go_wp2_with fail
      go_region_law (first | (refine step_app_ptr (base:=w.heap.size + 1) (.tmp 65) (.tmp 73) rfl rfl (by simp;omega) (((K2.out.stepB HB3.out R0).step ((Below.refl w3.heap.size w3).alloc (Nat.le_refl _) _)).own) (by omega) (heap_alloc_last w3 _) (by simp [Act.eval,Act.put]) (by simp [Act.eval,Act.put]) ?_;intro g cap w4 hown4 hgrow4 hat4 b4;have B4:=hid b4;have y3:=(b4.cell (p:=⟨w.heap.size,3,none⟩) (Nat.lt_succ_self _)).trans ((World.cell?_alloc_lt w3 _ ⟨w.heap.size,3,none⟩ hlt3).trans d3);have yf:=(b4.frozen (p:=⟨w.heap.size,3,none⟩) (Nat.lt_succ_self _)).trans ((((Below.refl w3.heap.size w3).alloc (Nat.le_refl _) _).frozen (p:=⟨w.heap.size,3,none⟩) hlt3).trans e3);have KX:=hid (KB.put2 K2.out ((K2.out.stepB HB3.out R0).step ((Below.refl w3.heap.size w3).alloc (Nat.le_refl _) _)) hgrow4 hown4 hat4 (HLV.out.below ((Below.refl w3.heap.size w3).alloc (Nat.le_refl _) _)));have hl4:=b4.size;clear hown4 hgrow4 hat4 b4) | ((try go_simp);go_at_call 29;refine (HIH.out wr.drew (k0 + 1 + m * C) (hh.out.2.2.1.below (Below.drew (Below.refl _ _)) RL) (by omega) (HSP.out.beside (BW.out.trans (Beside.drew (Beside.refl rb wr))) hlo)).mono ?_;rintro e w3 ⟨u,p,rfl,ht,hpl,hlv,hr3,hb3⟩;have HB3:=hid hb3;have hlt3 : w.heap.size < w3.heap.size:=Nat.lt_of_lt_of_le hvb hb3.size;have d0:=(hb3.cell (p:=⟨w.heap.size,0,none⟩) hvb hnr).trans hh.out.2.2.2.2.2.1;have d1:=(hb3.cell (p:=⟨w.heap.size,1,none⟩) hvb hnr).trans hh.out.2.2.2.2.2.2.1;have d2:=(hb3.cell (p:=⟨w.heap.size,2,none⟩) hvb hnr).trans hh.out.2.2.2.2.2.2.2;have d3 : w3.cell? ⟨w.heap.size,3,none⟩ = some (.slice a m c):=(K2.out.stepB hb3 R0).v3;have e3:=(K2.out.stepB hb3 R0).f3;have HT:=hid ht;have HPL:=hid hpl;have HLV:=hid hlv;have R3:=hid hr3;clear ht hpl hlv hr3 hb3))
      all_goals (go_wp2_with fail)
      all_goals
        obtain ⟨q0,q1,q2,r5,b5⟩:=app_close R0 (BW.out.trans ((Beside.drew (Beside.refl rb wr)).trans HB3.out)) hlt3 d0 d1 d2 R3.out B4.out (.slice (some ⟨g,0,none⟩) (m + 1) cap)
        have HQ:=hid (show Rd (w4.setCell ⟨w.heap.size,3,none⟩ (.slice (some ⟨g,0,none⟩) (m + 1) cap)) rb (k0 + 1 + (m + 1) * C) by rw [show k0 + 1 + (m + 1) * C = k0 + 1 + m * C + C by rw [Nat.succ_mul];omega];exact r5)
        have HB5:=hid b5
        clear r5 b5
        go_roundw
        case rel => exact ⟨i - 1,m + 1,some ⟨g,0,none⟩,cap,l ++ [u],bs ++ [p],by congr 1;omega,by omega,hid ⟨KX.out,HB5.out,HQ.out,by rw [List.length_append,hh.out.2.2.2.1];rfl,fun y hy => by
          rcases List.mem_append.1 hy with hy | hy
          · exact hh.out.2.2.2.2.1 y hy
          · rw [List.mem_singleton.1 hy];exact ⟨HT.out,HPL.out⟩,q0,q1,q2⟩⟩
        case measure => simp [RowKit.intOf];omega
    · have hq : decide ((0 : Int) < (i : Int)) = false:=decide_eq_false (by omega)
      have hmc : m * C ≤ 3 * C:=Nat.mul_le_mul_right _ (by omega)
      have HLL:=hid (show l.length ≤ 3 by rw [hh.out.2.2.2.1];omega)
      go_wp2_with fail
      go_ret
      exact ⟨.mk 91 [] 0 l,w.heap.size,rfl,⟨l,by have:=HLL.out;omega,fun u hu => (hh.out.2.2.2.2.1 u hu).1,rfl⟩,list_print (fun u hu => (hh.out.2.2.2.2.1 u hu).2) HLL.out,hh.out.1.val (by decide) hh.out.2.2.2.2.2.1 hh.out.2.2.2.2.2.2.1 hh.out.2.2.2.2.2.2.2 ⟨HKH.out,rfl⟩ rfl,hh.out.2.2.1.mono (by omega),hh.out.2.1⟩
end

def DtV (x : Wf.Sc) (v : Value) (rb lo bsc : Nat) (d : Int) (nm : List UInt8) (C B N : Nat) : Prop:=∀ (w : World) (k0 : Nat),Rd w rb k0 → k0 + C ≤ 900000 → ScSp w lo bsc v x → rb < lo → Calls Try.prog 43 #[.pointer (some ⟨rb,0,none⟩),v,tx (Wf.K.ref nm).text, .int .i64 d] w fun e w' => ∃ (u : Wf.V) (p : Nat),e = .returned (ptr p) ∧ Wf.Typed x N (.ref nm) u ∧ u.print.length ≤ B ∧ LV w' (fun z => w.heap.size ≤ z) u p ∧ Rd w' rb (k0 + C) ∧ Beside rb w w'
def FdsAt (rb : Nat) (w : World) (fb o : Nat) (t : Wf.Ty) : Prop:=fb < w.heap.size ∧ fb ≠ rb ∧ ∀ i (hi : i < t.fields.length) j u,(fdS t.sort t.fields[i])[j]? = some u → w.cell? ⟨fb,o + i * 4 + j,none⟩ = some u
theorem FdsAt.beside {rb : Nat} {w w' : World} {fb o : Nat} {t : Wf.Ty} (h : FdsAt rb w fb o t) (hb : Beside rb w w') : FdsAt rb w' fb o t :=
  ⟨Nat.lt_of_lt_of_le h.1 hb.size,h.2.1,fun i hi j u hu => (hb.cell (p:=⟨fb,o + i * 4 + j,none⟩) h.1 h.2.1).trans (h.2.2 i hi j u hu)⟩
theorem FdsAt.field {rb : Nat} {w : World} {fb o : Nat} {t : Wf.Ty} (h : FdsAt rb w fb o t) {i : Nat} (hi : i < t.fields.length) (h69 : t.sort ≠ 69) : fb < w.heap.size ∧ w.cell? ⟨fb,o + i * 4,none⟩ = some (.int .i64 (t.fields[i]).tag) ∧ w.cell? ⟨fb,o + i * 4 + 1,none⟩ = some (tx (t.fields[i]).name) ∧ w.cell? ⟨fb,o + i * 4 + 2,none⟩ = some (tx (t.fields[i]).kind.text) ∧ w.cell? ⟨fb,o + i * 4 + 3,none⟩ = some (tx (t.fields[i]).given):=by
  have h3:=h.2.2 i hi
  unfold fdS at h3
  rw [if_neg h69] at h3
  exact ⟨h.1,h3 0 _ rfl,h3 1 _ rfl,h3 2 _ rfl,h3 3 _ rfl⟩
structure TyB (w wr : World) (tb vb : Nat) (KT T1 : ByteArray) (q : Nat) (fv : Value) : Prop where
  tle : w.heap.size ≤ tb
  vle : w.heap.size ≤ vb
  tlt : tb < wr.heap.size
  vlt : vb < wr.heap.size
  ne : tb ≠ vb
  t0 : wr.cell? ⟨tb,0,none⟩ = some (.int .u8 q)
  t2 : wr.cell? ⟨tb,2,none⟩ = some fv
  v0 : wr.cell? ⟨vb,0,none⟩ = some (.string KT)
  v1 : wr.cell? ⟨vb,1,none⟩ = some (.string T1)
  v2 : wr.cell? ⟨vb,2,none⟩ = some (.slice none 0 0)
  v3 : wr.cell? ⟨vb,3,none⟩ = some (.slice none 0 0)
  f2 : wr.frozen? ⟨vb,2,none⟩ = false
  f3 : wr.frozen? ⟨vb,3,none⟩ = false
theorem TyB.beside {w wr w2 : World} {rb tb vb q : Nat} {KT T1 : ByteArray} {fv : Value} (h : TyB w wr tb vb KT T1 q fv) (hr : rb < w.heap.size) (hb : Beside rb wr w2) : TyB w w2 tb vb KT T1 q fv:=by
  have n1 : tb ≠ rb:=by have:=h.tle;omega
  have n2 : vb ≠ rb:=by have:=h.vle;omega
  exact ⟨h.tle,h.vle,Nat.lt_of_lt_of_le h.tlt hb.size,Nat.lt_of_lt_of_le h.vlt hb.size,h.ne,(hb.cell (p:=⟨tb,0,none⟩) h.tlt n1).trans h.t0,(hb.cell (p:=⟨tb,2,none⟩) h.tlt n1).trans h.t2,(hb.cell (p:=⟨vb,0,none⟩) h.vlt n2).trans h.v0,(hb.cell (p:=⟨vb,1,none⟩) h.vlt n2).trans h.v1,(hb.cell (p:=⟨vb,2,none⟩) h.vlt n2).trans h.v2,(hb.cell (p:=⟨vb,3,none⟩) h.vlt n2).trans h.v3,(hb.frozen (p:=⟨vb,2,none⟩) h.vlt n2).trans h.f2,(hb.frozen (p:=⟨vb,3,none⟩) h.vlt n2).trans h.f3⟩
theorem start_typed {w w2 : World} (hb : Below w.heap.size w w2) (KT N T1 : ByteArray) (q : Nat) (fv : Value) (W3 : World) (hW3 : ((w2.alloc (.cells #[.int .u8 q, .string N,fv] 78)).alloc (.cells #[.int .u8 q] 5)).alloc (.cells #[.string KT, .string T1, .slice none 0 0, .slice none 0 0] 69) = W3) :
    TyB w W3 w2.heap.size (w2.heap.size + 1 + 1) KT T1 q fv ∧ Below w.heap.size w W3:=by
  have h0:=hb.size
  subst hW3
  refine ⟨⟨h0,by omega, ?_, ?_,by omega, ?_, ?_, ?_, ?_, ?_, ?_, ?_, ?_⟩,((hb.alloc h0 _).alloc (by simp;omega) _).alloc (by simp;omega) _⟩
  all_goals first | (simp [go_sem];done) | (simp [go_sem];omega)
theorem field_self {t : Wf.Ty} (ht : Wf.TyOk t) {f : Wf.Fd} (hf : f ∈ t.fields) : t.field f.tag = some f:=by
  have hp:=ht.tags
  unfold Wf.Ty.field
  generalize t.fields = l at hf hp
  induction l with
  | nil => cases hf
  | cons g l ih =>
    simp only [List.map_cons] at hp
    obtain ⟨h1,h2⟩:=List.pairwise_cons.1 hp
    rcases List.mem_cons.1 hf with rfl | hf
    · rw [List.find?_cons_of_pos (by simp)]
    · have:=h1 _ (List.mem_map_of_mem hf)
      rw [List.find?_cons_of_neg (by simp;omega)]
      exact ih hf h2
theorem TyB.enm {w w4 : World} {rb tb vb k G : Nat} {KT : ByteArray} {fv : Value} (h : TyB w w4 tb vb KT ⟨#[69]⟩ 69 fv) (hr : rb < w.heap.size) (hk : KT.data.toList.head? = some 64) (hb : Beside rb w w4) (hrd : Rd w4 rb k) :
    LV ((w4.setCell ⟨vb,2,none⟩ (.slice (some ⟨w4.heap.size,0,none⟩) 1 1)).alloc (.cells #[.int .i64 G] 3)) (fun z => w.heap.size ≤ z) (.mk 69 [] G []) vb ∧ Rd ((w4.setCell ⟨vb,2,none⟩ (.slice (some ⟨w4.heap.size,0,none⟩) 1 1)).alloc (.cells #[.int .i64 G] 3)) rb k ∧ Beside rb w ((w4.setCell ⟨vb,2,none⟩ (.slice (some ⟨w4.heap.size,0,none⟩) 1 1)).alloc (.cells #[.int .i64 G] 3)):=by
  have hl:=h.vlt
  have hv:=h.vle
  obtain ⟨W5,hW5⟩ : ∃ W5,w4.setCell ⟨vb,2,none⟩ (.slice (some ⟨w4.heap.size,0,none⟩) 1 1) = W5:=⟨_,rfl⟩
  have hs : W5.heap.size = w4.heap.size:=by rw [← hW5];simp
  have cc:=fun (j : Nat) u (hj : j ≠ 2) (c : w4.cell? ⟨vb,j,none⟩ = some u) => (show W5.cell? ⟨vb,j,none⟩ = some u by rw [← hW5];exact (World.cell?_setCell_other w4 ⟨vb,2,none⟩ ⟨vb,j,none⟩ (.slice (some ⟨w4.heap.size,0,none⟩) 1 1) (by simp <;> omega)).trans c)
  have c2 : W5.cell? ⟨vb,2,none⟩ = some (.slice (some ⟨W5.heap.size,0,none⟩) 1 1):=by rw [hs,← hW5];exact World.cell?_setCell_same _ _ _ h.v2
  have hB : Below w.heap.size w4 W5:=by rw [← hW5];exact (Below.refl _ w4).setCell hv _
  rw [hW5]
  have hB6:=hB.alloc (by rw [hs];exact hb.size) (.cells #[.int .i64 (G : Int)] 3)
  have aa:=fun (j : Nat) u (c : W5.cell? ⟨vb,j,none⟩ = some u) => (World.cell?_alloc_lt W5 (.cells #[.int .i64 (G : Int)] 3) ⟨vb,j,none⟩ (by rw [hs];exact hl)).trans c
  exact ⟨LV.enm hv (by rw [hs];exact hb.size) (by simp;omega) (by simp) hk (aa 0 _ (cc 0 _ (by decide) h.v0)) (aa 1 _ (cc 1 _ (by decide) h.v1)) (aa 2 _ c2) (aa 3 _ (cc 3 _ (by decide) h.v3)) (by simp [go_sem]) (by simp [go_sem]),hrd.below hB6 hr,beside_low hb hB6 (Nat.le_refl _)⟩
section
variable (x : Wf.Sc) (v : Value) (rb lo bsc : Nat)
theorem ref_draw (hx : Wf.ScOk x) (nm : List UInt8) (hnm : (Wf.K.ref nm).text.length ≤ 1000000) (t : Wf.Ty) (hf : x.find nm = some t) (h1 : 1 ≤ t.fields.length) (w : World) (hsp : ScSp w lo bsc v x) (hlo : rb < lo) :
    Calls Try.prog 52 #[v,tx (Wf.K.ref nm).text] w fun e w' => (∃ fb o fc,e = .returned (.tuple #[.agg #[.int .u8 t.sort.toNat,tx t.name, .slice (some ⟨fb,o,none⟩) t.fields.length fc], .bool true]) ∧ t.fields.length ≤ fc ∧ fc ≤ maxLen ∧ FdsAt rb w fb o t) ∧ Below w.heap.size w w':=by
  refine (l3ref x lo bsc v (.ref nm) hnm w w (Below.refl _ _) (by have:=hx.len;omega) hsp).mono fun e w' ⟨g1,g2⟩ => ⟨?_,g2⟩
  rw [show refT x (.ref nm) = some t from hf] at g1
  obtain ⟨fb,a,c,g3,g4,g5⟩:=g1
  obtain ⟨a',c',e1,e2,e3,e4⟩:=g5
  simp only [Value.slice.injEq] at e1
  obtain ⟨rfl,e1,rfl⟩:=e1
  rw [List.length_map] at e1 e2
  rcases e4 with e4 | ⟨o,k1,k2,k3⟩
  · have:=congrArg List.length e4;rw [List.length_map,List.length_nil] at this;omega
  · subst k1
    refine ⟨fb,o,c,g3,by omega,e3,k2,by omega,fun i hi j u hu => ?_⟩
    have hj : j < 4:=by have:=(List.getElem?_eq_some_iff.1 hu).1;unfold fdS at this;simpa using this
    exact k3 i (by rw [List.length_map];exact hi) j u hj (by rw [List.getElem_map];exact hu)
end
section
variable (x : Wf.Sc) (v : Value) (rb lo bsc : Nat) (d : Int)
set_option maxRecDepth 20000 in
set_option maxHeartbeats 4000000 in
theorem dt_enm (hx : Wf.ScOk x) (nm : List UInt8) (hnm : (Wf.K.ref nm).text.length ≤ 1000000) (t : Wf.Ty) (hf : x.find nm = some t) (h69 : t.sort = 69) : DtV x v rb lo bsc d nm 1 4 1:=fun w k0 H hk0 hsp hlo => by
  have R0:=H.lt
  have hto:=hx.tys t (Wf.find_mem hf).1
  have hn1 : 1 ≤ t.fields.length:=List.length_pos_iff.2 (hto.some (by rw [h69];decide))
  have hr:=ref_draw x v rb lo bsc hx nm hnm t hf hn1 w hsp hlo
  obtain ⟨n,hn⟩ : ∃ n,t.fields.length = n:=⟨_,rfl⟩
  have hn8 : n ≤ 8:=by have:=hto.len;omega
  obtain ⟨KT,hKT⟩ : ∃ KT : ByteArray,(⟨(Wf.K.ref nm).text.toArray⟩ : ByteArray) = KT:=⟨_,rfl⟩
  obtain ⟨N,hN⟩ : ∃ N : ByteArray,(⟨t.name.toArray⟩ : ByteArray) = N:=⟨_,rfl⟩
  have HKH:=hid (show KT.data.toList.head? = some 64 by rw [← hKT];rfl)
  rw [hn,h69,tx,tx,hKT,hN] at hr
  have HREF:=hid hr
  rw [hn] at hn1
  have kc1:=fun W (a : Addr) (c : Nat) (h : W.cell? a = some (.int .u8 69)) => (show (convert 22 9 (.slice (some a) 1 c)).run Try.prog W = .ok (.string ⟨#[69]⟩) W from run_convert_one (P:=Try.prog) 22 9 5 Try.underlying22 Try.underlying5 Try.underlying9 W a c 69 h)
  have HFL:=hid fun (wz : World) (fb o i : Nat) (hfd : FdsAt rb wz fb o t) (hi : i < n) => (show ∃ f : Wf.Fd,f ∈ t.fields ∧ fb < wz.heap.size ∧ wz.cell? ⟨fb,o + i * 4,none⟩ = some (.int .i64 f.tag) from ⟨t.fields[i]'(by omega),List.getElem_mem _,hfd.1,by have h3:=hfd.2.2 i (by omega) 0;unfold fdS at h3;exact h3 _ rfl⟩)
  have HF:=hid hf
  have H69:=hid h69
  have HTO:=hid hto
  rw [tx,hKT]
  clear hKT hN hsp hf hn h69 hto hx hr
  go_enter Try.func43,Try.ntmps43
  go_wp2_with (go_at_call 52;refine HREF.out.mono ?_;rintro e w2 ⟨⟨fb,o,fc,rfl,hnc,hcm,hfd⟩,hb2⟩;have HFD:=hid hfd;have HB2:=hid hb2;have hl2:=hb2.size;clear hfd hb2)
  obtain ⟨W3,hW3⟩ : ∃ W3,((w2.alloc (.cells #[.int .u8 69, .string N, .slice (some ⟨fb,o,none⟩) n fc] 78)).alloc (.cells #[.int .u8 69] 5)).alloc (.cells #[.string KT, .string ⟨#[69]⟩, .slice none 0 0, .slice none 0 0] 69) = W3:=⟨_,rfl⟩
  rw [hW3]
  obtain ⟨tb0,hbl3⟩:=start_typed HB2.out KT N ⟨#[69]⟩ 69 (.slice (some ⟨fb,o,none⟩) n fc) W3 hW3
  clear hW3
  have TB:=hid tb0
  have B3:=hid (Beside.of_below (rb:=rb) hbl3 (Nat.le_refl _))
  have R3:=hid (H.below hbl3 R0)
  have t2:=tb0.t2
  have tlt:=tb0.tlt
  have vlt:=tb0.vlt
  have hrl:=R3.out.lt
  clear tb0 hbl3
  go_region_law ((try go_simp);go_at_call 10;refine (pick rb k0 n W3.drew (R3.out.below (Below.drew (Below.refl _ _)) hrl) (by omega) (by omega)).mono ?_;rintro e w4 ⟨i,rfl,hi,_,hr4,hb4⟩;obtain ⟨hi0,hi1⟩:=hi (by omega);obtain ⟨i',rfl⟩:=Int.eq_ofNat_of_zero_le hi0;have hin : i' < n:=(by omega);have BE4:=hid ((Beside.drew (Beside.refl rb W3)).trans hb4);obtain ⟨f,hfm,hfb,hcf⟩:=HFL.out w4 fb o i' (HFD.out.beside (B3.out.trans BE4.out)) hin;have HFM:=hid hfm;have TB4:=hid (TB.out.beside R0 BE4.out);have t24:=TB4.out.t2;have v24:=TB4.out.v2;have vf4:=TB4.out.f2;have vl4:=TB4.out.vlt;have R4:=hid hr4;clear hr4 hb4 hfm hi)
  all_goals (go_wp2_with fail)
  all_goals
    obtain ⟨h5,h6,h7⟩:=TB4.out.enm (G:=f.tag) R0 HKH.out (B3.out.trans BE4.out) R4.out
    have hfo:=HTO.out.fds f HFM.out
    have h8 : (Wf.dec f.tag).length ≤ 3:=Wf.dec_len f.tag 2 (by have:=hfo.tag2;omega)
    go_ret
    exact ⟨.mk 69 [] f.tag [],_,rfl,⟨t,HF.out, .inl ⟨H69.out,f,field_self HTO.out HFM.out,hfo.tag2,rfl⟩⟩,by rw [Wf.print_enm];simp;omega,h5,h6,h7⟩
end

theorem pickV (rb k : Nat) (n : Int) (w : World) (H : Rd w rb k) (hk : k ≤ 1000000) (hn : n ≤ 9223372036854775807) : ∃ v : Int,(1 ≤ n → 0 ≤ v ∧ v < n) ∧ Calls Try.prog 10 #[.pointer (some ⟨rb,0,none⟩), .int .i64 n] w fun e w' => e = .returned (.int .i64 v) ∧ Rd w' rb (k + 1) ∧ Beside rb w w':=by
  obtain ⟨a,len,cap,p,h1,h2,h3,h4,h5,h6,h7,h8⟩:=H
  have R:=Rd.step h1 h2 h3 h4 h5 h6 h7 h8
  have Bs:=Beside.set rb w 1 (.int .i64 (p + 1))
  rcases Int.lt_or_le n 1 with hn1 | hn1
  · refine ⟨0,fun h => by omega,(pick_low rb a len cap p n w h2 h3 h4 h5 (by omega) hn1).mono ?_⟩
    rintro e w' ⟨rfl,rfl⟩
    exact ⟨rfl,R,Bs⟩
  · by_cases hl : len = 0
    · subst hl
      refine ⟨0,fun h => by omega,(pick_empty rb a cap p n w h2 h3 h4 h5 (by omega) hn1).mono ?_⟩
      rintro e w' ⟨rfl,rfl⟩
      exact ⟨rfl,R,Bs⟩
    · obtain ⟨l1,l2,h0 | ⟨b,off,rfl,hb,hc⟩⟩:=h1
      · exact absurd h0 hl
      · by_cases hpl : p < len
        · obtain ⟨m,m1,m2,m3⟩:=hc p.toNat (by omega)
          refine ⟨m % n,fun h => ⟨Int.emod_nonneg _ (by omega),Int.emod_lt_of_pos _ (by omega)⟩,(pick_in rb b off len cap p n m w h2 h3 h4 h5 (by omega) hn1 (by omega) h7 hpl (by omega) m1 m2 m3).mono ?_⟩
          rintro e w' ⟨rfl,rfl⟩
          exact ⟨rfl,R,Bs⟩
        · have hlp : (0 : Int) < len:=by omega
          have q1 : p.tmod len = p % len:=Int.tmod_eq_emod_of_nonneg h5
          have q2 : (p * 7 + 3).tmod len = (p * 7 + 3) % len:=Int.tmod_eq_emod_of_nonneg (by omega)
          have q3 : p.tdiv len = p / len:=Int.tdiv_eq_ediv_of_nonneg h5
          have a1:=Int.emod_nonneg p (b:=len) (by omega)
          have a2:=Int.emod_lt_of_pos p hlp
          have a3:=Int.emod_nonneg (p * 7 + 3) (b:=len) (by omega)
          have a4:=Int.emod_lt_of_pos (p * 7 + 3) hlp
          have a5 : 0 ≤ p / len:=Int.ediv_nonneg h5 (by omega)
          have a6 : p / len ≤ p:=Int.ediv_le_self _ h5
          obtain ⟨m,m1,m2,m3⟩:=hc (p % len).toNat (by omega)
          obtain ⟨m',m1',m2',m3'⟩:=hc ((p * 7 + 3) % len).toNat (by omega)
          refine ⟨(bits .xor .i64 (m * 131 + m' * 1117 + p * 29 + p / len * 53) ((m * 131 + m' * 1117 + p * 29 + p / len * 53) / 64)).tmod n,fun h => ⟨Int.tmod_nonneg _ (xor_nonneg _ (by omega) (by omega)),Int.tmod_lt_of_pos _ (by omega)⟩,(pick_mix rb b off len cap p n m m' (p % len) ((p * 7 + 3) % len) (p / len) w h2 h3 h4 h5 (by omega) hn1 hn (by omega) h7 hpl (by omega) m1 m2 m1' m2' q1 q2 q3 a1 a2 a3 a4 a5 (by omega) m3 m3').mono ?_⟩
          rintro e w' ⟨rfl,k1,rfl⟩
          exact ⟨rfl,R.drewN _,Bs.drewN _⟩
theorem step_app_int {ops : Array Oper} {o : Oper} {act : Act} {K : Act → World → Prop} {Q : Exit → Act → World → Prop} {E : Prop} {wx : World} {base m c : Nat} {a : Option Addr} {xs : List Value} {G : Nat} (s x : Operand) (hgd : o.guard = none) (ho : o.op = .call { callee:=.builtin .append,args:=#[s,x],argTypes:=#[36,36] })
    (hb : base ≤ wx.heap.size) (hown : wx.ownsRow base 3 1 (.slice a m c) m xs) (hm1 : m ≤ 1000) {zb : Nat} (hz : wx.heap[zb]? = some (.cells #[.int .i64 G] 3)) (hs : act.eval s = .slice a m c) (hx2 : act.eval x = .slice (some ⟨zb,0,none⟩) 1 1)
    (h : ∀ g cap w4,w4.ownsRow base 3 1 (.slice (some ⟨g,0,none⟩) (m + 1) cap) (m + 1) (xs ++ [ix G]) → wx.grownBy w4 (Value.slice a m c).ownBlock → ((Value.slice a m c).ownBlock = some g ∨ g = wx.heap.size) → Below base wx w4 → K (act.put o.dst (.slice (some ⟨g,0,none⟩) (m + 1) cap)) w4) :
    if Region.wanted o (yielded ops act.tmps) = true then Oper.wp Try.prog o act wx K Q else E:=by
  obtain ⟨i0,hi0,hz0,hz1,hz2⟩:=info_parts info_int
  refine step_append_lies wx hgd s x 36 ho base 3 i0 (.int .i64 0) 1 8 Try.underlying36 hi0 hz0 hz1 hz2 rfl (by decide) (.slice a m c) m _ hs hown ⟨zb,0,none⟩ 1 1 [.int .i64 G] hx2 rfl (World.news_of_block hz) (by intro u hu;rw [List.mem_singleton.1 hu];rfl) (by decide) (by unfold maxLen;omega) (by omega) hb _ rfl fun g cap w4 h1 h2 h3 h4 => ?_
  exact h g cap w4 h1 h2 h3 (below_grown2 h2 (fun g hg => (owns_lt hown g hg).1) hb)
theorem list_app_ptr {ops : Array Oper} {rest : List Oper} {o : Oper} {act : Act} {Q : Exit → Act → World → Prop} {wx : World} {base m c : Nat} {a : Option Addr} {xs : List Value} {p : Nat} (s x : Operand) (hgd : o.guard = none) (ho : o.op = .call { callee:=.builtin .append,args:=#[s,x],argTypes:=#[67,67] })
    (hb : base ≤ wx.heap.size) (hown : wx.ownsRow base 54 1 (.slice a m c) m xs) (hm1 : m ≤ 1000) {zb : Nat} (hz : wx.heap[zb]? = some (.cells #[ptr p] 54)) (hs : act.eval s = .slice a m c) (hx2 : act.eval x = .slice (some ⟨zb,0,none⟩) 1 1)
    (h : ∀ g cap w4,w4.ownsRow base 54 1 (.slice (some ⟨g,0,none⟩) (m + 1) cap) (m + 1) (xs ++ [ptr p]) → wx.grownBy w4 (Value.slice a m c).ownBlock → ((Value.slice a m c).ownBlock = some g ∨ g = wx.heap.size) → Below base wx w4 → wpList Try.prog ops Q rest (act.put o.dst (.slice (some ⟨g,0,none⟩) (m + 1) cap)) w4) :
    wpList Try.prog ops Q (o :: rest) act wx:=by
  obtain ⟨i0,hi0,hz0,hz1,hz2⟩:=info_parts info_ptrV
  refine wpList_append_lies wx hgd s x 67 ho base 54 i0 (.pointer none) 1 8 Try.underlying67 hi0 hz0 hz1 hz2 rfl (by decide) (.slice a m c) m _ hs hown ⟨zb,0,none⟩ 1 1 [ptr p] hx2 rfl (World.news_of_block hz) (one_ptr _) (by decide) (by unfold maxLen;omega) (by omega) hb _ rfl fun g cap w4 h1 h2 h3 h4 => ?_
  exact h g cap w4 h1 h2 h3 (below_grown2 h2 (fun g hg => (owns_lt hown g hg).1) hb)
structure RW (w wr : World) (rb tb vb : Nat) (fv : Value) (KT : ByteArray) (k : Nat) (ta : Option Addr) (mt tc : Nat) (a : Option Addr) (m c : Nat) (gs : List Nat) (l : List Wf.V) (bs : List Nat) : Prop where
  rr : RB w wr vb (vb + 1) ta mt tc a m c gs l bs
  bes : Beside rb w wr
  rd : Rd wr rb k
  tl : tb < vb
  tle : w.heap.size ≤ tb
  t2 : wr.cell? ⟨tb,2,none⟩ = some fv
  v0 : wr.cell? ⟨vb,0,none⟩ = some (.string KT)
  v1 : wr.cell? ⟨vb,1,none⟩ = some (.string ⟨#[82]⟩)
section
variable {w wr : World} {rb tb vb k mt tc m c : Nat} {fv : Value} {KT : ByteArray} {ta a : Option Addr} {gs : List Nat} {l : List Wf.V} {bs : List Nat}
theorem RB.stepB {base : Nat} (h : RB w wr vb base ta mt tc a m c gs l bs) {w2 : World} (hb : Beside rb wr w2) (hr : rb < w.heap.size) : RB w w2 vb base ta mt tc a m c gs l bs:=by
  have hv : vb < wr.heap.size:=Nat.lt_of_lt_of_le h.lt h.sz
  have h1:=h.le
  have h2:=h.lt
  have hn : vb ≠ rb:=by omega
  exact ⟨h.lt,h.le,Nat.le_trans h.sz hb.size,(hb.cell (p:=⟨vb,2,none⟩) hv hn).trans h.v2,(hb.frozen (p:=⟨vb,2,none⟩) hv hn).trans h.f2,(hb.cell (p:=⟨vb,3,none⟩) hv hn).trans h.v3,(hb.frozen (p:=⟨vb,3,none⟩) hv hn).trans h.f3,owns_beside h.ownT hb (by omega),owns_beside h.ownK hb (by omega),h.apart,h.hg,h.hl,LVs.keep (fun y hy hlt => ⟨hy,hb.block y hlt (by have:=hy.1;omega)⟩) hb.size _ _ h.vals⟩
theorem RW.stepB (h : RW w wr rb tb vb fv KT k ta mt tc a m c gs l bs) {w2 : World} {k2 : Nat} (hb : Beside rb wr w2) (hr : rb < w.heap.size) (hk : Rd w2 rb k2) : RW w w2 rb tb vb fv KT k2 ta mt tc a m c gs l bs:=by
  have h1:=h.rr.le
  have h2:=h.rr.lt
  have h3:=h.rr.sz
  have h4:=h.tl
  have h5:=h.tle
  have e1 : tb < wr.heap.size:=by omega
  have e2 : tb ≠ rb:=by omega
  have e3 : vb < wr.heap.size:=by omega
  have e4 : vb ≠ rb:=by omega
  exact ⟨h.rr.stepB hb hr,h.bes.trans hb,hk,h.tl,h.tle,(hb.cell (p:=⟨tb,2,none⟩) e1 e2).trans h.t2,(hb.cell (p:=⟨vb,0,none⟩) e3 e4).trans h.v0,(hb.cell (p:=⟨vb,1,none⟩) e3 e4).trans h.v1⟩
theorem RW.low (h : RW w wr rb tb vb fv KT k ta mt tc a m c gs l bs) (hr : rb < w.heap.size) {wx w4 : World} (hx : Below wr.heap.size wr wx) (h4 : Below (vb + 1) wx w4) (j : Nat) (hj : 2 ≤ j) (S : Value) {ta' a' : Option Addr} {mt' tc' m' c' : Nat} {gs' bs' : List Nat} {l' : List Wf.V} (hb : RB w (w4.setCell ⟨vb,j,none⟩ S) vb (vb + 1) ta' mt' tc' a' m' c' gs' l' bs') : RW w (w4.setCell ⟨vb,j,none⟩ S) rb tb vb fv KT k ta' mt' tc' a' m' c' gs' l' bs':=by
  have h1:=h.rr.le
  have h3:=h.rr.sz
  have hB1 : Below (vb + 1) wr w4:=(hx.mono h3).trans h4
  have hB : Below w.heap.size wr (w4.setCell ⟨vb,j,none⟩ S):=(hB1.mono (by omega)).setCell h1 _
  have h5:=h.tl
  exact ⟨hb,beside_low h.bes hB (Nat.le_refl _),h.rd.below hB hr,h.tl,h.tle,(World.cell?_setCell_other w4 _ _ _ (by simp <;> omega)).trans ((hB1.cell (p:=⟨tb,2,none⟩) (by show tb < vb + 1;omega)).trans h.t2),(World.cell?_setCell_other w4 _ _ _ (by simp <;> omega)).trans ((hB1.cell (p:=⟨vb,0,none⟩) (by show vb < vb + 1;omega)).trans h.v0),(World.cell?_setCell_other w4 _ _ _ (by simp <;> omega)).trans ((hB1.cell (p:=⟨vb,1,none⟩) (by show vb < vb + 1;omega)).trans h.v1)⟩
theorem RW.tag {w5 : World} {k5 : Nat} (h0 : RW w wr rb tb vb fv KT k ta mt tc a m c gs l bs) (h : RW w w5 rb tb vb fv KT k5 ta mt tc a m c gs l bs) (hr : rb < w.heap.size) {wx w6 : World} {g cap G p : Nat} {u : Wf.V} (hv : LV w5 (fun z => wr.heap.size ≤ z) u p) (hx : Below w5.heap.size w5 wx)
    (hg : wx.grownBy w6 (Value.slice ta mt tc).ownBlock) (ho : w6.ownsRow (vb + 1) 3 1 (.slice (some ⟨g,0,none⟩) (mt + 1) cap) (mt + 1) (gs.map ix ++ [ix G])) (hat : (Value.slice ta mt tc).ownBlock = some g ∨ g = wx.heap.size) :
    RW w (w6.setCell ⟨vb,2,none⟩ (.slice (some ⟨g,0,none⟩) (mt + 1) cap)) rb tb vb fv KT k5 (some ⟨g,0,none⟩) (mt + 1) cap a m c (gs ++ [G]) l bs ∧ LV (w6.setCell ⟨vb,2,none⟩ (.slice (some ⟨g,0,none⟩) (mt + 1) cap)) (fun y => vb + 1 ≤ y ∧ some y ≠ (Value.slice a m c).ownBlock ∧ some y ≠ (Value.slice (some ⟨g,0,none⟩) (mt + 1) cap).ownBlock) u p:=by
  obtain ⟨r1,r2⟩:=h.rr.putT hx hg ho hat
  have hs:=h.rr.step hx
  have hB : Below (vb + 1) wx w6:=below_grown2 hg (fun y hy => (owns_lt hs.ownT y hy).1) hs.sz
  have h3:=h0.rr.sz
  refine ⟨h.low hr hx hB 2 (by decide) _ r1,LV.keep (fun y hp hlt => ?_) (by simpa using hB.size) _ _ (hv.below hx)⟩
  have hy : wr.heap.size ≤ y:=hp
  have n1 : some y ≠ (Value.slice a m c).ownBlock:=fun e => by have:=(owns_lt h0.rr.ownK y e.symm).2;omega
  have n2 : some y ≠ (Value.slice ta mt tc).ownBlock:=fun e => by have:=(owns_lt h0.rr.ownT y e.symm).2;omega
  obtain ⟨q1,q2⟩:=r2 y (by omega) hlt n1 n2
  exact ⟨⟨by omega,n1,q1⟩,q2⟩
theorem RW.kid (h : RW w wr rb tb vb fv KT k ta mt tc a m c gs l bs) (hr : rb < w.heap.size) {w6 : World} {g cap p : Nat} {u : Wf.V} (hv : LV wr (fun y => vb + 1 ≤ y ∧ some y ≠ (Value.slice a m c).ownBlock ∧ some y ≠ (Value.slice ta mt tc).ownBlock) u p)
    (hg : (wr.alloc (.cells #[ptr p] 54)).grownBy w6 (Value.slice a m c).ownBlock) (ho : w6.ownsRow (vb + 1) 54 1 (.slice (some ⟨g,0,none⟩) (m + 1) cap) (m + 1) (bs.map ptr ++ [ptr p])) (hat : (Value.slice a m c).ownBlock = some g ∨ g = (wr.alloc (.cells #[ptr p] 54)).heap.size) :
    RW w (w6.setCell ⟨vb,3,none⟩ (.slice (some ⟨g,0,none⟩) (m + 1) cap)) rb tb vb fv KT k ta mt tc (some ⟨g,0,none⟩) (m + 1) cap gs (l ++ [u]) (bs ++ [p]):=by
  have hx:=(Below.refl wr.heap.size wr).alloc (Nat.le_refl _) (.cells #[ptr p] 54)
  have hs:=h.rr.step hx
  have hB : Below (vb + 1) (wr.alloc (.cells #[ptr p] 54)) w6:=below_grown2 hg (fun y hy => (owns_lt hs.ownK y hy).1) hs.sz
  exact h.low hr hx hB 3 (by decide) _ (h.rr.putK hx hg ho hat (hv.below hx))
end
end Go.Proofs.Ytidjpalnmnehmaa
