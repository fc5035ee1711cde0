/- Packed by pack.py: Ed. -/
import Derived.Shelf.Strings.SlTrimAscii
import Derived.Shelf.Strings.Prefix
import Derived.Shelf.Strings.Cut
import Derived.Shelf.Strings.Search3
import Derived.Shelf.Strings.Split
import Derived.Shelf.Strings.SplitShaped
import Derived.Shelf.Strings.Shaped
import Derived.Shelf.Small.Wraps
import Derived.Shelf.Strings.OnBuilder
import Derived.WalkKit
import Derived.Lib.UnsafeStr
import Derived.Lib.Hide
import Derived.ProofKit
import Derived.OpenShut
import Derived.BigQuiet
import Derived.WalkSpells
import Derived.KernelRfl
import Derived.Below
import Derived.Lib.SlTrimSet
import Derived.Deep.QuietTactic
import Derived.Deep.RegionWith
import Derived.Deep.RegionHeld3
import Derived.IntWalk
import Derived.Deep.DeepCutAuto
import Derived.Lib.Split
import Derived.Lib.IndexMore
import Derived.Lib.CountLaws
import Derived.Lib.SplitLaws
import Derived.Deep.AppendLies
import Derived.Deep.RegionLaw
import Derived.Maps.Own
import Derived.Maps.OwnOps
import Derived.Maps.OwnSet
import Derived.Maps.Views
import Derived.StringKeys
import Derived.Maps.AppendAt
import Derived.Deep.CutRange
import Derived.Deep.RegionHeldLaw
import Derived.WalkSmall
import Derived.Lib.PathFns
import Derived.Deep.WholeRow
import Derived.Test.YtidjpalnmnehmaaRows
import Derived.Test.YtidjpalnmnehmaaF0
import Derived.Test.YtidjpalnmnehmaaF1
import Derived.Test.YtidjpalnmnehmaaF2
import Derived.Test.YtidjpalnmnehmaaF3
import Derived.Test.YtidjpalnmnehmaaF4
import Derived.Test.YtidjpalnmnehmaaF5
import Derived.Test.YtidjpalnmnehmaaF6
import Derived.Test.YtidjpalnmnehmaaF7
import Derived.Test.YtidjpalnmnehmaaF8
import Derived.Test.YtidjpalnmnehmaaF9
import Derived.Test.YtidjpalnmnehmaaF10
import Derived.Test.YtidjpalnmnehmaaF11
import Derived.Test.YtidjpalnmnehmaaF12
import Derived.Test.YtidjpalnmnehmaaF13
import Derived.Test.YtidjpalnmnehmaaF14
import Derived.Test.YtidjpalnmnehmaaF15
import Derived.Test.YtidjpalnmnehmaaF16
import Derived.Test.YtidjpalnmnehmaaF17
import Derived.Test.YtidjpalnmnehmaaF18
import Derived.Test.YtidjpalnmnehmaaF19
import Derived.Test.YtidjpalnmnehmaaF20
import Derived.Test.YtidjpalnmnehmaaF21
import Derived.Test.YtidjpalnmnehmaaF22
import Derived.Test.YtidjpalnmnehmaaF23
import Derived.Test.YtidjpalnmnehmaaF24
import Derived.Test.YtidjpalnmnehmaaF26
import Derived.Test.YtidjpalnmnehmaaF30
import Derived.Test.YtidjpalnmnehmaaF33
import Derived.Test.YtidjpalnmnehmaaF34
import Derived.Test.YtidjpalnmnehmaaF35
import Derived.Test.YtidjpalnmnehmaaF36
import Derived.Test.YtidjpalnmnehmaaF40
import Derived.Test.YtidjpalnmnehmaaF42
namespace Go.Proofs.Ytidjpalnmnehmaa
open Go.ChangeShapes Go.WideShapes Go.ChangeAt Go.RowKit Go.Lib
set_option linter.unusedVariables false
set_option linter.unusedSimpArgs false
theorem DtV.mono {x : Wf.Sc} {v : Value} {rb lo bsc : Nat} {d : Int} {nm : List UInt8} {C B N C' B' N' : Nat} (h : DtV x v rb lo bsc d nm C B N) (hC : C ≤ C') (hB : B ≤ B') (hN : N ≤ N') : DtV x v rb lo bsc d nm C' B' N':=fun w k0 hr hk hs hl =>
  (h w k0 hr (by omega) hs hl).mono fun e w' ⟨u,p,h1,h2,h3,h4,h5,h6⟩ => ⟨u,p,h1,Wf.typed_mono _ _ _ h2 _ hN,by omega,h4,h5.mono (by omega),h6⟩
section
variable (x : Wf.Sc) (v : Value) (rb lo bsc : Nat) (d : Int)
set_option maxRecDepth 20000 in
set_option maxHeartbeats 4000000 in
theorem dt_rec0 (hx : Wf.ScOk x) (nm : List UInt8) (hnm : (Wf.K.ref nm).text.length ≤ 1000000) (t : Wf.Ty) (hf : x.find nm = some t) (h82 : t.sort = 82) (h0 : t.fields = []) : DtV x v rb lo bsc d nm 0 2 1:=fun w k0 H hk0 hsp hlo => by
  have R0:=H.lt
  have hr:=l3ref x lo bsc v (.ref nm) hnm w w (Below.refl _ _) (by have:=hx.len;omega) hsp
  obtain ⟨KT,hKT⟩ : ∃ KT : ByteArray,(⟨(Wf.K.ref nm).text.toArray⟩ : ByteArray) = KT:=⟨_,rfl⟩
  obtain ⟨N0,hN⟩ : ∃ N : ByteArray,(⟨t.name.toArray⟩ : ByteArray) = N:=⟨_,rfl⟩
  have HKH:=hid (show KT.data.toList.head? = some 64 by rw [← hKT];rfl)
  rw [tx,hKT] at hr
  have HREF:=hid (hr.mono (R':=fun e w' => (∃ (fa : Option Addr) (fc : Nat),e = .returned (.tuple #[.agg #[.int .u8 82, .string N0, .slice fa 0 fc], .bool true])) ∧ Below w.heap.size w w') fun e w' ⟨h1,h2⟩ => ⟨by
    rw [show refT x (.ref nm) = some t from hf] at h1
    obtain ⟨fb,a,c,h3,_,_⟩:=h1
    rw [h82,h0,tx,hN] at h3
    exact ⟨a,c,h3⟩,h2⟩)
  have kc1:=fun W (a : Addr) (c : Nat) (h : W.cell? a = some (.int .u8 82)) => (show (convert 22 9 (.slice (some a) 1 c)).run Try.prog W = .ok (.string ⟨#[82]⟩) W from run_convert_one (P:=Try.prog) 22 9 5 Try.underlying22 Try.underlying5 Try.underlying9 W a c 82 h)
  have HF:=hid hf
  have H82:=hid h82
  rw [tx,hKT]
  clear hKT hN hsp hf h82 hx hr h0
  go_enter Try.func43,Try.ntmps43
  go_upto_region 14 with (go_at_call 52;refine HREF.out.mono ?_;rintro e w2 ⟨⟨fa,fc,rfl⟩,hb2⟩;have HB2:=hid hb2;have hl2:=hb2.size;clear hb2)
  obtain ⟨W3,hW3⟩ : ∃ W3,((w2.alloc (.cells #[.int .u8 82, .string N0, .slice fa 0 fc] 78)).alloc (.cells #[.int .u8 82] 5)).alloc (.cells #[.string KT, .string ⟨#[82]⟩, .slice none 0 0, .slice none 0 0] 69) = W3:=⟨_,rfl⟩
  rw [hW3]
  have RW0:=hid (RW.start HB2.out R0 H KT N0 (.slice fa 0 fc) W3 hW3)
  clear hW3
  obtain ⟨tb,htb⟩ : ∃ tb,w2.heap.size = tb:=⟨_,rfl⟩
  rw [htb] at RW0 ⊢
  clear htb
  go_wp2_with fail
  go_loopw [13] (fun s13 wr => s13 = .int .i64 0 ∧ wr = W3) (fun _ _ => 0)
  case atStart => exact ⟨rfl,rfl⟩
  case round =>
    obtain ⟨rfl,rfl⟩:=hrel
    have t2:=RW0.out.t2
    have tbl : tb < wr.heap.size:=by have:=RW0.out.tl;have:=RW0.out.rr.sz;omega
    go_wp2_with fail
    go_ret
    exact ⟨Wf.recV [],tb + 1 + 1,rfl,Wf.rec_typed ⟨by simp [Wf.Asc],by simp⟩ HF.out H82.out,by rw [Wf.recV,Wf.print_rec];simp [Wf.commas],RW0.out.done (es:=[]) HKH.out,RW0.out.rd,RW0.out.bes⟩
set_option maxRecDepth 20000 in
set_option maxHeartbeats 4000000 in
theorem dr_ref (nm : List UInt8) (C B N : Nat) (IH : DtV x v rb lo bsc d nm C B N) : DrV x v rb lo bsc d (.ref nm) C B N:=fun w k0 H hk0 hsp hlo => by
  have R0:=H.lt
  obtain ⟨KT,hKT⟩ : ∃ KT : ByteArray,(⟨(Wf.K.ref nm).text.toArray⟩ : ByteArray) = KT:=⟨_,rfl⟩
  obtain ⟨hk1,ek⟩:=kd_first (kd:=(Wf.K.ref nm).text) (c:=64) rfl
  rw [hKT] at hk1 ek
  have ek2 : ∀ h,(KT[0]'h).toNat = 64:=ek
  have hI:=IH (w.alloc (vNew KT)) k0 (H.alloc _) hk0 (hsp.beside ((Beside.refl rb w).alloc _) hlo) hlo
  rw [tx,hKT] at hI
  have HI:=hid hI
  rw [tx,hKT]
  clear hKT ek IH hI hsp
  go_enter Try.func29,Try.ntmps29
  go_wp2_with (go_at_call 43;refine HI.out.mono ?_;rintro e w3 ⟨u,p,rfl,ht,hpl,hlv,hr3,hb3⟩;have HT:=hid ht;have HPL:=hid hpl;have HLV:=hid hlv;have R3:=hid hr3;have B3:=hid hb3;clear ht hpl hlv hr3 hb3)
  go_ret
  exact ⟨u,p,rfl,HT.out,HPL.out,HLV.out.mono (fun z hz _ => Nat.le_trans (by simp) hz),R3.out,((Beside.refl rb w).alloc _).trans B3.out⟩
end
section
variable (x : Wf.Sc) (v : Value) (rb lo bsc : Nat)
theorem kref {nm : List UInt8} (h : KOk x (.ref nm)) : ∃ t,x.find nm = some t:=Wf.hasRef_ref h.ref
theorem dt_low (hx : Wf.ScOk x) : ∀ (n : Nat) (t : Wf.Ty) (nm : List UInt8),KOk x (.ref nm) → x.find nm = some t → Wf.endsIn x n t = true → ∀ d : Int,d ≤ 0 → -500 + (n : Int) ≤ d → DtV x v rb lo bsc d nm (8 + n) (42 + 6 * n) (n + 1):=by
  intro n
  induction n with
  | zero => intro t nm _ _ h;simp [Wf.endsIn] at h
  | succ n ih =>
    intro t nm hk ht he d hd1 hd2
    have htx:=(Wf.find_mem ht).1
    have hto:=hx.tys t htx
    have hlen : (Wf.K.ref nm).text.length ≤ 1000000:=by have:=hk.len;omega
    rcases hto.sort with hs | hs | hs
    · cases hfs : t.fields with
      | nil => exact (dt_rec0 x v rb lo bsc d hx nm hlen t ht hs hfs).mono (by omega) (by omega) (by omega)
      | cons f fs => exact (dt_rec x v rb lo bsc d hx nm hlen t ht hs (by rw [hfs];simp) (by omega) (by omega) 0 0 0 (by omega) (fun h => by omega)).mono (by omega) (by omega) (by omega)
    · have h69 : t.sort ≠ 69:=by rw [hs];decide
      refine (dt_uni x v rb lo bsc d hx nm hlen t ht hs (by omega) (by omega) (8 + n) (42 + 6 * n) (n + 1) fun f hf hsel => ?_).mono (by omega) (by omega) (by omega)
      rcases hsel with hsel | hsel
      · omega
      have hkf:=KOk.fld hx htx h69 hf
      cases hfk : f.kind with
      | num => exact (dr_num x v rb lo bsc (d - 1)).mono (by omega) (by omega) (by omega)
      | txt => exact (dr_txt x v rb lo bsc (d - 1)).mono (by omega) (by omega) (by omega)
      | flag => exact (dr_flag x v rb lo bsc (d - 1)).mono (by omega) (by omega) (by omega)
      | list k => exact (dr_list_no x v rb lo bsc (d - 1) k (by omega)).mono (by omega) (by omega) (by omega)
      | opt k => exact (dr_opt_none x v rb lo bsc (d - 1) k (decide_eq_false (by omega))).mono (by omega) (by omega) (by omega)
      | ref nm2 =>
        rw [hfk] at hkf
        obtain ⟨u,hu⟩:=kref x hkf
        rw [Wf.endsIn_succ] at he
        have hn : Wf.nxt x t = some u:=by
          cases hfs : t.fields with
          | nil => rw [hfs] at hf;cases hf
          | cons f' fs =>
            rw [hfs] at hsel
            simp only [List.head?_cons,Option.some.injEq] at hsel
            subst hsel
            simp [Wf.nxt,hs,hfs,hfk,hu]
        rw [hn] at he
        exact dr_ref x v rb lo bsc (d - 1) nm2 _ _ _ (ih u nm2 hkf hu he (d - 1) (by omega) (by omega))
    · exact (dt_enm x v rb lo bsc d hx nm hlen t ht hs).mono (by omega) (by omega) (by omega)
def cD : Nat → Nat
  | 0 => 17
  | n + 1 => 8 * (cD n + 1)
def bD : Nat → Nat
  | 0 => 96
  | n + 1 => 2 + 8 * (bD n + 5)
theorem cD_pos : ∀ m,17 ≤ cD m:=by
  intro m
  induction m with
  | zero => exact Nat.le_refl _
  | succ m ih => simp only [cD];omega
theorem bD_pos : ∀ m,96 ≤ bD m:=by
  intro m
  induction m with
  | zero => exact Nat.le_refl _
  | succ m ih => simp only [bD];omega
theorem dr_all (hx : Wf.ScOk x) : ∀ (m : Nat),m ≤ 4 → ∀ k,KOk x k → DrV x v rb lo bsc (m : Int) k (cD m) (bD m) (10 + m):=by
  intro m
  induction m with
  | zero =>
    intro _ k hk
    cases k with
    | num => exact (dr_num x v rb lo bsc _).mono (by decide) (by decide) (by omega)
    | txt => exact (dr_txt x v rb lo bsc _).mono (by decide) (by decide) (by omega)
    | flag => exact (dr_flag x v rb lo bsc _).mono (by decide) (by decide) (by omega)
    | list k => exact (dr_list_no x v rb lo bsc _ k (by omega)).mono (by decide) (by decide) (by omega)
    | opt k => exact (dr_opt_none x v rb lo bsc _ k (decide_eq_false (by omega))).mono (by decide) (by decide) (by omega)
    | ref nm =>
      obtain ⟨t,ht⟩:=kref x hk
      exact (dr_ref x v rb lo bsc _ nm _ _ _ (dt_low x v rb lo bsc hx 9 t nm hk ht (hx.ends t (Wf.find_mem ht).1) _ (by omega) (by omega))).mono (by decide) (by decide) (by omega)
  | succ m ih =>
    intro hm k hk
    have hc:=cD_pos m
    have hb:=bD_pos m
    have hc3 : cD m ≤ 10000:=by
      have : ∀ q,q ≤ 3 → cD q ≤ 10000:=by intro q hq;match q,hq with | 0,_ => decide | 1,_ => decide | 2,_ => decide | 3,_ => decide
      exact this m (by omega)
    have hb3 : bD m ≤ 100000:=by
      have : ∀ q,q ≤ 3 → bD q ≤ 100000:=by intro q hq;match q,hq with | 0,_ => decide | 1,_ => decide | 2,_ => decide | 3,_ => decide
      exact this m (by omega)
    have e : ((m + 1 : Nat) : Int) - 1 = (m : Int):=by omega
    have ih2 : ∀ k,KOk x k → DrV x v rb lo bsc (((m + 1 : Nat) : Int) - 1) k (cD m) (bD m) (10 + m):=by rw [e];exact ih (by omega)
    have e1 : cD (m + 1) = 8 * (cD m + 1):=rfl
    have e2 : bD (m + 1) = 2 + 8 * (bD m + 5):=rfl
    cases k with
    | num => exact (dr_num x v rb lo bsc _).mono (by omega) (by omega) (by omega)
    | txt => exact (dr_txt x v rb lo bsc _).mono (by omega) (by omega) (by omega)
    | flag => exact (dr_flag x v rb lo bsc _).mono (by omega) (by omega) (by omega)
    | list k => exact (dr_list x v rb lo bsc _ k (by omega) (by omega) _ _ _ (by omega) (ih2 k hk.list)).mono (by omega) (by omega) (by omega)
    | opt k => exact (dr_opt x v rb lo bsc _ k (by omega) (by omega) (by have:=hk.len;omega) _ _ _ (ih2 k hk.opt)).mono (by omega) (by omega) (by omega)
    | ref nm =>
      obtain ⟨t,ht⟩:=kref x hk
      have htx:=(Wf.find_mem ht).1
      have hto:=hx.tys t htx
      have hlen : (Wf.K.ref nm).text.length ≤ 1000000:=by have:=hk.len;omega
      refine dr_ref x v rb lo bsc _ nm _ _ _ ?_
      rcases hto.sort with hs | hs | hs
      · have h69 : t.sort ≠ 69:=by rw [hs];decide
        cases hfs : t.fields with
        | nil => exact (dt_rec0 x v rb lo bsc _ hx nm hlen t ht hs hfs).mono (by omega) (by omega) (by omega)
        | cons f fs => exact (dt_rec x v rb lo bsc _ hx nm hlen t ht hs (by rw [hfs];simp) (by omega) (by omega) _ _ _ (by omega) (fun _ g hg => ih2 g.kind (KOk.fld hx htx h69 hg))).mono (by omega) (by omega) (by omega)
      · have h69 : t.sort ≠ 69:=by rw [hs];decide
        exact (dt_uni x v rb lo bsc _ hx nm hlen t ht hs (by omega) (by omega) _ _ _ (fun g hg _ => ih2 g.kind (KOk.fld hx htx h69 hg))).mono (by omega) (by omega) (by omega)
      · exact (dt_enm x v rb lo bsc _ hx nm hlen t ht hs).mono (by omega) (by omega) (by omega)
end
end Go.Proofs.Ytidjpalnmnehmaa
