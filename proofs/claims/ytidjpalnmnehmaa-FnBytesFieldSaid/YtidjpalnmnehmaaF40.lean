/- Packed by pack.py: Dv Dw. -/
import Derived.Shelf.Strings.SlTrimAscii
import Derived.Shelf.Strings.Prefix
import Derived.Shelf.Strings.Cut
import Derived.Shelf.Strings.Search3
import Derived.Shelf.Strings.Split
import Derived.Shelf.Strings.SplitShaped
import Derived.Shelf.Strings.Shaped
import Derived.Shelf.Small.Wraps
import Derived.Shelf.Strings.OnBuilder
import Derived.WalkKit
import Derived.Lib.UnsafeStr
import Derived.Lib.Hide
import Derived.ProofKit
import Derived.OpenShut
import Derived.BigQuiet
import Derived.WalkSpells
import Derived.KernelRfl
import Derived.Below
import Derived.Lib.SlTrimSet
import Derived.Deep.QuietTactic
import Derived.Deep.RegionWith
import Derived.Deep.RegionHeld3
import Derived.IntWalk
import Derived.Deep.DeepCutAuto
import Derived.Lib.Split
import Derived.Lib.IndexMore
import Derived.Lib.CountLaws
import Derived.Lib.SplitLaws
import Derived.Deep.AppendLies
import Derived.Deep.RegionLaw
import Derived.Maps.Own
import Derived.Maps.OwnOps
import Derived.Maps.OwnSet
import Derived.Maps.Views
import Derived.StringKeys
import Derived.Maps.AppendAt
import Derived.Deep.CutRange
import Derived.Deep.RegionHeldLaw
import Derived.WalkSmall
import Derived.Lib.PathFns
import Derived.Deep.WholeRow
import Derived.Test.YtidjpalnmnehmaaRows
import Derived.Test.YtidjpalnmnehmaaF0
import Derived.Test.YtidjpalnmnehmaaF1
import Derived.Test.YtidjpalnmnehmaaF2
import Derived.Test.YtidjpalnmnehmaaF3
import Derived.Test.YtidjpalnmnehmaaF4
import Derived.Test.YtidjpalnmnehmaaF5
import Derived.Test.YtidjpalnmnehmaaF6
import Derived.Test.YtidjpalnmnehmaaF7
import Derived.Test.YtidjpalnmnehmaaF8
import Derived.Test.YtidjpalnmnehmaaF9
import Derived.Test.YtidjpalnmnehmaaF10
import Derived.Test.YtidjpalnmnehmaaF11
import Derived.Test.YtidjpalnmnehmaaF12
import Derived.Test.YtidjpalnmnehmaaF13
import Derived.Test.YtidjpalnmnehmaaF14
import Derived.Test.YtidjpalnmnehmaaF15
import Derived.Test.YtidjpalnmnehmaaF16
import Derived.Test.YtidjpalnmnehmaaF17
import Derived.Test.YtidjpalnmnehmaaF18
import Derived.Test.YtidjpalnmnehmaaF19
import Derived.Test.YtidjpalnmnehmaaF20
import Derived.Test.YtidjpalnmnehmaaF21
import Derived.Test.YtidjpalnmnehmaaF22
import Derived.Test.YtidjpalnmnehmaaF23
import Derived.Test.YtidjpalnmnehmaaF24
import Derived.Test.YtidjpalnmnehmaaF26
import Derived.Test.YtidjpalnmnehmaaF30
import Derived.Test.YtidjpalnmnehmaaF42
namespace Go.Proofs.Ytidjpalnmnehmaa
open Go.ChangeShapes Go.WideShapes Go.ChangeAt Go.RowKit Go.Lib
set_option linter.unusedVariables false
set_option linter.unusedSimpArgs false
def DrV (x : Wf.Sc) (v : Value) (rb lo bsc : Nat) (d : Int) (k : Wf.K) (C B N : Nat) : Prop:=∀ (w : World) (k0 : Nat),Rd w rb k0 → k0 + C ≤ 900000 → ScSp w lo bsc v x → rb < lo → Calls Try.prog 29 #[.pointer (some ⟨rb,0,none⟩),v,tx k.text, .int .i64 d] w fun e w' => ∃ (u : Wf.V) (p : Nat),e = .returned (ptr p) ∧ Wf.Typed x N k u ∧ u.print.length ≤ B ∧ LV w' (fun z => w.heap.size ≤ z) u p ∧ Rd w' rb (k0 + C) ∧ Beside rb w w'
theorem DrV.mono {x : Wf.Sc} {v : Value} {rb lo bsc : Nat} {d : Int} {k : Wf.K} {C B N C' B' N' : Nat} (h : DrV x v rb lo bsc d k C B N) (hC : C ≤ C') (hB : B ≤ B') (hN : N ≤ N') : DrV x v rb lo bsc d k C' B' N':=fun w k0 hr hk hs hl =>
  (h w k0 hr (by omega) hs hl).mono fun e w' ⟨u,p,h1,h2,h3,h4,h5,h6⟩ => ⟨u,p,h1,Wf.typed_mono _ _ _ h2 _ hN,by omega,h4,h5.mono (by omega),h6⟩
abbrev vNew (KT : ByteArray) : Obj:=.cells #[.string KT, .string ⟨#[]⟩, .slice none 0 0, .slice none 0 0] 69
theorem vNew_cells {w w3 : World} {rb : Nat} {KT : ByteArray} (hr : rb < w.heap.size) (hb : Beside rb (w.alloc (vNew KT)) w3) : w.heap.size < w3.heap.size ∧ w3.cell? ⟨w.heap.size,0,none⟩ = some (.string KT) ∧ w3.cell? ⟨w.heap.size,1,none⟩ = some (.string ⟨#[]⟩) ∧ w3.cell? ⟨w.heap.size,2,none⟩ = some (.slice none 0 0) ∧ w3.cell? ⟨w.heap.size,3,none⟩ = some (.slice none 0 0) ∧ w3.frozen? ⟨w.heap.size,1,none⟩ = false ∧ w3.frozen? ⟨w.heap.size,2,none⟩ = false ∧ w3.frozen? ⟨w.heap.size,3,none⟩ = false:=by
  have hlt : w.heap.size < (w.alloc (vNew KT)).heap.size:=by simp
  have hne : w.heap.size ≠ rb:=by omega
  have hblk:=hb.block w.heap.size hlt hne
  have cd:=fun o => World.cell?_of_block (w:=w.alloc (vNew KT)) (w':=w3) (a:=⟨w.heap.size,o,none⟩) hblk
  have cf:=fun o => World.frozen?_of_block (w:=w.alloc (vNew KT)) (w':=w3) (a:=⟨w.heap.size,o,none⟩) hblk
  refine ⟨Nat.lt_of_lt_of_le hlt hb.size,(cd 0).trans ?_,(cd 1).trans ?_,(cd 2).trans ?_,(cd 3).trans ?_,(cf 1).trans ?_,(cf 2).trans ?_,(cf 3).trans ?_⟩ <;> simp [vNew,go_sem]
theorem LV.leaf {w w3 : World} {rb : Nat} {KT X : ByteArray} {what : UInt8} {text : List UInt8} (hr : rb < w.heap.size) (hb : Beside rb (w.alloc (vNew KT)) w3) (hs : shapeR what text KT.data.toList X.data.toList) (h61 : what ≠ 61) (ht : tagsOf what 0 [] = []) : LV (w3.setCell ⟨w.heap.size,1,none⟩ (.string X)) (fun z => w.heap.size ≤ z) (.mk what text 0 []) w.heap.size:=by
  obtain ⟨hlt,c0,c1,c2,c3,_,_,_⟩:=vNew_cells hr hb
  refine LV.mk (kd:=KT.data.toList) (t:=X.data.toList) (bs:=[]) (tb:=0) (kb:=0) (tv:=.slice none 0 0) (kv:=.slice none 0 0) h61 (Nat.le_refl _) (by simpa using hlt) ((World.cell?_setCell_other w3 _ _ _ (by simp)).trans c0) (World.cell?_setCell_same w3 _ _ c1) ((World.cell?_setCell_other w3 _ _ _ (by simp)).trans c2) ((World.cell?_setCell_other w3 _ _ _ (by simp)).trans c3) (by rw [ht];exact row_nil _ _) (.inl ht) (row_nil _ _) (.inl rfl) hs (by simp only [LVs])
theorem beside_set {rb : Nat} {w w3 : World} (h : Beside rb w w3) {p : Addr} (hp : w.heap.size ≤ p.block) (u : Value) : Beside rb w (w3.setCell p u):=by
  have hb:=(Below.refl w.heap.size w3).setCell hp u
  exact ⟨hb.os.trans h.os,hb.tape.trans h.tape,hb.output.trans h.output,Nat.le_trans h.size hb.size,fun k hk hr => (Below.heap_setCell w3 p u k (by omega)).trans (h.block k hk hr)⟩
theorem num_pick {w4 : World} {a : Addr} {c : Value} {p : Nat} (hp : p ≤ 999999) (hc : c ∈ [Value.int .i64 0, .int .i64 5, .int .i64 (p : Int), .int .i64 127, .int .i64 128, .int .i64 16383, .int .i64 16384, .int .i64 999999]) (hcc : w4.cell? a = some c) : ∃ y : Nat,y ≤ 999999 ∧ w4.cell? a = some (.int .i64 y):=by
  simp only [List.mem_cons,List.not_mem_nil,or_false] at hc
  rcases hc with rfl | rfl | rfl | rfl | rfl | rfl | rfl | rfl
  · exact ⟨0,by omega,hcc⟩
  · exact ⟨5,by omega,hcc⟩
  · exact ⟨p,hp,hcc⟩
  · exact ⟨127,by omega,hcc⟩
  · exact ⟨128,by omega,hcc⟩
  · exact ⟨16383,by omega,hcc⟩
  · exact ⟨16384,by omega,hcc⟩
  · exact ⟨999999,by omega,hcc⟩
section
variable (x : Wf.Sc) (v : Value) (rb lo bsc : Nat) (d : Int)
set_option maxRecDepth 20000 in
set_option maxHeartbeats 1000000 in
theorem dr_txt : DrV x v rb lo bsc d .txt 1 14 1:=fun w k0 H hk0 hsp hlo => by
  have R0:=H.lt
  obtain ⟨KT,hKT⟩ : ∃ KT : ByteArray,(⟨(Wf.K.text .txt).toArray⟩ : ByteArray) = KT:=⟨_,rfl⟩
  have hk1 : 0 < KT.size:=by rw [← hKT];decide
  have ek : ∀ h,(KT[0]'h).toNat = 116:=by rw [← hKT];intro h;rfl
  have HKH:=hid (show KT.data.toList.head? = some 116 by rw [← hKT];rfl)
  rw [tx,hKT]
  clear hKT
  go_enter Try.func29,Try.ntmps29
  go_wp2_with (go_at_call 42;refine (l91Text rb k0 _ (H.alloc _) (by omega)).mono ?_;rintro e w3 ⟨b,rfl,hb1,hb2,hR3,hBs3⟩;obtain ⟨hlt,c0,c1,c2,c3,f1,f2,f3⟩:=vNew_cells R0 hBs3;have B3:=Lib.hid hBs3;have R3:=Lib.hid hR3;clear hBs3 hR3)
  go_ret
  refine ⟨.mk 116 b 0 [],w.heap.size,rfl,⟨b,hb1,hb2,rfl⟩,by rw [Wf.print_txt];simp;omega,LV.leaf (X:=⟨(39 :: (b ++ [39])).toArray⟩) R0 B3.out ⟨HKH.out,rfl⟩ (by decide) rfl,R3.out.below ((Below.refl w.heap.size w3).setCell (Nat.le_refl _) _) R0,beside_set (((Beside.refl rb w).alloc _).trans B3.out) (Nat.le_refl _) _⟩
set_option maxRecDepth 20000 in
set_option maxHeartbeats 1000000 in
theorem dr_flag : DrV x v rb lo bsc d .flag 1 3 1:=fun w k0 H hk0 hsp hlo => by
  have R0:=H.lt
  obtain ⟨KT,hKT⟩ : ∃ KT : ByteArray,(⟨(Wf.K.text .flag).toArray⟩ : ByteArray) = KT:=⟨_,rfl⟩
  have hk1 : 0 < KT.size:=by rw [← hKT];decide
  have ek : ∀ h,(KT[0]'h).toNat = 102:=by rw [← hKT];intro h;rfl
  have HKH:=hid (show KT.data.toList.head? = some 102 by rw [← hKT];rfl)
  have hr1 : rb < (w.alloc (vNew KT)).heap.size:=Nat.lt_of_lt_of_le R0 (by simp)
  rw [tx,hKT]
  clear hKT
  go_enter Try.func29,Try.ntmps29
  go_wp2_with (go_at_call 10;refine (pick rb k0 2 _ ((H.alloc _).alloc _) (by omega) (by omega)).mono ?_;rintro e w3 ⟨n,rfl,hn,_,hR3,hBs3⟩;obtain ⟨hn0,hn1⟩:=hn (by omega);obtain ⟨X,hx0,hx1,hxc⟩:=cell_picks 3 [[121,101,115],[110,111]] hBs3 hr1 n hn0 hn1 (by decide);have hxd : w3.cell? ⟨w.heap.size + 1,n.toNat,none⟩ = some (.string X):=(by have h:=hxc;rw [show (w.alloc (vNew KT)).heap.size = w.heap.size + 1 by simp] at h;exact h);clear hxc;have B2:=Lib.hid (((Beside.refl rb (w.alloc (vNew KT))).alloc _).trans hBs3);obtain ⟨hlt,c0,c1,c2,c3,f1,f2,f3⟩:=vNew_cells R0 B2.out;have R3:=Lib.hid hR3;clear hBs3 hR3)
  go_ret
  have hX : X.data.toList = [121,101,115] ∨ X.data.toList = [110,111]:=by simpa using hx1
  refine ⟨.mk 102 X.data.toList 0 [],w.heap.size,rfl, ?_,by rw [Wf.print_flag,size_list];exact hx0,LV.leaf (X:=X) R0 B2.out ⟨HKH.out,rfl⟩ (by decide) rfl,R3.out.below ((Below.refl w.heap.size w3).setCell (Nat.le_refl _) _) R0,beside_set (((Beside.refl rb w).alloc _).trans B2.out) (Nat.le_refl _) _⟩
  rcases hX with h | h
  · exact .inl (by rw [h])
  · exact .inr (by rw [h])
set_option maxRecDepth 20000 in
set_option maxHeartbeats 1000000 in
theorem dr_num : DrV x v rb lo bsc d .num 2 6 1:=fun w k0 H hk0 hsp hlo => by
  have R0:=H.lt
  obtain ⟨KT,hKT⟩ : ∃ KT : ByteArray,(⟨(Wf.K.text .num).toArray⟩ : ByteArray) = KT:=⟨_,rfl⟩
  have hk1 : 0 < KT.size:=by rw [← hKT];decide
  have ek : ∀ h,(KT[0]'h).toNat = 110:=by rw [← hKT];intro h;rfl
  have HKH:=hid (show KT.data.toList.head? = some 110 by rw [← hKT];rfl)
  have HD:=hid fun (m : Nat) (hm : m ≤ 999999) (wz : World) => l6Dec m m wz (Nat.le_refl _) (by omega)
  rw [tx,hKT]
  clear hKT
  go_enter Try.func29,Try.ntmps29
  go_wp2_with (first | (go_at_call 41;have _u:=hxd;refine (HD.out y (by omega) _).mono ?_;rintro e w5 ⟨rfl,hb5⟩;have B5:=Lib.hid (B4.out.trans (Beside.of_below hb5 (Nat.le_refl _)));have R5:=Lib.hid (R4.out.below hb5 R4.out.lt);obtain ⟨hlt,c0,c1,c2,c3,f1,f2,f3⟩:=vNew_cells R0 B5.out;clear hb5) | (go_at_call 10;have _u:=hr3;refine (pick rb (k0 + 1) 8 _ (R3.out.alloc _) (by omega) (by omega)).mono ?_;rintro e w4 ⟨n,rfl,hn,_,hR4,hBs4⟩;obtain ⟨hn0,hn1⟩:=hn (by omega);obtain ⟨c,hc,hcc⟩:=cell_pick [.int .i64 0, .int .i64 5, .int .i64 (p : Int), .int .i64 127, .int .i64 128, .int .i64 16383, .int .i64 16384, .int .i64 999999] hBs4 hr3 n hn0 (by simpa using hn1);obtain ⟨y,hy,hxd⟩:=num_pick (p:=p) (by omega) hc hcc;clear hc hcc;have hl4 : w3.heap.size < w4.heap.size:=Nat.lt_of_lt_of_le (by simp) hBs4.size;have B4:=Lib.hid (B3.out.trans (((Beside.refl rb w3).alloc _).trans hBs4));have R4:=Lib.hid hR4;clear hBs4 hR4) | (go_at_call 10;refine (pick rb k0 200 _ (H.alloc _) (by omega) (by omega)).mono ?_;rintro e w3 ⟨p',rfl,hp,_,hR3,hBs3⟩;obtain ⟨hp0,hp1⟩:=hp (by omega);obtain ⟨p,rfl⟩:=Int.eq_ofNat_of_zero_le hp0;have B3:=Lib.hid hBs3;have R3:=Lib.hid hR3;have hr3 : rb < w3.heap.size:=hR3.lt;clear hBs3 hR3))
  go_ret
  refine ⟨.mk 110 (Wf.dec y) 0 [],w.heap.size,rfl,⟨y,hy,rfl⟩,by rw [Wf.print_num];exact Wf.dec_len6 hy,LV.leaf (X:=⟨(Wf.dec y).toArray⟩) R0 B5.out ⟨HKH.out,rfl⟩ (by decide) rfl,R5.out.below ((Below.refl w.heap.size w5).setCell (Nat.le_refl _) _) R0,beside_set (((Beside.refl rb w).alloc _).trans B5.out) (Nat.le_refl _) _⟩
end

theorem ScSp.beside {w w' : World} {lo b rb : Nat} {v : Value} {x : Wf.Sc} (h : ScSp w lo b v x) (hb : Beside rb w w') (hr : rb < lo) : ScSp w' lo b v x:=by
  obtain ⟨cs,h0,h1,h2,h3⟩:=h
  refine ⟨cs,h0,h1.keep hb.size fun hx => hb.block b hx (by omega),h2,fun i hi hi' => ?_⟩
  obtain ⟨fb,a,c,e1,e0,e2⟩:=h3 i hi hi'
  exact ⟨fb,a,c,e1,e0,e2.keep hb.size fun hx => hb.block fb hx (by omega)⟩
theorem KB.new {w : World} {KT : ByteArray} : KB w (w.alloc (vNew KT)) w.heap.size (w.heap.size + 1) none 0 0 [] []:=by
  refine ⟨by omega,Nat.le_refl _,by simp, ?_, ?_,World.ownsRow_nil _ _ _ _,rfl,by simp only [LVs]⟩
  all_goals (simp [vNew,go_sem];done)
theorem KB.stepB {w wr w2 : World} {vb base m c rb : Nat} {a : Option Addr} {l : List Wf.V} {bs : List Nat} (h : KB w wr vb base a m c l bs) (hb : Beside rb wr w2) (hr : rb < w.heap.size) : KB w w2 vb base a m c l bs:=by
  have hv : vb < wr.heap.size:=Nat.lt_of_lt_of_le h.lt h.sz
  have h1:=h.le
  have h2:=h.lt
  have hne : vb ≠ rb:=by omega
  have hblk:=hb.block vb hv hne
  exact ⟨h.lt,h.le,Nat.le_trans h.sz hb.size,(World.cell?_of_block (w:=wr) (w':=w2) (a:=⟨vb,3,none⟩) hblk).trans h.v3,(World.frozen?_of_block (w:=wr) (w':=w2) (a:=⟨vb,3,none⟩) hblk).trans h.f3,owns_beside h.own hb (by omega),h.hl,LVs.keep (fun y hy hlt => ⟨hy,hb.block y hlt (by have:=hy.1;omega)⟩) hb.size _ _ h.vals⟩
theorem LV.empty {w w3 : World} {rb : Nat} {KT : ByteArray} {what : UInt8} (hr : rb < w.heap.size) (hb : Beside rb (w.alloc (vNew KT)) w3) (hs : shapeR what [] KT.data.toList []) (h61 : what ≠ 61) (ht : tagsOf what 0 [] = []) : LV w3 (fun z => w.heap.size ≤ z) (.mk what [] 0 []) w.heap.size:=by
  obtain ⟨hlt,c0,c1,c2,c3,_,_,_⟩:=vNew_cells hr hb
  exact LV.mk (kd:=KT.data.toList) (t:=[]) (bs:=[]) (tb:=0) (kb:=0) h61 (Nat.le_refl _) hlt c0 c1 c2 c3 (by rw [ht];exact row_nil _ _) (.inl ht) (row_nil _ _) (.inl rfl) hs (by simp only [LVs])
section
variable (x : Wf.Sc) (v : Value) (rb lo bsc : Nat) (d : Int)
set_option maxRecDepth 20000 in
set_option maxHeartbeats 1000000 in
theorem dr_opt_none (k : Wf.K) (hd : decide ((0 : Int) < d) = false) : DrV x v rb lo bsc d (.opt k) 0 1 1:=fun w k0 H hk0 hsp hlo => by
  have R0:=H.lt
  obtain ⟨KT,hKT⟩ : ∃ KT : ByteArray,(⟨(Wf.K.opt k).text.toArray⟩ : ByteArray) = KT:=⟨_,rfl⟩
  obtain ⟨hk1,ek⟩:=kd_first (kd:=(Wf.K.opt k).text) (c:=63) rfl
  rw [hKT] at hk1 ek
  have ek2 : ∀ h,(KT[0]'h).toNat = 63:=ek
  have HKH:=hid (show KT.data.toList.head? = some 63 by rw [← hKT];rfl)
  rw [tx,hKT]
  clear hKT ek
  go_enter Try.func29,Try.ntmps29
  go_wp2_with fail
  go_ret
  exact ⟨.mk 63 [] 0 [],w.heap.size,rfl, .inl rfl,by rw [Wf.print_none];simp,LV.empty R0 (Beside.refl rb _) ⟨HKH.out,rfl⟩ (by decide) rfl,H.alloc _,(Beside.refl rb w).alloc _⟩
end
end Go.Proofs.Ytidjpalnmnehmaa
