/- Packed by pack.py: Xo Ve Vg. -/
import Derived.Test.YtmdacedmjbiekaaGreatDoorR39
import Derived.Test.YtmdacedmjbiekaaGreatDoorR32
import Derived.Test.YtmdacedmjbiekaaGreatDoorR25
namespace Go.Proofs.YtmdacedmjbiekaaGreatDoor
open Go.ChangeShapes Go.WideShapes Go.ChangeAt Go.RowKit Go.Lib
set_option linter.unusedVariables false
set_option linter.unusedSimpArgs false
theorem str_ne {S : ByteArray} {c : UInt8} {q : List UInt8} (h : S.data.toList = c :: q) : S.toList.isEmpty = false ∧ S.toList ≠ [] ∧ 0 < S.size ∧ 1 ≤ S.size ∧ (∀ h,(S[0]'h).toNat = c.toNat) ∧ (S.extract 1 S.size).data.toList = q:=by
  rcases str_guard S with ⟨h1,_⟩ | ⟨c',q',h1,h2,h3,h4,h5,h6⟩
  · rw [h] at h1;cases h1
  · rw [h] at h1
    cases h1
    exact ⟨h2,h3,h4,h4,h5,by rw [h6]⟩
section
variable (x : Wf.Sc) (v : Value) (W : World) (n : Nat) (S KT : ByteArray) (D : Int) (w : World) (o : Option (Wf.V × List UInt8))
set_option maxRecDepth 20000 in
theorem read_no (h : S.toList.isEmpty = true ∨ (S.toList.isEmpty = false ∧ decide (D < 1) = true)) (ho : o = none) : Calls Tryz.prog 63 #[.agg #[v], .string S, .string KT, .int .i64 D] w fun e w' => LrOut o w e w' ∧ Below w.heap.size w w':=by
  have HO:=hid ho
  clear ho
  rcases h with h | ⟨h,h2⟩
  all_goals
    go_enter Tryz.func63,Tryz.ntmps63
    go_wp2_with fail
    all_goals exact bodyPost_ret (v:=.tuple #[.pointer none, .string S, .bool false]) (by simp [results,Tryz.results63,go_sem, *]) rfl ⟨LrOut.no HO.out ⟨_,_,rfl⟩,(Below.refl _ _).alloc (Nat.le_refl _) _⟩
set_option maxRecDepth 20000 in
theorem read_plain (hS : S.toList.isEmpty = false) (hD : decide (D < 1) = false) (q : Nat) (hk0 : 0 < KT.size) (ek : ∀ h,(KT[0]'h).toNat = q) (hq : q = 110 ∨ q = 116 ∨ q = 102)
    (hp : ∀ wz,Calls Tryz.prog 97 #[.agg #[v], .string S, .string KT] wz fun e w' => LrOut o wz e w' ∧ Below wz.heap.size wz w') :
    Calls Tryz.prog 63 #[.agg #[v], .string S, .string KT, .int .i64 D] w fun e w' => LrOut o w e w' ∧ Below w.heap.size w w':=by
  have HP:=hid hp
  clear hp
  rcases hq with rfl | rfl | rfl
  all_goals
    go_enter Tryz.func63,Tryz.ntmps63
    go_wp2_with (go_at_call 97;refine (HP.out _).mono ?_;rintro e w7 ⟨ho,hb7⟩;obtain ⟨p,r,b,rfl,hlr⟩:=ho.form;have HLR:=hid hlr;have HB7:=hid (below_join ((Below.refl w.heap.size w).alloc (Nat.le_refl _) _) hb7);clear ho hb7 hlr)
    all_goals exact bodyPost_ret (v:=.tuple #[.pointer p, .string r, .bool b]) (by simp [results,Tryz.results63,go_sem, *]) rfl ⟨HLR.out.mono (by simp),HB7.out⟩
set_option maxRecDepth 20000 in
theorem read_ref (hS : S.toList.isEmpty = false) (hD : decide (D < 1) = false) (hk0 : 0 < KT.size) (ek : ∀ h,(KT[0]'h).toNat = 64)
    (hp : ∀ wz,Below w.heap.size w wz → Calls Tryz.prog 96 #[.agg #[v], .string S, .string KT, .int .i64 D] wz fun e w' => LrOut o wz e w' ∧ Below wz.heap.size wz w') :
    Calls Tryz.prog 63 #[.agg #[v], .string S, .string KT, .int .i64 D] w fun e w' => LrOut o w e w' ∧ Below w.heap.size w w':=by
  have HP:=hid hp
  clear hp
  go_enter Tryz.func63,Tryz.ntmps63
  go_wp2_with (go_at_call 96;refine (HP.out _ ((Below.refl _ _).alloc (Nat.le_refl _) _)).mono ?_;rintro e w7 ⟨ho,hb7⟩;obtain ⟨p,r,b,rfl,hlr⟩:=ho.form;have HLR:=hid hlr;have HB7:=hid (below_join ((Below.refl w.heap.size w).alloc (Nat.le_refl _) _) hb7);clear ho hb7 hlr)
  all_goals exact bodyPost_ret (v:=.tuple #[.pointer p, .string r, .bool b]) (by simp [results,Tryz.results63,go_sem, *]) rfl ⟨HLR.out.mono (by simp),HB7.out⟩
set_option maxRecDepth 20000 in
theorem read_list_no (hS : S.toList.isEmpty = false) (h0 : 0 < S.size) (hD : decide (D < 1) = false) (hk0 : 0 < KT.size) (ek : ∀ h,(KT[0]'h).toNat = 91) (b0 : Nat) (e1 : ∀ h,(S[0]'h).toNat = b0) (m1 : ((b0 : Int) != 91) = true) (ho : o = none) :
    Calls Tryz.prog 63 #[.agg #[v], .string S, .string KT, .int .i64 D] w fun e w' => LrOut o w e w' ∧ Below w.heap.size w w':=by
  have HO:=hid ho
  clear ho
  go_enter Tryz.func63,Tryz.ntmps63
  go_wp2_with fail
  all_goals exact bodyPost_ret (v:=.tuple #[.pointer none, .string S, .bool false]) (by simp [results,Tryz.results63,go_sem, *]) rfl ⟨LrOut.no HO.out ⟨_,_,rfl⟩,(Below.refl _ _).alloc (Nat.le_refl _) _⟩
set_option maxRecDepth 20000 in
theorem read_list (R : ByteArray) (hS : S.toList.isEmpty = false) (h0 : 0 < S.size) (h1 : 1 ≤ S.size) (hR : S.extract 1 S.size = R) (hD : decide (D < 1) = false) (hk0 : 0 < KT.size) (ek : ∀ h,(KT[0]'h).toNat = 91) (e1 : ∀ h,(S[0]'h).toNat = 91)
    (hp : ∀ wz,Below w.heap.size w wz → Calls Tryz.prog 95 #[.agg #[v], .string R, .string KT, .int .i64 D] wz fun e w' => LrOut o wz e w' ∧ Below wz.heap.size wz w') :
    Calls Tryz.prog 63 #[.agg #[v], .string S, .string KT, .int .i64 D] w fun e w' => LrOut o w e w' ∧ Below w.heap.size w w':=by
  have HP:=hid hp
  have kx : ∀ wz,(Instr.slice 9 (.string S) (some (.int .i64 1)) none none).run Tryz.prog wz = .ok (.string R) wz:=fun wz => by
    have h:=sl_suf S 1 h1 wz
    rw [hR] at h
    exact h
  clear hp hR
  have c0 : (w.alloc (.cells #[v] 109)).cell? ⟨w.heap.size,0,none⟩ = some v:=by simp [go_sem]
  have B3:=hid ((Below.refl w.heap.size w).alloc (Nat.le_refl _) (.cells #[v] 109))
  have hl3 : w.heap.size < (w.alloc (.cells #[v] 109)).heap.size:=by simp
  go_enter Tryz.func63,Tryz.ntmps63
  go_wp2_with fail
  obtain ⟨W3,hW3⟩ : ∃ W3,w.alloc (.cells #[v] 109) = W3:=⟨_,rfl⟩
  rw [hW3] at c0 B3 hl3
  rw [hW3]
  clear hW3
  go_region_held3 (fun w' => w'.cell? ⟨w.heap.size,0,none⟩ = some v) (first | exact j0 | go_keep) ((go_at_call 95;refine (HP.out W3.drew B3.out.drew).mono ?_;rintro e w7 ⟨ho,hb7⟩;obtain ⟨p,r,b,rfl,hlr⟩:=ho.form;have HLR:=hid hlr;have HB7:=hid (Below.drew (Below.refl W3.heap.size W3) |>.trans hb7);have j0:=(HB7.out.cell (p:=⟨w.heap.size,0,none⟩) hl3).trans c0;clear ho hb7 hlr))
  all_goals (go_wp2_with fail)
  all_goals exact bodyPost_ret (v:=.tuple #[.pointer p, .string r, .bool b]) (by simp [results,Tryz.results63,go_sem, *]) rfl ⟨HLR.out.mono B3.out.size,B3.out.trans (HB7.out.mono B3.out.size)⟩
set_option maxRecDepth 20000 in
theorem read_opt_no (hS : S.toList.isEmpty = false) (h0 : 0 < S.size) (hD : decide (D < 1) = false) (hk0 : 0 < KT.size) (ek : ∀ h,(KT[0]'h).toNat = 63) (b0 : Nat) (e1 : ∀ h,(S[0]'h).toNat = b0) (m0 : ((b0 : Int) == 45) = false) (m1 : ((b0 : Int) != 43) = true) (ho : o = none) :
    Calls Tryz.prog 63 #[.agg #[v], .string S, .string KT, .int .i64 D] w fun e w' => LrOut o w e w' ∧ Below w.heap.size w w':=by
  have HO:=hid ho
  clear ho
  go_enter Tryz.func63,Tryz.ntmps63
  go_wp2_with fail
  all_goals exact bodyPost_ret (v:=.tuple #[.pointer none, .string S, .bool false]) (by simp [results,Tryz.results63,go_sem, *]) rfl ⟨LrOut.no HO.out ⟨_,_,rfl⟩,(Below.refl _ _).alloc (Nat.le_refl _) _⟩
set_option maxRecDepth 20000 in
set_option maxHeartbeats 2000000 in
theorem read_opt_none (R : ByteArray) (hS : S.toList.isEmpty = false) (h0 : 0 < S.size) (h1 : 1 ≤ S.size) (hR : S.extract 1 S.size = R) (hD : decide (D < 1) = false) (hk0 : 0 < KT.size) (ek : ∀ h,(KT[0]'h).toNat = 63) (hk : KT.data.toList.head? = some 63) (e1 : ∀ h,(S[0]'h).toNat = 45) (ho : o = some (.mk 63 [] 0 [],R.data.toList)) :
    Calls Tryz.prog 63 #[.agg #[v], .string S, .string KT, .int .i64 D] w fun e w' => LrOut o w e w' ∧ Below w.heap.size w w':=by
  have HO:=hid ho
  have HKH:=hid hk
  have kx : ∀ wz,(Instr.slice 9 (.string S) (some (.int .i64 1)) none none).run Tryz.prog wz = .ok (.string R) wz:=fun wz => by
    have h:=sl_suf S 1 h1 wz
    rw [hR] at h
    exact h
  clear ho hR hk
  go_enter Tryz.func63,Tryz.ntmps63
  go_wp2_with fail
  go_region
  all_goals (go_wp2_with fail)
  all_goals exact bodyPost_ret (v:=.tuple #[ptr (w.heap.size + 1), .string R, .bool true]) (by simp [results,Tryz.results63,go_sem, *]) rfl (by
    have hR : ∀ W3 : World,W3.heap.size = w.heap.size + 1 → Below w.heap.size w W3 → (LrOut o w (.returned (.tuple #[ptr (w.heap.size + 1), .string R, .bool true])) (W3.alloc (.cells #[.string KT, .string ⟨#[]⟩, .slice none 0 0, .slice none 0 0] 142)) ∧ Below w.heap.size w (W3.alloc (.cells #[.string KT, .string ⟨#[]⟩, .slice none 0 0, .slice none 0 0] 142))):=fun W3 h1 h2 => by
      refine ⟨LrOut.yes HO.out ⟨w.heap.size + 1,rfl, ?_⟩,h2.alloc h2.size _⟩
      rw [← h1]
      exact LV.new (kd:=KT.data.toList) (t:=[]) (by decide) ⟨HKH.out,rfl⟩ rfl h2.size (by simp) (by first | (simp [go_sem];done) | (simp [go_sem];rfl)) (by first | (simp [go_sem];done) | (simp [go_sem];rfl)) (by simp [go_sem]) (by simp [go_sem])
    have hb:=(Below.refl w.heap.size w).alloc (Nat.le_refl _) (.cells #[v] 109)
    first | exact hR _ (by simp) hb | exact hR _ (by simp) hb.drew)
set_option maxRecDepth 20000 in
set_option maxHeartbeats 2000000 in
theorem read_opt_some (k : Wf.K) (R K1 : ByteArray) (hS : S.toList.isEmpty = false) (h0 : 0 < S.size) (h1 : 1 ≤ S.size) (hR : S.extract 1 S.size = R) (hD : decide (D < 1) = false) (hk0 : 0 < KT.size) (hk1 : 1 ≤ KT.size) (hK1 : KT.extract 1 KT.size = K1) (ek : ∀ h,(KT[0]'h).toNat = 63) (hk : KT.data.toList.head? = some 63) (e1 : ∀ h,(S[0]'h).toNat = 43) (kd : IntKind.i64.wrap (D - 1) = (n : Int)) (o1 : Option (Wf.V × List UInt8)) (ho : o = o1.map fun y => (.mk 63 [] 0 [y.1],y.2))
    (hp : ∀ wz,Below w.heap.size w wz → Calls Tryz.prog 63 #[.agg #[v], .string R, .string K1, .int .i64 n] wz fun e w' => LrOut o1 wz e w' ∧ Below wz.heap.size wz w') :
    Calls Tryz.prog 63 #[.agg #[v], .string S, .string KT, .int .i64 D] w fun e w' => LrOut o w e w' ∧ Below w.heap.size w w':=by
  have HP:=hid hp
  have HKH:=hid hk
  have HO:=hid ho
  have kx : ∀ wz,(Instr.slice 9 (.string S) (some (.int .i64 1)) none none).run Tryz.prog wz = .ok (.string R) wz:=fun wz => by
    have h:=sl_suf S 1 h1 wz
    rw [hR] at h
    exact h
  have ky : ∀ wz,(Instr.slice 9 (.string KT) (some (.int .i64 1)) none none).run Tryz.prog wz = .ok (.string K1) wz:=fun wz => by
    have h:=sl_suf KT 1 hk1 wz
    rw [hK1] at h
    exact h
  clear hp hR hK1 hk ho
  have c0 : (w.alloc (.cells #[v] 109)).cell? ⟨w.heap.size,0,none⟩ = some v:=by simp [go_sem]
  have B3:=hid ((Below.refl w.heap.size w).alloc (Nat.le_refl _) (.cells #[v] 109))
  have hl3 : w.heap.size < (w.alloc (.cells #[v] 109)).heap.size:=by simp
  go_enter Tryz.func63,Tryz.ntmps63
  go_wp2_with fail
  obtain ⟨W3,hW3⟩ : ∃ W3,w.alloc (.cells #[v] 109) = W3:=⟨_,rfl⟩
  rw [hW3] at c0 B3 hl3
  rw [hW3]
  clear hW3
  go_region_held3 (fun w' => w'.cell? ⟨w.heap.size,0,none⟩ = some v) (first | exact j0 | go_keep) ((go_at_call 63;refine (HP.out W3.drew B3.out.drew).mono ?_;rintro e w7 ⟨ho,hb7⟩;obtain ⟨p,r,b,rfl,hlr⟩:=ho.form;have HLR:=hid hlr;have HB7:=hid (Below.drew (Below.refl W3.heap.size W3) |>.trans hb7);have j0:=(HB7.out.cell (p:=⟨w.heap.size,0,none⟩) hl3).trans c0;clear ho hb7 hlr))
  all_goals (go_wp2_with fail)
  all_goals exact bodyPost_ret (v:=.tuple #[ptr (w7.heap.size + 1), .string r, .bool b]) (by simp [results,Tryz.results63,go_sem, *]) rfl (by
    have hle:=Nat.le_trans B3.out.size HB7.out.size
    have h7:=B3.out.trans (HB7.out.mono B3.out.size)
    refine ⟨?_,(h7.alloc hle _).alloc (by simp;omega) _⟩
    have hl:=HLR.out
    cases ho1 : o1 with
    | none =>
      rw [ho1] at hl
      obtain ⟨p',r',he⟩:=hl
      obtain ⟨_,_,e2⟩:=three he
      injection e2 with e2
      subst e2
      exact LrOut.no (by rw [HO.out,ho1];rfl) ⟨_,_,rfl⟩
    | some y =>
      rw [ho1] at hl
      obtain ⟨b',he,hlv⟩:=hl
      obtain ⟨e0,e1,e2⟩:=three he
      injection e0 with e0
      injection e1 with e1
      injection e2 with e2
      subst e0 e1 e2
      refine LrOut.yes (v:=.mk 63 [] 0 [y.1]) (r:=y.2) (by rw [HO.out,ho1];rfl) ⟨w7.heap.size + 1,rfl,LV.opt1 (kb:=w7.heap.size) (u:=b') (KT:=KT) (by omega) hle (by first | (simp;done) | (simp;omega)) (by first | (simp;done) | (simp;omega)) HKH.out ?_ ?_ ?_ ?_ ?_ ?_ (LV.mono (LV.below (LV.below hlv ((Below.refl _ _).alloc (Nat.le_refl _) _)) ((Below.refl _ _).alloc (Nat.le_refl _) _)) fun z hz _ => by have:=B3.out.size;have : W3.drew.heap.size = W3.heap.size:=rfl;omega)⟩
      all_goals (simp [go_sem];done))
end

theorem VC.one {W : World} {P : Nat → Prop} {b o : Nat} {cs : List Value} {v : Wf.V} (hv : VC W P v cs) (hb : P b) (hlt : b < W.heap.size) (hc : ∀ j u,cs[j]? = some u → W.cell? ⟨b,o + j,none⟩ = some u) (what : UInt8) (text : List UInt8) (tag : Nat) (hs : ShapeV what tag [v]) : VC W P (.mk what text tag [v]) [.int .u8 what.toNat,tx text, .int .i64 tag, .slice (some ⟨b,o,none⟩) 1 1]:=by
  simp only [VC,VCs]
  exact ⟨some ⟨b,o,none⟩,1,rfl,Nat.le_refl _,by unfold maxLen;omega,hs, .inr ⟨b,o,rfl,hb,hlt,⟨cs,hv,hc⟩,trivial⟩⟩
structure Zero (wr : World) (b : Nat) : Prop where
  lt : b < wr.heap.size
  r0 : wr.cell? ⟨b,0,none⟩ = some (.int .u8 0)
  r1 : wr.cell? ⟨b,1,none⟩ = some (.string ⟨#[]⟩)
  r2 : wr.cell? ⟨b,2,none⟩ = some (.int .i64 0)
  r3 : wr.cell? ⟨b,3,none⟩ = some (.slice none 0 0)
  f0 : wr.frozen? ⟨b,0,none⟩ = false
  f1 : wr.frozen? ⟨b,1,none⟩ = false
  f2 : wr.frozen? ⟨b,2,none⟩ = false
  f3 : wr.frozen? ⟨b,3,none⟩ = false
theorem Zero.same {wr w2 : World} {b : Nat} (h : Zero wr b) (hs : wr.heap.size ≤ w2.heap.size) (h1 : w2.heap[b]? = wr.heap[b]?) : Zero w2 b:=by
  have cd:=fun o => World.cell?_of_block (w:=wr) (w':=w2) (a:=⟨b,o,none⟩) h1
  have cf:=fun o => World.frozen?_of_block (w:=wr) (w':=w2) (a:=⟨b,o,none⟩) h1
  exact ⟨Nat.lt_of_lt_of_le h.lt hs,(cd 0).trans h.r0,(cd 1).trans h.r1,(cd 2).trans h.r2,(cd 3).trans h.r3,(cf 0).trans h.f0,(cf 1).trans h.f1,(cf 2).trans h.f2,(cf 3).trans h.f3⟩
theorem Zero.step {wr w2 : World} {b rb : Nat} (h : Zero wr b) (hb : Beside rb wr w2) (hr : b ≠ rb) : Zero w2 b:=h.same hb.size (hb.block _ h.lt hr)
theorem Zero.below {wr w2 : World} {b B : Nat} (h : Zero wr b) (hb : Below B wr w2) (hr : b < B) : Zero w2 b:=h.same hb.size (hb.block _ hr)
theorem zero_new (w : World) : Zero (w.alloc (.cells #[.int .u8 0, .string ⟨#[]⟩, .int .i64 0, .slice none 0 0] 92)) w.heap.size:=by
  refine ⟨?_, ?_, ?_, ?_, ?_, ?_, ?_, ?_, ?_⟩ <;> simp [go_sem]
section
variable (x : Wf.Sc) (rb sb : Nat) (W : World) (n : Nat) (t : Wf.Ty) (s : List UInt8) (w : World)
set_option maxRecDepth 20000 in
set_option maxHeartbeats 1000000 in
theorem field_c (bad : Bool) (ht : t.fields.length ≤ 1000) (hs : s.length ≤ 400) (lo tb : Nat) (hW : Below W.heap.size W w) (hT : TyL W lo tb t) (hWr : W.heap.size ≤ rb) (H : Sn w rb sb s bad) (hno : ¬ (bad = false ∧ ∃ g q f,Wf.numTok 200 s = some (g,61 :: q) ∧ t.field g = some f)) : Calls Tryz.prog 170 #[ptr rb,ptr tb] w fun e w' => Beside rb w w' ∧ ∃ r,e = .returned (.tuple #[.agg #[.int .u8 0, .string ⟨#[]⟩, .int .i64 0, .slice none 0 0], .pointer none]) ∧ r.length ≤ s.length ∧ Sn w' rb sb r true:=by
  obtain ⟨m,hm⟩ : ∃ m,numV (s.takeWhile Wf.isDig) = m:=⟨_,rfl⟩
  obtain ⟨s1,hs1⟩ : ∃ s1,s.dropWhile Wf.isDig = s1:=⟨_,rfl⟩
  obtain ⟨b1,hb1⟩ : ∃ b1,(bad || !(Wf.plainN (s.takeWhile Wf.isDig) 200).isSome) = b1:=⟨_,rfl⟩
  have HNUM:=hid fun w2 (h : Sn w2 rb sb s bad) => number rb sb w2 s bad 200 (by omega) (by omega) h
  rw [hm,hs1,hb1] at HNUM
  have HFD:=hid fun (w2 : World) (hb : Below W.heap.size W w2) => field t ht m lo tb W w2 hb hT
  have HLE:=hid (show s1.length ≤ s.length by rw [← hs1];exact (List.dropWhile_suffix _).length_le)
  have hkey : b1 = false → ∀ q,s1 = 61 :: q → fieldI t m = none:=fun h q hq => by
    rw [h,Bool.or_eq_false_iff] at hb1
    cases hp : Wf.plainN (s.takeWhile Wf.isDig) 200 with
    | none => rw [hp] at hb1;simp at hb1
    | some g =>
      have hmg : m = g:=by rw [← hm];exact numV_some hp
      have hnt : Wf.numTok 200 s = some (g,61 :: q):=by rw [Wf.numTok,hp,hs1,hq];rfl
      rw [hmg,fieldI_nat]
      cases hf : t.field g with
      | none => rfl
      | some f => exact absurd ⟨hb1.1,g,q,f,hnt,hf⟩ hno
  have HW:=hid hW
  have HH:=hid H
  have hrb:=H.lt
  have hmle : m ≤ 999999:=by rw [← hm];exact numV_le _
  clear hno H hT hW hm hs1 hb1
  by_cases hY : b1 = false ∧ ∃ q,s1 = 61 :: q
  · obtain ⟨rfl,q,rfl⟩:=hY
    have HFI:=hid (hkey rfl q rfl)
    have HL2:=hid (show q.length ≤ s.length by have:=HLE.out;simp at this;omega)
    clear hkey
    have HFD2:=hid fun (w2 : World) (hb : Below W.heap.size W w2) => (HFD.out w2 hb).mono (R:=fun e w' => FieldOut W t m e ∧ w2 = w') (R':=fun e w' => e = .returned (.pointer none) ∧ w2 = w') fun e w' h => ⟨FieldOut.no (W:=W) (t:=t) (g:=m) (e:=e) h.1 HFI.out,h.2⟩
    go_enter Tryz.func170,Tryz.ntmps170
    go_wp2_with (first | (go_at_call 140;refine (want_yes rb sb _ [61] q S1.out).mono ?_;rintro e w3 ⟨rfl,hs3,hb3⟩;have HS3:=hid hs3;have HB3:=hid (HB1.out.trans hb3);have c2:=hs3.c2;have f2:=hs3.f2;have hlt:=hs3.lt;have ZZ3:=hid (ZZ.out.step hb3 (by omega));obtain ⟨zl,zr0,zr1,zr2,zr3,zf0,zf1,zf2,zf3⟩:=ZZ3.out;clear hs3 hb3) | (go_at_call 46;refine (HFD2.out _ BW1.out).mono ?_;rintro e w2 ⟨rfl,rfl⟩) | (go_at_call 141;have b0:=(Below.refl w.heap.size w).alloc (Nat.le_refl _) (.cells #[.int .u8 0, .string ⟨#[]⟩, .int .i64 0, .slice none 0 0] 92);refine (HNUM.out _ (HH.out.below b0)).mono ?_;rintro e w1 ⟨rfl,hs1,hb1⟩;have B0:=hid b0;have S1:=hid hs1;have ZZ:=hid ((zero_new w).step hb1 (by omega));have HB1:=hid ((Beside.of_below b0 (Nat.le_refl _)).trans hb1);have HB1a:=hid hb1;have BW1:=hid (Beside.below HW.out HW.out.size hWr HB1.out);clear b0 hs1 hb1))
    exact bodyPost_ret (v:=.tuple #[.agg #[.int .u8 0, .string ⟨#[]⟩, .int .i64 0, .slice none 0 0], .pointer none]) (by simp [results,Tryz.results170,go_sem, *]) rfl (by
      refine (fun (wx W4 : World) (sn : Sn wx rb sb q true) (hf : Beside rb w wx) (hb : Beside w.heap.size wx W4) => ⟨hf.on hb (Nat.le_refl _),q,rfl,HL2.out,sn.beside hb (by omega)⟩ : ∀ wx W4,Sn wx rb sb q true → Beside rb w wx → Beside w.heap.size wx W4 → Beside rb w W4 ∧ ∃ r,(Ending.returned (.tuple #[.agg #[.int .u8 0, .string ⟨#[]⟩, .int .i64 0, .slice none 0 0], .pointer none])) = .returned (.tuple #[.agg #[.int .u8 0, .string ⟨#[]⟩, .int .i64 0, .slice none 0 0], .pointer none]) ∧ r.length ≤ s.length ∧ Sn W4 rb sb r true) (w3.setCell ⟨rb,2,none⟩ (.bool true)) _ HS3.out.fail (HB3.out.trans (Beside.set _ _ _ _)) ?_
      repeat (first | with_reducible exact Beside.refl _ _ | with_reducible refine Beside.drew ?_ | with_reducible refine Beside.trans ?_ (Beside.set _ _ _ _)))
  · have HY:=hid (show b1 = true ∨ ¬ [61] <+: s1 by
      cases b1 with
      | true => exact .inl rfl
      | false => exact .inr fun ⟨q,hq⟩ => hY ⟨rfl,q,hq.symm⟩)
    clear hkey hY
    cases hfi : fieldI t m with
    | none =>
      have HFI:=hid hfi
      clear hfi
      have HFD2:=hid fun (w2 : World) (hb : Below W.heap.size W w2) => (HFD.out w2 hb).mono (R:=fun e w' => FieldOut W t m e ∧ w2 = w') (R':=fun e w' => e = .returned (.pointer none) ∧ w2 = w') fun e w' h => ⟨FieldOut.no (W:=W) (t:=t) (g:=m) (e:=e) h.1 HFI.out,h.2⟩
      go_enter Tryz.func170,Tryz.ntmps170
      go_wp2_with (first | (go_at_call 140;refine (want_no rb sb _ s1 [61] b1 S1.out HY.out).mono ?_;rintro e w3 ⟨rfl,hs3,hb3⟩;have HS3:=hid hs3;have HB3:=hid (HB1.out.trans hb3);have c2:=hs3.c2;have f2:=hs3.f2;have hlt:=hs3.lt;have ZZ3:=hid (ZZ.out.step hb3 (by omega));obtain ⟨zl,zr0,zr1,zr2,zr3,zf0,zf1,zf2,zf3⟩:=ZZ3.out;clear hs3 hb3) | (go_at_call 46;refine (HFD2.out _ BW1.out).mono ?_;rintro e w2 ⟨rfl,rfl⟩) | (go_at_call 141;have b0:=(Below.refl w.heap.size w).alloc (Nat.le_refl _) (.cells #[.int .u8 0, .string ⟨#[]⟩, .int .i64 0, .slice none 0 0] 92);refine (HNUM.out _ (HH.out.below b0)).mono ?_;rintro e w1 ⟨rfl,hs1,hb1⟩;have B0:=hid b0;have S1:=hid hs1;have ZZ:=hid ((zero_new w).step hb1 (by omega));have HB1:=hid ((Beside.of_below b0 (Nat.le_refl _)).trans hb1);have HB1a:=hid hb1;have BW1:=hid (Beside.below HW.out HW.out.size hWr HB1.out);clear b0 hs1 hb1))
      exact bodyPost_ret (v:=.tuple #[.agg #[.int .u8 0, .string ⟨#[]⟩, .int .i64 0, .slice none 0 0], .pointer none]) (by simp [results,Tryz.results170,go_sem, *]) rfl (by
        refine (fun (wx W4 : World) (sn : Sn wx rb sb s1 true) (hf : Beside rb w wx) (hb : Beside w.heap.size wx W4) => ⟨hf.on hb (Nat.le_refl _),s1,rfl,HLE.out,sn.beside hb (by omega)⟩ : ∀ wx W4,Sn wx rb sb s1 true → Beside rb w wx → Beside w.heap.size wx W4 → Beside rb w W4 ∧ ∃ r,(Ending.returned (.tuple #[.agg #[.int .u8 0, .string ⟨#[]⟩, .int .i64 0, .slice none 0 0], .pointer none])) = .returned (.tuple #[.agg #[.int .u8 0, .string ⟨#[]⟩, .int .i64 0, .slice none 0 0], .pointer none]) ∧ r.length ≤ s.length ∧ Sn W4 rb sb r true) (w3.setCell ⟨rb,2,none⟩ (.bool true)) _ HS3.out.fail (HB3.out.trans (Beside.set _ _ _ _)) ?_
        repeat (first | with_reducible exact Beside.refl _ _ | with_reducible refine Beside.drew ?_ | with_reducible refine Beside.trans ?_ (Beside.set _ _ _ _)))
    | some f =>
      have HFI:=hid hfi
      clear hfi
      have HFD2:=hid fun (w2 : World) (hb : Below W.heap.size W w2) => (HFD.out w2 hb).mono (R:=fun e w' => FieldOut W t m e ∧ w2 = w') (R':=fun e w' => (∃ fb o,e = .returned (.pointer (some ⟨fb,o,none⟩))) ∧ w2 = w') fun e w' h => ⟨let ⟨fb,o,he,_⟩:=FieldOut.yes (W:=W) (t:=t) (g:=m) (e:=e) h.1 HFI.out;⟨fb,o,he⟩,h.2⟩
      go_enter Tryz.func170,Tryz.ntmps170
      go_wp2_with (first | (go_at_call 140;refine (want_no rb sb _ s1 [61] b1 S1.out HY.out).mono ?_;rintro e w3 ⟨rfl,hs3,hb3⟩;have HS3:=hid hs3;have HB3:=hid (HB1.out.trans hb3);have c2:=hs3.c2;have f2:=hs3.f2;have hlt:=hs3.lt;have ZZ3:=hid (ZZ.out.step hb3 (by omega));obtain ⟨zl,zr0,zr1,zr2,zr3,zf0,zf1,zf2,zf3⟩:=ZZ3.out;clear hs3 hb3) | (go_at_call 46;refine (HFD2.out _ BW1.out).mono ?_;rintro e w2 ⟨⟨fb,o,rfl⟩,rfl⟩) | (go_at_call 141;have b0:=(Below.refl w.heap.size w).alloc (Nat.le_refl _) (.cells #[.int .u8 0, .string ⟨#[]⟩, .int .i64 0, .slice none 0 0] 92);refine (HNUM.out _ (HH.out.below b0)).mono ?_;rintro e w1 ⟨rfl,hs1,hb1⟩;have B0:=hid b0;have S1:=hid hs1;have ZZ:=hid ((zero_new w).step hb1 (by omega));have HB1:=hid ((Beside.of_below b0 (Nat.le_refl _)).trans hb1);have HB1a:=hid hb1;have BW1:=hid (Beside.below HW.out HW.out.size hWr HB1.out);clear b0 hs1 hb1))
      exact bodyPost_ret (v:=.tuple #[.agg #[.int .u8 0, .string ⟨#[]⟩, .int .i64 0, .slice none 0 0], .pointer none]) (by simp [results,Tryz.results170,go_sem, *]) rfl (by
        refine (fun (wx W4 : World) (sn : Sn wx rb sb s1 true) (hf : Beside rb w wx) (hb : Beside w.heap.size wx W4) => ⟨hf.on hb (Nat.le_refl _),s1,rfl,HLE.out,sn.beside hb (by omega)⟩ : ∀ wx W4,Sn wx rb sb s1 true → Beside rb w wx → Beside w.heap.size wx W4 → Beside rb w W4 ∧ ∃ r,(Ending.returned (.tuple #[.agg #[.int .u8 0, .string ⟨#[]⟩, .int .i64 0, .slice none 0 0], .pointer none])) = .returned (.tuple #[.agg #[.int .u8 0, .string ⟨#[]⟩, .int .i64 0, .slice none 0 0], .pointer none]) ∧ r.length ≤ s.length ∧ Sn W4 rb sb r true) (w3.setCell ⟨rb,2,none⟩ (.bool true)) _ HS3.out.fail (HB3.out.trans (Beside.set _ _ _ _)) ?_
        repeat (first | with_reducible exact Beside.refl _ _ | with_reducible refine Beside.drew ?_ | with_reducible refine Beside.trans ?_ (Beside.set _ _ _ _)))
def FlYes (x : Wf.Sc) (n : Nat) (t : Wf.Ty) (s : List UInt8) (rb sb : Nat) (W w : World) (e : Ending) (w' : World) : Prop :=
  Beside rb w w' ∧ ∃ cs f v r fb o,e = .returned (.tuple #[.agg cs.toArray, .pointer (some ⟨fb,o,none⟩)]) ∧ f ∈ t.fields ∧ f.tag ≤ 200 ∧ FdAt W fb o t.sort f ∧ VC w' (fun b => w.heap.size ≤ b) (.mk 61 [] f.tag [v]) cs ∧ ((Wf.fieldTok t (fun k s => Wf.parse x n k s) s = some (f,v,r) ∧ Sn w' rb sb r false) ∨ (Wf.fieldTok t (fun k s => Wf.parse x n k s) s = none ∧ (∃ q,q.length + 2 ≤ s.length ∧ Wf.Badv q r v) ∧ Sn w' rb sb r true))
theorem one_out {w w4 W7 : World} (hb : Beside w.heap.size w4 W7) {B : Nat} {v : Wf.V} {cs : List Value} (hvc : VC w4 (fun b => B ≤ b) v cs) (h : w.heap.size < B) {blk : Nat} (hlt : blk < W7.heap.size) (hblk : w.heap.size ≤ blk) (hc : ∀ j u,cs[j]? = some u → W7.cell? ⟨blk,0 + j,none⟩ = some u) {tag : Nat} (ht : tag ≤ 999999) : VC W7 (fun b => w.heap.size ≤ b) (.mk 61 [] tag [v]) [.int .u8 61,tx [], .int .i64 tag, .slice (some ⟨blk,0,none⟩) 1 1] :=
  VC.one (VC.keep (P:=fun b => B ≤ b) (fun b hp hlt => ⟨by omega,hb.block b hlt (by omega)⟩) hb.size _ _ hvc) hblk hlt hc 61 [] tag ⟨ht,fun _ => .inr (.inr (.inl rfl)),fun _ => rfl⟩
set_option maxRecDepth 20000 in
set_option maxHeartbeats 1000000 in
theorem field_m (f : Wf.Fd) (g : Nat) (q : List UInt8) (hn : Wf.numTok 200 s = some (g,61 :: q)) (hf : t.field g = some f) (ht : t.fields.length ≤ 1000) (hs : s.length ≤ 400) (lo tb : Nat) (hW : Below W.heap.size W w) (hT : TyL W lo tb t) (hWr : W.heap.size ≤ rb) (H : Sn w rb sb s false) (h69 : t.sort ≠ 69) (IH : Reads x rb sb W n f.kind) (hq : q.length < n) : Calls Tryz.prog 170 #[ptr rb,ptr tb] w fun e w' => FlYes x n t s rb sb W w e w':=by
  have hg : g ≤ 200:=(Wf.numTok_some hn).2.1
  obtain ⟨hfm,hft⟩:=Wf.field_mem hf
  have hql : q.length + 2 ≤ s.length:=by have:=Wf.numTok_lt hn;simp at this;omega
  have HNUM:=hid fun w2 (h : Sn w2 rb sb s false) => number_yes rb sb w2 s (61 :: q) false 200 g (by omega) (by omega) h hn
  have HFD:=hid fun (w2 : World) (hb : Below W.heap.size W w2) => (field t ht g lo tb W w2 hb hT).mono (R':=fun e w' => (∃ fb o,e = .returned (.pointer (some ⟨fb,o,none⟩)) ∧ FdAt W fb o t.sort f) ∧ w2 = w') fun e w' h => ⟨FieldOut.yes (W:=W) (t:=t) (g:=g) (e:=e) h.1 (by rw [fieldI_nat];exact hf),h.2⟩
  have HTK:=hid (show Wf.fieldTok t (fun k s => Wf.parse x n k s) s = (Wf.parse x n f.kind q).map fun y => (f,y.1,y.2) from Wf.fieldTok_some t (fun k s => Wf.parse x n k s) hn hf)
  obtain ⟨SG,hSG⟩ : ∃ SG : ByteArray,(⟨f.kind.signs.toArray⟩ : ByteArray) = SG:=⟨_,rfl⟩
  obtain ⟨BS,hBS⟩ : ∃ BS : ByteArray,(⟨f.kind.base.toArray⟩ : ByteArray) = BS:=⟨_,rfl⟩
  obtain ⟨NM,hNM⟩ : ∃ NM : ByteArray,(⟨f.kind.name.toArray⟩ : ByteArray) = NM:=⟨_,rfl⟩
  have hkv : kV f.kind = .agg #[.string SG, .string BS, .string NM]:=by simp only [kV,tx,hSG,hBS,hNM]
  have hIH2 : ∀ (s : List UInt8) (w : World),Below W.heap.size W w → Sn w rb sb s false → s.length < n → s.length ≤ 400 → Calls Tryz.prog 98 #[ptr rb, .agg #[.string SG, .string BS, .string NM]] w fun e w' => RdOut (Wf.parse x n f.kind s) s rb sb w e w':=by rw [← hkv];exact IH
  have HIH2:=hid hIH2
  have HCL:=hid fun (fb o : Nat) (w2 : World) (hb : Below W.heap.size W w2) (h : FdAt W fb o t.sort f) => (show fb < w2.heap.size ∧ w2.cell? ⟨fb,o,none⟩ = some (.int .i64 g) ∧ w2.cell? ⟨fb,o + 2,none⟩ = some (.string SG) ∧ w2.cell? ⟨fb,o + 2 + 1,none⟩ = some (.string BS) ∧ w2.cell? ⟨fb,o + 2 + 2,none⟩ = some (.string NM) by
    have e : fdC t.sort f = [.int .i64 f.tag,tx f.name, .string SG, .string BS, .string NM,tx f.given]:=by
      unfold fdC
      rw [if_neg h69,← hSG,← hBS,← hNM]
    have hc:=fun j u (hu : (fdC t.sort f)[j]? = some u) => (hb.cell (p:=⟨fb,o + j,none⟩) h.1).trans (h.2 j u hu)
    rw [e] at hc
    exact ⟨Nat.lt_of_lt_of_le h.1 hb.size,by rw [← hft];exact hc 0 _ rfl,hc 2 _ rfl,hc 3 _ rfl,hc 4 _ rfl⟩)
  have HW:=hid hW
  have HH:=hid H
  have HF:=hid (And.intro hfm hft)
  have hrb:=H.lt
  clear hn hf hfm hft H hT hW hSG hBS hNM hkv hIH2 IH h69
  go_enter Tryz.func170,Tryz.ntmps170
  go_wp2_with (first | (go_at_call 98;refine (HIH2.out q _ BW3.out HS3.out hq (by omega)).mono ?_;rintro e w4 ⟨cs,v,r2,rfl,hvc,hbs,ho⟩;obtain ⟨q2,g2,n2,c2,T2,a2,rfl⟩:=hvc.cells4;have HVC:=hid hvc;have HO:=hid ho;have HB4:=hid hbs;have ZZ4:=hid (ZZ3.out.step hbs (by omega));obtain ⟨yl,yr0,yr1,yr2,yr3,yf0,yf1,yf2,yf3⟩:=ZZ4.out;have BW4:=hid (Beside.below BW3.out BW3.out.size hWr hbs);obtain ⟨x1,x2,x3,x4,x5⟩:=HCL.out fb o w4 BW4.out HFA.out;clear hvc ho hbs) | (go_at_call 140;refine (want_yes rb sb _ [61] q S1.out).mono ?_;rintro e w3 ⟨rfl,hs3,hb3⟩;have HS3:=hid hs3;have HB3:=hid (HB1.out.trans hb3);have BW3:=hid (Beside.below BW1.out BW1.out.size hWr hb3);have c2:=hs3.c2;have f2:=hs3.f2;have hlt:=hs3.lt;have ZZ3:=hid (ZZ.out.step hb3 (by omega));obtain ⟨zl,zr0,zr1,zr2,zr3,zf0,zf1,zf2,zf3⟩:=ZZ3.out;obtain ⟨k1,k2,k3,k4,k5⟩:=HCL.out fb o w3 BW3.out HFA.out;clear hs3 hb3) | (go_at_call 46;refine (HFD.out _ BW1.out).mono ?_;rintro e w2 ⟨⟨fb,o,rfl,hfa⟩,rfl⟩;have HFA:=hid hfa;clear hfa) | (go_at_call 141;have b0:=(Below.refl w.heap.size w).alloc (Nat.le_refl _) (.cells #[.int .u8 0, .string ⟨#[]⟩, .int .i64 0, .slice none 0 0] 92);refine (HNUM.out _ (HH.out.below b0)).mono ?_;rintro e w1 ⟨rfl,hs1,hb1⟩;have B0:=hid b0;have S1:=hid hs1;have ZZ:=hid ((zero_new w).step hb1 (by omega));have HB1:=hid ((Beside.of_below b0 (Nat.le_refl _)).trans hb1);have HB1a:=hid hb1;have BW1:=hid (Beside.below HW.out HW.out.size hWr HB1.out);clear b0 hs1 hb1))
  have hx1 : fb < w4.heap.size + 1:=Nat.lt_succ_of_lt x1
  go_region
  all_goals (go_wp2_with fail)
  all_goals exact bodyPost_ret (v:=.tuple #[.agg #[.int .u8 61, .string ⟨#[]⟩, .int .i64 g, .slice (some ⟨w4.heap.size + 1,0,none⟩) 1 1], .pointer (some ⟨fb,o,none⟩)]) (by simp [results,Tryz.results170,go_sem, *]) rfl (by
    have hR : ∀ W7,Beside w.heap.size w4 W7 → w4.heap.size + 1 < W7.heap.size → (∀ j u,[Value.int .u8 q2,Value.string T2,Value.int .i64 g2,Value.slice a2 n2 c2][j]? = some u → W7.cell? ⟨w4.heap.size + 1,0 + j,none⟩ = some u) → FlYes x n t s rb sb W w (.returned (.tuple #[.agg #[.int .u8 61, .string ⟨#[]⟩, .int .i64 g, .slice (some ⟨w4.heap.size + 1,0,none⟩) 1 1], .pointer (some ⟨fb,o,none⟩)])) W7:=fun W7 hb hl hc => by
      refine ⟨(HB3.out.trans HB4.out).on hb (Nat.le_refl _),⟨[.int .u8 61, .string ⟨#[]⟩, .int .i64 g, .slice (some ⟨w4.heap.size + 1,0,none⟩) 1 1],f,v,r2,fb,o,rfl,HF.out.1,by rw [HF.out.2];exact hg,HFA.out,by rw [HF.out.2];exact one_out hb HVC.out zl hl (by omega) hc (by omega), ?_⟩⟩
      rcases HO.out with ⟨hp,hs4⟩ | ⟨hp,hbv,hs4⟩
      · exact .inl ⟨by rw [HTK.out,hp];rfl,hs4.beside hb (by omega)⟩
      · exact .inr ⟨by rw [HTK.out,hp];rfl,⟨q,hql,hbv⟩,hs4.beside hb (by omega)⟩
    refine hR _ ?_ ?_ ?_
    · repeat (first | with_reducible exact Beside.refl _ _ | with_reducible refine Beside.drew ?_ | with_reducible refine Beside.alloc ?_ _ | with_reducible refine Beside.trans ?_ (Beside.set _ _ _ _))
    · simp
    · intro j u hu
      rcases j with _ | _ | _ | _ | j <;> simp at hu <;> subst hu <;> simp [go_sem])
theorem field_none (h : ¬ ∃ g q f,Wf.numTok 200 s = some (g,61 :: q) ∧ t.field g = some f) : Wf.fieldTok t (fun k s => Wf.parse x n k s) s = none:=by
  cases hn : Wf.numTok 200 s with
  | none => exact Wf.fieldTok_no t _ hn
  | some y =>
    obtain ⟨g,r⟩:=y
    by_cases hr : r.head? = some 61
    · cases r with
      | nil => simp at hr
      | cons a q =>
        simp at hr
        subst hr
        cases hf : t.field g with
        | none => exact Wf.fieldTok_tag t _ hn hf
        | some f => exact absurd ⟨g,q,f,hn,hf⟩ h
    · exact Wf.fieldTok_eq t _ hn hr
end

structure Blk (wr : World) (b q g : Nat) : Prop where
  lt : b < wr.heap.size
  r0 : wr.cell? ⟨b,0,none⟩ = some (.int .u8 q)
  r1 : wr.cell? ⟨b,1,none⟩ = some (.string ⟨#[]⟩)
  r2 : wr.cell? ⟨b,2,none⟩ = some (.int .i64 g)
  r3 : wr.cell? ⟨b,3,none⟩ = some (.slice none 0 0)
  f2 : wr.frozen? ⟨b,2,none⟩ = false
  f3 : wr.frozen? ⟨b,3,none⟩ = false
theorem Blk.step {wr w2 : World} {b rb q g : Nat} (h : Blk wr b q g) (hb : Beside rb wr w2) (hr : b ≠ rb) : Blk w2 b q g:=by
  have h1:=hb.block _ h.lt hr
  have cd:=fun o => World.cell?_of_block (w:=wr) (w':=w2) (a:=⟨b,o,none⟩) h1
  have cf:=fun o => World.frozen?_of_block (w:=wr) (w':=w2) (a:=⟨b,o,none⟩) h1
  exact ⟨Nat.lt_of_lt_of_le h.lt hb.size,(cd 0).trans h.r0,(cd 1).trans h.r1,(cd 2).trans h.r2,(cd 3).trans h.r3,(cf 2).trans h.f2,(cf 3).trans h.f3⟩
theorem start_two (w : World) (q : Nat) (W1 : World) (hW1 : (w.alloc (.cells #[.int .u8 0, .string ⟨#[]⟩, .int .i64 0, .slice none 0 0] 92)).alloc (.cells #[.int .u8 q, .string ⟨#[]⟩, .int .i64 0, .slice none 0 0] 92) = W1) :
    Zero W1 w.heap.size ∧ Blk W1 (w.heap.size + 1) q 0 ∧ Below w.heap.size w W1:=by
  have hB : Below w.heap.size w W1:=by
    rw [← hW1]
    exact (((Below.refl _ _).alloc (Nat.le_refl _) _).alloc (by simp) _)
  subst hW1
  refine ⟨⟨?_, ?_, ?_, ?_, ?_, ?_, ?_, ?_, ?_⟩,⟨?_, ?_, ?_, ?_, ?_, ?_, ?_⟩,hB⟩
  all_goals first | (simp [go_sem];done) | (simp [go_sem];omega)
section
variable (rb sb : Nat) (W : World) (t : Wf.Ty) (s : List UInt8) (w : World)
set_option maxRecDepth 20000 in
set_option maxHeartbeats 1000000 in
theorem enm_w (s1 s2 : List UInt8) (b1 b2 : Bool) (m : Nat) (hm : m ≤ 999999) (hwant : ∀ w2,Sn w2 rb sb s false → Calls Tryz.prog 140 #[ptr rb,tx [35]] w2 fun e w' => e = .returned (.tuple #[]) ∧ Sn w' rb sb s1 b1 ∧ Beside rb w2 w') (hnum : ∀ w2,Sn w2 rb sb s1 b1 → Calls Tryz.prog 141 #[ptr rb, .int .i64 (200 : Nat)] w2 fun e w' => e = .returned (.int .i64 m) ∧ Sn w' rb sb s2 b2 ∧ Beside rb w2 w') (ht : t.fields.length ≤ 1000) (lo tb : Nat) (hW : Below W.heap.size W w) (hT : TyL W lo tb t) (h69 : t.sort = 69) (hWr : W.heap.size ≤ rb) (H : Sn w rb sb s false) : Calls Tryz.prog 143 #[ptr rb,ptr tb] w fun e w' => e = .returned (.agg #[.int .u8 69, .string ⟨#[]⟩, .int .i64 m, .slice none 0 0]) ∧ Beside rb w w' ∧ Sn w' rb sb s2 (b2 || (t.field m).isNone):=by
  obtain ⟨htb,c0⟩:=hT.sort
  rw [h69] at c0
  have HFD:=hid fun (w2 : World) (hb : Below W.heap.size W w2) => field t ht m lo tb W w2 hb hT
  have y0 : w.cell? ⟨tb,0,none⟩ = some (.int .u8 69):=(hW.cell (p:=⟨tb,0,none⟩) htb).trans c0
  have htw : tb < w.heap.size:=Nat.lt_of_lt_of_le htb hW.size
  have htw1 : tb < w.heap.size + 1:=by omega
  have HWANT:=hid hwant
  have HNUM:=hid hnum
  have HW:=hid hW
  have HH:=hid H
  have hrb:=H.lt
  have ST:=hid fun W1 h => start_two w 69 W1 h
  clear hwant hnum hW H hT c0 h69
  cases hfi : t.field m with
  | none =>
    have HFD2:=hid fun (w2 : World) (hb : Below W.heap.size W w2) => (HFD.out w2 hb).mono (R:=fun e w' => FieldOut W t m e ∧ w2 = w') (R':=fun e w' => e = .returned (.pointer none) ∧ w2 = w') fun e w' h => ⟨FieldOut.no (W:=W) (t:=t) (g:=m) (e:=e) h.1 (by rw [fieldI_nat];exact hfi),h.2⟩
    clear hfi
    go_enter Tryz.func143,Tryz.ntmps143
    go_wp2_with (first | (go_at_call 46;refine (HFD2.out _ (Below.setCell BW2.out (p:=⟨w.heap.size + 1,2,none⟩) (by have:=HW.out.size;show W.heap.size ≤ w.heap.size + 1;omega) _)).mono ?_;rintro e w3 ⟨rfl,rfl⟩) | (go_at_call 141;refine (HNUM.out _ S1.out).mono ?_;rintro e w2 ⟨rfl,hs2,hb2⟩;have S2:=hid hs2;have HB2:=hid (HB1.out.trans hb2);have BW2:=hid (Beside.below HW.out HW.out.size hWr HB2.out);have Z2:=hid (Z1.out.step hb2 (by omega));have K2:=hid (K1.out.step hb2 (by omega));obtain ⟨zl,zr0,zr1,zr2,zr3,zf0,zf1,zf2,zf3⟩:=Z2.out;obtain ⟨kl,kr0,kr1,kr2,kr3,kf2,kf3⟩:=K2.out;have c2:=hs2.c2;have f2:=hs2.f2;have hlt:=hs2.lt;clear hs2 hb2) | (go_at_call 140;obtain ⟨zz0,bk0,b0⟩:=ST.out _ rfl;refine (HWANT.out _ (HH.out.below b0)).mono ?_;rintro e w1 ⟨rfl,hs1,hb1⟩;have Z1:=hid (zz0.step hb1 (by omega));have K1:=hid (bk0.step hb1 (by omega));have S1:=hid hs1;have HB1:=hid ((Beside.of_below b0 (Nat.le_refl _)).trans hb1);clear zz0 bk0 b0 hs1 hb1))
    exact bodyPost_ret (v:=.agg #[.int .u8 69, .string ⟨#[]⟩, .int .i64 m, .slice none 0 0]) (by simp [results,Tryz.results143,go_sem, *]) rfl (by
      have sA : Sn (w2.setCell ⟨w.heap.size + 1,2,none⟩ (.int .i64 m)) rb sb s2 b2:=S2.out.beside (Beside.set (w.heap.size + 1) w2 2 _) (by omega)
      have hA : Beside rb w (w2.setCell ⟨w.heap.size + 1,2,none⟩ (.int .i64 m)):=HB2.out.on (Beside.set (w.heap.size + 1) w2 2 _) (by omega)
      have hR : ∀ W4,Beside w.heap.size ((w2.setCell ⟨w.heap.size + 1,2,none⟩ (.int .i64 m)).setCell ⟨rb,2,none⟩ (.bool true)) W4 → (Ending.returned (.agg #[.int .u8 69, .string ⟨#[]⟩, .int .i64 m, .slice none 0 0]) = .returned (.agg #[.int .u8 69, .string ⟨#[]⟩, .int .i64 m, .slice none 0 0]) ∧ Beside rb w W4 ∧ Sn W4 rb sb s2 (b2 || (none : Option Wf.Fd).isNone)):=fun W4 hb => by
        refine ⟨rfl,(hA.trans (Beside.set rb _ 2 _)).on hb (Nat.le_refl _), ?_⟩
        rw [Option.isNone_none,Bool.or_true]
        exact sA.fail.beside hb (by omega)
      refine hR _ ?_
      repeat (first | with_reducible exact Beside.refl _ _ | with_reducible refine Beside.drew ?_ | with_reducible refine Beside.trans ?_ (Beside.set _ _ _ _)))
  | some f =>
    have HFD2:=hid fun (w2 : World) (hb : Below W.heap.size W w2) => (HFD.out w2 hb).mono (R:=fun e w' => FieldOut W t m e ∧ w2 = w') (R':=fun e w' => (∃ fb o,e = .returned (.pointer (some ⟨fb,o,none⟩))) ∧ w2 = w') fun e w' h => ⟨let ⟨fb,o,he,_⟩:=FieldOut.yes (W:=W) (t:=t) (g:=m) (e:=e) (f:=f) h.1 (by rw [fieldI_nat];exact hfi);⟨fb,o,he⟩,h.2⟩
    clear hfi
    go_enter Tryz.func143,Tryz.ntmps143
    go_wp2_with (first | (go_at_call 46;refine (HFD2.out _ (Below.setCell BW2.out (p:=⟨w.heap.size + 1,2,none⟩) (by have:=HW.out.size;show W.heap.size ≤ w.heap.size + 1;omega) _)).mono ?_;rintro e w3 ⟨⟨fb,o,rfl⟩,rfl⟩) | (go_at_call 141;refine (HNUM.out _ S1.out).mono ?_;rintro e w2 ⟨rfl,hs2,hb2⟩;have S2:=hid hs2;have HB2:=hid (HB1.out.trans hb2);have BW2:=hid (Beside.below HW.out HW.out.size hWr HB2.out);have Z2:=hid (Z1.out.step hb2 (by omega));have K2:=hid (K1.out.step hb2 (by omega));obtain ⟨zl,zr0,zr1,zr2,zr3,zf0,zf1,zf2,zf3⟩:=Z2.out;obtain ⟨kl,kr0,kr1,kr2,kr3,kf2,kf3⟩:=K2.out;have c2:=hs2.c2;have f2:=hs2.f2;have hlt:=hs2.lt;clear hs2 hb2) | (go_at_call 140;obtain ⟨zz0,bk0,b0⟩:=ST.out _ rfl;refine (HWANT.out _ (HH.out.below b0)).mono ?_;rintro e w1 ⟨rfl,hs1,hb1⟩;have Z1:=hid (zz0.step hb1 (by omega));have K1:=hid (bk0.step hb1 (by omega));have S1:=hid hs1;have HB1:=hid ((Beside.of_below b0 (Nat.le_refl _)).trans hb1);clear zz0 bk0 b0 hs1 hb1))
    exact bodyPost_ret (v:=.agg #[.int .u8 69, .string ⟨#[]⟩, .int .i64 m, .slice none 0 0]) (by simp [results,Tryz.results143,go_sem, *]) rfl (by
      have sA : Sn (w2.setCell ⟨w.heap.size + 1,2,none⟩ (.int .i64 m)) rb sb s2 b2:=S2.out.beside (Beside.set (w.heap.size + 1) w2 2 _) (by omega)
      have hA : Beside rb w (w2.setCell ⟨w.heap.size + 1,2,none⟩ (.int .i64 m)):=HB2.out.on (Beside.set (w.heap.size + 1) w2 2 _) (by omega)
      have hR : ∀ W4,Beside w.heap.size (w2.setCell ⟨w.heap.size + 1,2,none⟩ (.int .i64 m)) W4 → (Ending.returned (.agg #[.int .u8 69, .string ⟨#[]⟩, .int .i64 m, .slice none 0 0]) = .returned (.agg #[.int .u8 69, .string ⟨#[]⟩, .int .i64 m, .slice none 0 0]) ∧ Beside rb w W4 ∧ Sn W4 rb sb s2 (b2 || (some f).isNone)):=fun W4 hb => by
        refine ⟨rfl,hA.on hb (Nat.le_refl _), ?_⟩
        rw [Option.isNone_some,Bool.or_false]
        exact sA.beside hb (by omega)
      refine hR _ ?_
      repeat (first | with_reducible exact Beside.refl _ _ | with_reducible refine Beside.drew ?_ | with_reducible refine Beside.trans ?_ (Beside.set _ _ _ _)))
theorem ofType_enm (x : Wf.Sc) (n : Nat) (nm : List UInt8) (hs : s.length ≤ 400) (hf : x.find nm = some t) (ht : t.fields.length ≤ 1000) (lo tb : Nat) (hW : Below W.heap.size W w) (hT : TyL W lo tb t) (h69 : t.sort = 69) (hWr : W.heap.size ≤ rb) (H : Sn w rb sb s false) : Calls Tryz.prog 143 #[ptr rb,ptr tb] w fun e w' => RdOut (Wf.parse x (n + 1) (.ref nm) s) s rb sb w e w':=by
  have fin : ∀ (m : Nat) (s2 : List UInt8) (bad : Bool),m ≤ 999999 → ((bad = false ∧ Wf.parse x (n + 1) (.ref nm) s = some (.mk 69 [] m [],s2)) ∨ (bad = true ∧ Wf.parse x (n + 1) (.ref nm) s = none ∧ s2.length ≤ s.length)) → ∀ e w',(e = .returned (.agg #[.int .u8 69, .string ⟨#[]⟩, .int .i64 m, .slice none 0 0]) ∧ Beside rb w w' ∧ Sn w' rb sb s2 bad) → RdOut (Wf.parse x (n + 1) (.ref nm) s) s rb sb w e w':=by
    rintro m s2 bad hm h e w' ⟨rfl,hb,hsn⟩
    refine ⟨_, .mk 69 [] m [],s2,rfl,VC.leaf 69 [] m hm (by decide),hb, ?_⟩
    rcases h with ⟨rfl,hp⟩ | ⟨rfl,hp,hl⟩
    · exact .inl ⟨hp,hsn⟩
    · exact .inr ⟨hp,Wf.bad_enm hm hl,hsn⟩
  have dl : ∀ r : List UInt8,(r.dropWhile Wf.isDig).length ≤ r.length:=fun r => (List.dropWhile_suffix _).length_le
  by_cases h35 : s.head? = some 35
  · obtain ⟨r,rfl⟩ : ∃ r,s = 35 :: r:=by
      cases s with
      | nil => simp at h35
      | cons a r => simp at h35;exact ⟨r,by rw [h35]⟩
    have hr4 : r.length ≤ 400:=by simp at hs;omega
    cases hn : Wf.numTok 200 r with
    | none =>
      have h1 : Wf.plainN (r.takeWhile Wf.isDig) 200 = none:=by simpa [Wf.numTok] using hn
      refine (enm_w rb sb W t _ w r (r.dropWhile Wf.isDig) false true (numV (r.takeWhile Wf.isDig)) (numV_le _) (fun w2 h => want_yes rb sb w2 [35] r h) (fun w2 h => (number rb sb w2 r false 200 (by omega) (by omega) h).mono fun e w' h => by rw [h1] at h;exact h) ht lo tb hW hT h69 hWr H).mono fun e w' h => ?_
      rw [Bool.true_or] at h
      exact fin _ _ true (numV_le _) (.inr ⟨rfl,Wf.parse_enm_num x n hf h69 hn,by have:=dl r;simp;omega⟩) e w' h
    | some y =>
      obtain ⟨g,q⟩:=y
      have hg:=(Wf.numTok_some hn).2.1
      have hp:=Wf.parse_enm_tag x n hf h69 hn
      refine (enm_w rb sb W t _ w r q false false g (by omega) (fun w2 h => want_yes rb sb w2 [35] r h) (fun w2 h => number_yes rb sb w2 r q false 200 g (by omega) (by omega) h hn) ht lo tb hW hT h69 hWr H).mono fun e w' h => ?_
      cases hfi : t.field g with
      | none =>
        rw [hfi] at h hp
        exact fin g q true (by omega) (.inr ⟨rfl,by rw [hp];rfl,by have:=Wf.numTok_lt hn;simp;omega⟩) e w' h
      | some f =>
        rw [hfi] at h hp
        exact fin g q false (by omega) (.inl ⟨rfl,by rw [hp];rfl⟩) e w' h
  · refine (enm_w rb sb W t s w s (s.dropWhile Wf.isDig) true true (numV (s.takeWhile Wf.isDig)) (numV_le _) (fun w2 h => want_no rb sb w2 s [35] false h (.inr fun hp => h35 ((pre1 35 s).1 hp))) (fun w2 h => (number rb sb w2 s true 200 (by omega) (by omega) h).mono fun e w' h => by rw [Bool.true_or] at h;exact h) ht lo tb hW hT h69 hWr H).mono fun e w' h => ?_
    rw [Bool.true_or] at h
    exact fin _ _ true (numV_le _) (.inr ⟨rfl,Wf.parse_enm_no x n hf h69 h35,dl s⟩) e w' h
end
end Go.Proofs.YtmdacedmjbiekaaGreatDoor
