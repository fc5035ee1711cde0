/- Packed by pack.py: Vu Vv Vw Vr. -/
import Derived.Test.YtmdacedmjbiekaaGreatDoorR40
namespace Go.Proofs.YtmdacedmjbiekaaGreatDoor
open Go.ChangeShapes Go.WideShapes Go.ChangeAt Go.RowKit Go.Lib
set_option linter.unusedVariables false
set_option linter.unusedSimpArgs false
theorem want_any (rb sb : Nat) (c : UInt8) (s : List UInt8) (bad : Bool) : ∃ s' b',(∀ w,Sn w rb sb s bad → Calls Tryz.prog 140 #[ptr rb,tx [c]] w fun e w' => e = .returned (.tuple #[]) ∧ Sn w' rb sb s' b' ∧ Beside rb w w') ∧ ((bad = false ∧ s = c :: s' ∧ b' = false) ∨ ((bad = true ∨ s.head? ≠ some c) ∧ s' = s ∧ b' = true)):=by
  by_cases h : bad = false ∧ s.head? = some c
  · obtain ⟨rfl,hc⟩:=h
    cases s with
    | nil => simp at hc
    | cons a r =>
      simp at hc
      subst hc
      exact ⟨r,false,fun w H => want_yes rb sb w [a] r H, .inl ⟨rfl,rfl,rfl⟩⟩
  · have h2 : bad = true ∨ s.head? ≠ some c:=by
      cases bad with
      | true => exact .inl rfl
      | false => exact .inr fun hc => h ⟨rfl,hc⟩
    exact ⟨s,true,fun w H => want_no rb sb w s [c] bad H (h2.imp id fun h => fun hp => h ((pre1 c s).1 hp)), .inr ⟨h2,rfl,rfl⟩⟩
theorem VC.retag {W : World} {P : Nat → Prop} {v : Wf.V} {g n c : Nat} {a : Option Addr} {T : ByteArray} (h : VC W P (.mk 61 [] g [v]) [.int .u8 61, .string T, .int .i64 g, .slice a n c]) : VC W P (.mk 85 [] g [v]) [.int .u8 85, .string ⟨#[]⟩, .int .i64 g, .slice a n c]:=by
  simp only [VC] at h ⊢
  obtain ⟨a',c',e,h1,h2,h3,h4⟩:=h
  simp only [List.cons.injEq,Value.slice.injEq,and_true,true_and] at e
  obtain ⟨_,_,rfl,rfl,rfl⟩:=e
  exact ⟨a,c,rfl,h1,h2,⟨h3.tag,fun _ => .inr (.inr (.inr (.inr rfl))),fun h => absurd h (by decide)⟩,h4⟩
section
variable (rb sb : Nat) (W : World) (t : Wf.Ty) (s : List UInt8) (w : World)
set_option maxRecDepth 20000 in
set_option maxHeartbeats 1000000 in
theorem uni_w0 (s1 : List UInt8) (b1 : Bool) (hwant : ∀ w2,Sn w2 rb sb s false → Calls Tryz.prog 140 #[ptr rb,tx [60]] w2 fun e w' => e = .returned (.tuple #[]) ∧ Sn w' rb sb s1 b1 ∧ Beside rb w2 w') (lo tb : Nat)
    (hfld : ∀ w2,Below W.heap.size W w2 → Sn w2 rb sb s1 b1 → Calls Tryz.prog 170 #[ptr rb,ptr tb] w2 fun e w' => Beside rb w2 w' ∧ ∃ r,e = .returned (.tuple #[.agg #[.int .u8 0, .string ⟨#[]⟩, .int .i64 0, .slice none 0 0], .pointer none]) ∧ r.length ≤ s1.length ∧ Sn w' rb sb r true) (hW : Below W.heap.size W w) (hT : TyL W lo tb t) (h85 : t.sort = 85) (hWr : W.heap.size ≤ rb) (H : Sn w rb sb s false) : Calls Tryz.prog 143 #[ptr rb,ptr tb] w fun e w' => e = .returned (.agg #[.int .u8 85, .string ⟨#[]⟩, .int .i64 0, .slice none 0 0]) ∧ Beside rb w w' ∧ ∃ r,r.length ≤ s1.length ∧ Sn w' rb sb r true:=by
  obtain ⟨htb,c0⟩:=hT.sort
  rw [h85] at c0
  have y0 : w.cell? ⟨tb,0,none⟩ = some (.int .u8 85):=(hW.cell (p:=⟨tb,0,none⟩) htb).trans c0
  have htw : tb < w.heap.size:=Nat.lt_of_lt_of_le htb hW.size
  have htw1 : tb < w.heap.size + 1:=by omega
  have HWANT:=hid hwant
  have HFLD:=hid hfld
  have HW:=hid hW
  have HH:=hid H
  have hrb:=H.lt
  have ST:=hid fun W1 h => start_two w 85 W1 h
  clear hwant hfld hW H hT c0 h85
  go_enter Tryz.func143,Tryz.ntmps143
  go_wp2_with (first | (go_at_call 140;have _u:=S2;refine (want_no rb sb _ r [62] true (S2.out.below ((Below.refl w2.heap.size w2).alloc (Nat.le_refl _) _)) (.inl rfl)).mono ?_;rintro e w3 ⟨rfl,hs3,hb3⟩;have hb32:=(Beside.of_below ((Below.refl w2.heap.size w2).alloc (Nat.le_refl _) _) (Nat.le_refl _)).trans hb3;have S3:=hid hs3;have HB3:=hid (HB2.out.trans hb32);have Z3:=hid (Z2.out.step hb32 (by omega));have K3:=hid (K2.out.step hb32 (by omega));obtain ⟨zl,zr0,zr1,zr2,zr3,zf0,zf1,zf2,zf3⟩:=Z3.out;obtain ⟨kl,kr0,kr1,kr2,kr3,kf2,kf3⟩:=K3.out;clear hs3 hb3 hb32) | (go_at_call 170;refine (HFLD.out _ BW1.out S1.out).mono ?_;rintro e w2 ⟨hb2,r,rfl,hr,hs2⟩;have HR:=hid hr;have S2:=hid hs2;have HB2:=hid (HB1.out.trans hb2);have Z2:=hid (Z1.out.step hb2 (by omega));have K2:=hid (K1.out.step hb2 (by omega));clear hs2 hb2 hr) | (go_at_call 140;obtain ⟨zz0,bk0,b0⟩:=ST.out _ rfl;refine (HWANT.out _ (HH.out.below b0)).mono ?_;rintro e w1 ⟨rfl,hs1,hb1⟩;have Z1:=hid (zz0.step hb1 (by omega));have K1:=hid (bk0.step hb1 (by omega));have S1:=hid hs1;have HB1:=hid ((Beside.of_below b0 (Nat.le_refl _)).trans hb1);have BW1:=hid (Beside.below HW.out HW.out.size hWr HB1.out);clear zz0 bk0 b0 hs1 hb1))
  all_goals exact bodyPost_ret (v:=.agg #[.int .u8 85, .string ⟨#[]⟩, .int .i64 0, .slice none 0 0]) (by simp [results,Tryz.results143,go_sem, *]) rfl (by
    have hR : ∀ W4,Beside w.heap.size w3 W4 → (Ending.returned (.agg #[.int .u8 85, .string ⟨#[]⟩, .int .i64 0, .slice none 0 0]) = .returned (.agg #[.int .u8 85, .string ⟨#[]⟩, .int .i64 0, .slice none 0 0]) ∧ Beside rb w W4 ∧ ∃ r,r.length ≤ s1.length ∧ Sn W4 rb sb r true):=fun W4 hb => ⟨rfl,HB3.out.on hb (Nat.le_refl _),r,HR.out,S3.out.beside hb (by omega)⟩
    refine hR _ ?_
    repeat (first | with_reducible exact Beside.refl _ _ | with_reducible refine Beside.drew ?_ | with_reducible refine Beside.trans ?_ (Beside.set _ _ _ _)))
set_option maxRecDepth 20000 in
set_option maxHeartbeats 1000000 in
theorem uni_w1 (s1 : List UInt8) (Q : Wf.Fd → Wf.V → List UInt8 → Bool → Prop) (hwant : ∀ w2,Sn w2 rb sb s false → Calls Tryz.prog 140 #[ptr rb,tx [60]] w2 fun e w' => e = .returned (.tuple #[]) ∧ Sn w' rb sb s1 false ∧ Beside rb w2 w') (lo tb : Nat)
    (hfld : ∀ w2,Below W.heap.size W w2 → Sn w2 rb sb s1 false → Calls Tryz.prog 170 #[ptr rb,ptr tb] w2 fun e w' => Beside rb w2 w' ∧ ∃ cs f v r fb o bad,e = .returned (.tuple #[.agg cs.toArray, .pointer (some ⟨fb,o,none⟩)]) ∧ FdAt W fb o t.sort f ∧ VC w' (fun b => w2.heap.size ≤ b) (.mk 61 [] f.tag [v]) cs ∧ Sn w' rb sb r bad ∧ Q f v r bad) (hW : Below W.heap.size W w) (hT : TyL W lo tb t) (h85 : t.sort = 85) (hWr : W.heap.size ≤ rb) (H : Sn w rb sb s false) : Calls Tryz.prog 143 #[ptr rb,ptr tb] w fun e w' => ∃ f v r bad a c r' b',Q f v r bad ∧ e = .returned (.agg #[.int .u8 85, .string ⟨#[]⟩, .int .i64 (f.tag : Nat), .slice a 1 c]) ∧ VC w' (fun b => w.heap.size ≤ b) (.mk 85 [] f.tag [v]) [.int .u8 85, .string ⟨#[]⟩, .int .i64 (f.tag : Nat), .slice a 1 c] ∧ Beside rb w w' ∧ Sn w' rb sb r' b' ∧ ((bad = false ∧ r = 62 :: r' ∧ b' = false) ∨ ((bad = true ∨ r.head? ≠ some 62) ∧ r' = r ∧ b' = true)):=by
  obtain ⟨htb,c0⟩:=hT.sort
  rw [h85] at c0
  have y0 : w.cell? ⟨tb,0,none⟩ = some (.int .u8 85):=(hW.cell (p:=⟨tb,0,none⟩) htb).trans c0
  have htw : tb < w.heap.size:=Nat.lt_of_lt_of_le htb hW.size
  have htw1 : tb < w.heap.size + 1:=by omega
  have HWANT:=hid hwant
  have HFLD:=hid hfld
  have HW:=hid hW
  have HH:=hid H
  have hrb:=H.lt
  have ST:=hid fun W1 h => start_two w 85 W1 h
  clear hwant hfld hW H hT c0 h85
  go_enter Tryz.func143,Tryz.ntmps143
  go_wp2_with (first | (go_at_call 140;have _u:=S2;refine (HWC.out _ (S2.out.below ((Below.refl w2.heap.size w2).alloc (Nat.le_refl _) _))).mono ?_;rintro e w3 ⟨rfl,hs3,hb3⟩;have hal:=(Below.refl w2.heap.size w2).alloc (Nat.le_refl _) (.cells #[.int .u8 61, .string ⟨#[]⟩, .int .i64 G, .slice a 1 c] 92);have hb32:=(Beside.of_below hal (Nat.le_refl _)).trans hb3;have x3 : w3.cell? ⟨w2.heap.size,3,none⟩ = some (.slice a 1 c):=((hb3.cell (p:=⟨w2.heap.size,3,none⟩) (by simp) (by show w2.heap.size ≠ rb;omega)).trans (by simp [go_sem]));have S3:=hid hs3;have HB3:=hid (HB2.out.trans hb32);have HB32:=hid hb32;have hxl : w2.heap.size < w3.heap.size:=Nat.lt_of_lt_of_le (by simp) hb3.size;have ft:=((Beside.below HW.out HW.out.size hWr HB3.out).cell (p:=⟨fb,o,none⟩) HFA.out.1).trans HTG.out;have Z3:=hid (Z2.out.step hb32 (by omega));have K3:=hid (K2.out.step hb32 (by omega));obtain ⟨zl,zr0,zr1,zr2,zr3,zf0,zf1,zf2,zf3⟩:=Z3.out;obtain ⟨kl,kr0,kr1,kr2,kr3,kf2,kf3⟩:=K3.out;clear hs3 hb3 hb32 hal) | (go_at_call 170;refine (HFLD.out _ BW1.out S1.out).mono ?_;rintro e w2 ⟨hb2,cs,f,v,r,fb,o,bad,rfl,hfa,hvc,hs2,hq⟩;obtain ⟨a,c,rfl,_⟩:=hvc.form;obtain ⟨G,hG⟩ : ∃ G,f.tag = G:=⟨_,rfl⟩;obtain ⟨r',b',hwc,hd⟩:=want_any rb sb 62 r bad;have HWC:=hid hwc;have HD:=hid hd;have HQ:=hid hq;have HFA:=hid hfa;have HGG:=hid hG;have hr2 : rb < w2.heap.size:=hs2.lt;have HTG:=hid (show W.cell? ⟨fb,o,none⟩ = some (.int .i64 G) by (obtain ⟨_,_,_,_,hc⟩:=fdC_form t.sort f;rw [← hG];exact hfa.2 0 _ (by rw [hc];rfl)));have HVC:=hid hvc;have S2:=hid hs2;have HB2:=hid (HB1.out.trans hb2);have Z2:=hid (Z1.out.step hb2 (by omega));have K2:=hid (K1.out.step hb2 (by omega));simp only [Wf.V.tag,Wf.V.what,Wf.V.text,Wf.V.kids,tx,hG,List.length_cons,List.length_nil];clear hs2 hb2 hwc hd hq hfa hvc hG) | (go_at_call 140;obtain ⟨zz0,bk0,b0⟩:=ST.out _ rfl;refine (HWANT.out _ (HH.out.below b0)).mono ?_;rintro e w1 ⟨rfl,hs1,hb1⟩;have Z1:=hid (zz0.step hb1 (by omega));have K1:=hid (bk0.step hb1 (by omega));have S1:=hid hs1;have HB1:=hid ((Beside.of_below b0 (Nat.le_refl _)).trans hb1);have BW1:=hid (Beside.below HW.out HW.out.size hWr HB1.out);clear zz0 bk0 b0 hs1 hb1))
  have hk2:=K2.out.lt
  have hk1:=K1.out.lt
  have hne : w2.heap.size ≠ w.heap.size + 1:=by omega
  go_region
  all_goals (go_wp2_with fail)
  all_goals exact bodyPost_ret (v:=.agg #[.int .u8 85, .string ⟨#[]⟩, .int .i64 G, .slice a 1 c]) (by simp [results,Tryz.results143,go_sem, *]) rfl (by
    have hR : ∀ wx W4,Beside (w.heap.size + 1) w3 wx → Beside w.heap.size wx W4 → (∃ f v r bad a' c' r' b',Q f v r bad ∧ Ending.returned (.agg #[.int .u8 85, .string ⟨#[]⟩, .int .i64 G, .slice a 1 c]) = .returned (.agg #[.int .u8 85, .string ⟨#[]⟩, .int .i64 (f.tag : Nat), .slice a' 1 c']) ∧ VC W4 (fun b => w.heap.size ≤ b) (.mk 85 [] f.tag [v]) [.int .u8 85, .string ⟨#[]⟩, .int .i64 (f.tag : Nat), .slice a' 1 c'] ∧ Beside rb w W4 ∧ Sn W4 rb sb r' b' ∧ ((bad = false ∧ r = 62 :: r' ∧ b' = false) ∨ ((bad = true ∨ r.head? ≠ some 62) ∧ r' = r ∧ b' = true))):=fun wx W4 hx hb => by
      have hv61 : VC w2 (fun b => w1.heap.size ≤ b) (.mk 61 [] f.tag [v]) [.int .u8 61, .string ⟨#[]⟩, .int .i64 f.tag, .slice a 1 c]:=HVC.out
      refine ⟨f,v,r,bad,a,c,r',b',HQ.out,by rw [HGG.out],VC.retag (VC.keep (P:=fun b => w1.heap.size ≤ b) (fun b hp hlt => ⟨by omega, ?_⟩) ?_ _ _ hv61),(HB3.out.on hx (by omega)).on hb (Nat.le_refl _),(S3.out.beside hx (by omega)).beside hb (by omega),HD.out⟩
      · have h3 : b < w3.heap.size:=Nat.lt_of_lt_of_le hlt HB32.out.size
        exact (hb.block b (Nat.lt_of_lt_of_le h3 hx.size) (by omega)).trans ((hx.block b h3 (by omega)).trans (HB32.out.block b hlt (by omega)))
      · exact Nat.le_trans HB32.out.size (Nat.le_trans hx.size hb.size)
    first
    | (refine hR ((w3.setCell ⟨w.heap.size + 1,2,none⟩ (.int .i64 G)).setCell ⟨w.heap.size + 1,3,none⟩ (.slice a 1 c)) _ ((Beside.set _ w3 2 _).trans (Beside.set _ _ 3 _)) ?_;(repeat (first | with_reducible exact Beside.refl _ _ | with_reducible refine Beside.drew ?_ | with_reducible refine Beside.trans ?_ (Beside.set _ _ _ _)));done)
    | (refine hR ((w3.setCell ⟨w.heap.size + 1,2,none⟩ (.int .i64 G)).setCell ⟨w.heap.size + 1,3,none⟩ (.slice a 1 c)).drew _ ((Beside.set _ w3 2 _).trans (Beside.set _ _ 3 _)).drew ?_;(repeat (first | with_reducible exact Beside.refl _ _ | with_reducible refine Beside.trans ?_ (Beside.set _ _ _ _)));done))
theorem ofType_uni (x : Wf.Sc) (n : Nat) (nm : List UInt8) (hs : s.length ≤ 400) (hsn : s.length < n + 1) (hf : x.find nm = some t) (ht : t.fields.length ≤ 1000) (lo tb : Nat) (hW : Below W.heap.size W w) (hT : TyL W lo tb t) (h85 : t.sort = 85) (hWr : W.heap.size ≤ rb) (H : Sn w rb sb s false) (IH : ∀ f ∈ t.fields,Reads x rb sb W n f.kind) : Calls Tryz.prog 143 #[ptr rb,ptr tb] w fun e w' => RdOut (Wf.parse x (n + 1) (.ref nm) s) s rb sb w e w':=by
  have fin : ∀ (s1 : List UInt8),s1.length ≤ s.length → Wf.parse x (n + 1) (.ref nm) s = none → ∀ e w',(e = .returned (.agg #[.int .u8 85, .string ⟨#[]⟩, .int .i64 (0 : Nat), .slice none 0 0]) ∧ Beside rb w w' ∧ ∃ r,r.length ≤ s1.length ∧ Sn w' rb sb r true) → RdOut (Wf.parse x (n + 1) (.ref nm) s) s rb sb w e w':=by
    rintro s1 hl hp e w' ⟨rfl,hb,r,hr,hsn⟩
    exact ⟨_, .mk 85 [] 0 [],r,rfl,VC.leaf 85 [] 0 (by omega) (by decide),hb, .inr ⟨hp,Wf.bad_uni0 (by omega),hsn⟩⟩
  by_cases h60 : s.head? = some 60
  · obtain ⟨r,rfl⟩ : ∃ r,s = 60 :: r:=by
      cases s with
      | nil => simp at h60
      | cons a r => simp at h60;exact ⟨r,by rw [h60]⟩
    have hr4 : r.length + 1 ≤ 400:=by simpa using hs
    have hrn : r.length < n:=by simp at hsn;omega
    by_cases h : ∃ g q f,Wf.numTok 200 r = some (g,61 :: q) ∧ t.field g = some f
    · obtain ⟨g,q,f,hn,hfd⟩:=h
      have hq:=Wf.numTok_lt hn
      refine (uni_w1 rb sb W t _ w r (fun f v r' bad => f.tag ≤ 200 ∧ ((bad = false ∧ Wf.fieldTok t (fun k s => Wf.parse x n k s) r = some (f,v,r')) ∨ (bad = true ∧ Wf.fieldTok t (fun k s => Wf.parse x n k s) r = none ∧ ∃ q,q.length + 2 ≤ r.length ∧ Wf.Badv q r' v))) (fun w2 h => want_yes rb sb w2 [60] r h) lo tb (fun w2 hb h => (field_m x rb sb W n t r w2 f g q hn hfd ht (by omega) lo tb hb hT hWr h (by rw [h85];decide) (IH f (Wf.field_mem hfd).1) (by simp at hq;omega)).mono ?_) hW hT h85 hWr H).mono ?_
      · rintro e w' ⟨hb,cs,f,v,r',fb,o,he,hm,h200,hfa,hvc,ho⟩
        rcases ho with ⟨hp,hsn⟩ | ⟨hp,hq,hsn⟩
        · exact ⟨hb,cs,f,v,r',fb,o,false,he,hfa,hvc,hsn,h200, .inl ⟨rfl,hp⟩⟩
        · exact ⟨hb,cs,f,v,r',fb,o,true,he,hfa,hvc,hsn,h200, .inr ⟨rfl,hp,hq⟩⟩
      · rintro e w' ⟨f,v,r1,bad,a,c,r',b',⟨h200,hQ⟩,rfl,hvc,hb,hsn,hD⟩
        refine ⟨_, .mk 85 [] f.tag [v],r',rfl,hvc,hb, ?_⟩
        rcases hQ with ⟨rfl,hp⟩ | ⟨rfl,hp,q,hq2,hbv⟩
        · rcases hD with ⟨_,rfl,rfl⟩ | ⟨hD,rfl,rfl⟩
          · exact .inl ⟨Wf.parse_uni_some x n hf h85 hp,hsn⟩
          · have hD2 : r'.head? ≠ some 62:=by
              rcases hD with h | h
              · cases h
              · exact h
            have hsay:=(Wf.fieldTok_say (Q:=fun f v => Wf.Typed x n f.kind v) (fun f s v r h => Wf.parse_say n f.kind s v r h) hp).2.2.2
            have hlen:=congrArg List.length hsay
            have hdp : 1 ≤ (Wf.dec f.tag).length:=List.length_pos_iff.2 (Wf.dec_ne _)
            simp at hlen
            have hbv : Wf.Badv (v.print ++ r') r' v:=⟨by simp;omega,by simp⟩
            exact .inr ⟨Wf.parse_uni_open x n hf h85 hp hD2,Wf.bad_uni rfl (Wf.bad_field h200 (by simp;omega) hbv),hsn⟩
        · rcases hD with ⟨h,_⟩ | ⟨_,rfl,rfl⟩
          · cases h
          · exact .inr ⟨Wf.parse_uni_bad x n hf h85 hp,Wf.bad_uni rfl (Wf.bad_field h200 hq2 hbv),hsn⟩
    · refine (uni_w0 rb sb W t _ w r false (fun w2 h => want_yes rb sb w2 [60] r h) lo tb (fun w2 hb h2 => field_c rb sb W t r w2 false ht (by omega) lo tb hb hT hWr h2 (fun h3 => h h3.2)) hW hT h85 hWr H).mono ?_
      exact fin r (by simp) (Wf.parse_uni_bad x n hf h85 (field_none x n t r h))
  · refine (uni_w0 rb sb W t s w s true (fun w2 h => want_no rb sb w2 s [60] false h (.inr fun hp => h60 ((pre1 60 s).1 hp))) lo tb (fun w2 hb h2 => field_c rb sb W t s w2 true ht hs lo tb hb hT hWr h2 (fun h3 => absurd h3.1 (by decide))) hW hT h85 hWr H).mono ?_
    exact fin s (Nat.le_refl _) (Wf.parse_uni_no x n hf h85 h60)
end

theorem start_value (w : World) (SG BS NM : ByteArray) (W1 : World) (hW1 : (w.alloc (.cells #[.string SG, .string BS, .string NM] 57)).alloc (.cells #[.int .u8 0, .string ⟨#[]⟩, .int .i64 0, .slice none 0 0] 92) = W1) :
    W1.cell? ⟨w.heap.size,0,none⟩ = some (.string SG) ∧ W1.cell? ⟨w.heap.size,1,none⟩ = some (.string BS) ∧ W1.cell? ⟨w.heap.size,2,none⟩ = some (.string NM) ∧ Zero W1 (w.heap.size + 1) ∧ Below w.heap.size w W1:=by
  have hB : Below w.heap.size w W1:=by
    rw [← hW1]
    exact (((Below.refl _ _).alloc (Nat.le_refl _) _).alloc (by simp) _)
  subst hW1
  refine ⟨?_, ?_, ?_,⟨?_, ?_, ?_, ?_, ?_, ?_, ?_, ?_, ?_⟩,hB⟩
  all_goals first | (simp [go_sem];done) | (simp [go_sem];omega)
section
variable (rb sb : Nat) (W : World) (s : List UInt8) (w : World)
set_option maxRecDepth 20000 in
set_option maxHeartbeats 1000000 in
theorem value_bad (k : Wf.K) (H : Sn w rb sb s true) : Calls Tryz.prog 98 #[ptr rb,kV k] w fun e w' => e = .returned (.agg #[.int .u8 0, .string ⟨#[]⟩, .int .i64 0, .slice none 0 0]) ∧ Beside rb w w' ∧ Sn w' rb sb s true:=by
  have hrb:=H.lt
  have c2:=H.c2
  have HH:=hid H
  obtain ⟨SG,hSG⟩ : ∃ SG : ByteArray,(⟨k.signs.toArray⟩ : ByteArray) = SG:=⟨_,rfl⟩
  obtain ⟨BS,hBS⟩ : ∃ BS : ByteArray,(⟨k.base.toArray⟩ : ByteArray) = BS:=⟨_,rfl⟩
  obtain ⟨NM,hNM⟩ : ∃ NM : ByteArray,(⟨k.name.toArray⟩ : ByteArray) = NM:=⟨_,rfl⟩
  simp only [kV,tx,hSG,hBS,hNM]
  clear H hSG hBS hNM
  go_enter Tryz.func98,Tryz.ntmps98
  go_wp2_with fail
  exact bodyPost_ret (v:=.agg #[.int .u8 0, .string ⟨#[]⟩, .int .i64 0, .slice none 0 0]) (by simp [results,Tryz.results98,go_sem, *]) rfl (by
    have hB : ∀ W4,Below w.heap.size w W4 → (Ending.returned (.agg #[.int .u8 0, .string ⟨#[]⟩, .int .i64 0, .slice none 0 0]) = .returned (.agg #[.int .u8 0, .string ⟨#[]⟩, .int .i64 0, .slice none 0 0]) ∧ Beside rb w W4 ∧ Sn W4 rb sb s true):=fun W4 hb => ⟨rfl,Beside.of_below hb (Nat.le_refl _),HH.out.below hb⟩
    refine hB _ ?_
    repeat (first | with_reducible exact Below.refl _ _ | with_reducible refine Below.drew ?_ | with_reducible refine Below.setCell ?_ (by simp) _ | with_reducible refine Below.alloc ?_ (by simp) _))
set_option maxRecDepth 20000 in
set_option maxHeartbeats 1000000 in
theorem value_num (x : Wf.Sc) (n : Nat) (hs : s.length ≤ 400) (H : Sn w rb sb s false) : Calls Tryz.prog 98 #[ptr rb,kV .num] w fun e w' => RdOut (Wf.parse x (n + 1) .num s) s rb sb w e w':=by
  obtain ⟨m,hm⟩ : ∃ m,numV (s.takeWhile Wf.isDig) = m:=⟨_,rfl⟩
  obtain ⟨s1,hs1⟩ : ∃ s1,s.dropWhile Wf.isDig = s1:=⟨_,rfl⟩
  obtain ⟨b1,hb1⟩ : ∃ b1,(false || !(Wf.plainN (s.takeWhile Wf.isDig) 999999).isSome) = b1:=⟨_,rfl⟩
  have HNUM:=hid fun w2 (h : Sn w2 rb sb s false) => number rb sb w2 s false 999999 (by omega) (by omega) h
  rw [hm,hs1,hb1] at HNUM
  have hmle : m ≤ 999999:=by rw [← hm];exact numV_le _
  have HP:=hid (show (b1 = false ∧ Wf.parse x (n + 1) .num s = some (.mk 110 (Wf.dec m) 0 [],s1)) ∨ (b1 = true ∧ Wf.parse x (n + 1) .num s = none) by
    rw [Bool.false_or] at hb1
    cases hp : Wf.plainN (s.takeWhile Wf.isDig) 999999 with
    | none =>
      rw [hp] at hb1
      exact .inr ⟨by rw [← hb1];rfl,by rw [Wf.parse_num,Wf.numTok,hp];rfl⟩
    | some g =>
      have hmg : m = g:=by rw [← hm];exact numV_some hp
      rw [hp] at hb1
      exact .inl ⟨by rw [← hb1];rfl,by rw [Wf.parse_num,Wf.numTok,hp,hs1,hmg];rfl⟩)
  have HLE:=hid (show s1.length ≤ s.length by rw [← hs1];exact (List.dropWhile_suffix _).length_le)
  have hrb:=H.lt
  have c2:=H.c2
  have HH:=hid H
  have ST:=hid fun W1 h => start_value w ⟨#[]⟩ ⟨#[110]⟩ ⟨#[]⟩ W1 h
  have HSG:=hid fun w2 => sign_w ⟨#[]⟩ ⟨#[110]⟩ ⟨#[]⟩ 0 (.inl ⟨by rw [ByteArray.toList_eq];rfl,rfl⟩) w2
  have hkv : kV .num = .agg #[.string ⟨#[]⟩, .string ⟨#[110]⟩, .string ⟨#[]⟩]:=by rfl
  rw [hkv]
  clear H hm hs1 hb1 hkv
  go_enter Tryz.func98,Tryz.ntmps98
  go_wp2_with (first | (go_at_call 94;refine (decimal m m _ (Nat.le_refl _) hmle).mono ?_;rintro e w3 ⟨rfl,hb3⟩;have S3:=hid (S2.out.below hb3);have HB3:=hid (HB2.out.trans (Beside.of_below hb3 (Nat.le_refl _)));have Z3:=hid (Z2.out.below hb3 Z2.out.lt);obtain ⟨zl,zr0,zr1,zr2,zr3,zf0,zf1,zf2,zf3⟩:=Z3.out;clear hb3) | (go_at_call 141;refine (HNUM.out _ S1.out).mono ?_;rintro e w2 ⟨rfl,hs2,hb2⟩;have S2:=hid hs2;have HB2:=hid (HB1.out.trans hb2);have Z2:=hid (Z1.out.step hb2 (by omega));clear hs2 hb2) | (go_at_call 122;obtain ⟨d0,d1,d2,z0,b0⟩:=ST.out _ rfl;refine (HSG.out _).mono ?_;rintro e w1 ⟨rfl,hb1⟩;have b01:=below_join b0 hb1;have e1:=(hb1.cell (p:=⟨w.heap.size,1,none⟩) (Nat.lt_of_lt_of_le (Nat.lt_succ_self _) (Nat.le_of_lt z0.lt))).trans d1;have S1:=hid (HH.out.below b01);have HB1:=hid (Beside.of_below (rb:=rb) b01 (Nat.le_refl _));have Z1:=hid (z0.below hb1 z0.lt);clear hb1 b01 b0 d0 d1 d2 z0))
  all_goals exact bodyPost_ret (v:=.agg #[.int .u8 110,tx (Wf.dec m), .int .i64 (0 : Nat), .slice none 0 0]) (by simp [results,Tryz.results98,go_sem, *]) rfl (by
    have hR : ∀ W4,Beside (w.heap.size + 1) w3 W4 → RdOut (Wf.parse x (n + 1) .num s) s rb sb w (.returned (.agg #[.int .u8 110,tx (Wf.dec m), .int .i64 (0 : Nat), .slice none 0 0])) W4:=fun W4 hb => by
      refine ⟨_, .mk 110 (Wf.dec m) 0 [],s1,rfl,VC.leaf 110 (Wf.dec m) 0 (by omega) (by decide),HB3.out.on hb (by omega), ?_⟩
      have sn:=S3.out.beside hb (by omega)
      rcases HP.out with ⟨rfl,hp⟩ | ⟨rfl,hp⟩
      · exact .inl ⟨hp,sn⟩
      · exact .inr ⟨hp,Wf.bad_num hmle HLE.out,sn⟩
    refine hR _ ?_
    repeat (first | with_reducible exact Beside.refl _ _ | with_reducible refine Beside.drew ?_ | with_reducible refine Beside.trans ?_ (Beside.set _ _ _ _)))
set_option maxRecDepth 20000 in
set_option maxHeartbeats 1000000 in
theorem value_txt (x : Wf.Sc) (n : Nat) (hs : s.length ≤ 400) (H : Sn w rb sb s false) : Calls Tryz.prog 98 #[ptr rb,kV .txt] w fun e w' => RdOut (Wf.parse x (n + 1) .txt s) s rb sb w e w':=by
  have HQ : Hid (∀ w2,Sn w2 rb sb s false → Calls Tryz.prog 142 #[ptr rb] w2 fun e w' => ∃ t r bad,e = .returned (tx t) ∧ Sn w' rb sb r bad ∧ Beside rb w2 w' ∧ ((bad = false ∧ Wf.parse x (n + 1) .txt s = some (.mk 116 t 0 [],r)) ∨ (bad = true ∧ Wf.parse x (n + 1) .txt s = none ∧ t.length + r.length ≤ s.length))):=by
    refine hid fun w2 h => ?_
    have hno : Wf.parse x (n + 1) .txt s = none → Calls Tryz.prog 142 #[ptr rb] w2 fun e w' => ∃ t r bad,e = .returned (tx t) ∧ Sn w' rb sb r bad ∧ Beside rb w2 w' ∧ ((bad = false ∧ Wf.parse x (n + 1) .txt s = some (.mk 116 t 0 [],r)) ∨ (bad = true ∧ Wf.parse x (n + 1) .txt s = none ∧ t.length + r.length ≤ s.length)):=fun hp => by
      refine (quote_no rb sb w2 x n s (by omega) h hp).mono ?_
      rintro e w' ⟨t,r,rfl,hl,hsn,hb⟩
      exact ⟨t,r,true,rfl,hsn,hb, .inr ⟨rfl,hp,hl⟩⟩
    by_cases h1 : ∃ r q,s = 39 :: r ∧ r.dropWhile Wf.isTxt = 39 :: q ∧ (r.takeWhile Wf.isTxt).length ≤ 12
    · obtain ⟨r,q,h1,h2,h3⟩:=h1
      refine (quote_yes rb sb w2 s r q (by omega) h h1 h2 h3).mono ?_
      rintro e w' ⟨rfl,hsn,hb⟩
      exact ⟨_,q,false,rfl,hsn,hb, .inl ⟨rfl,Wf.parse_txt_yes x n h1 h2 h3⟩⟩
    · apply hno
      by_cases h39 : s.head? = some 39
      · obtain ⟨r,hr⟩ : ∃ r,s = 39 :: r:=by
          cases s with
          | nil => simp at h39
          | cons a r => simp at h39;exact ⟨r,by rw [h39]⟩
        by_cases h3 : (r.takeWhile Wf.isTxt).length ≤ 12
        · refine Wf.parse_txt_no2 x n hr fun h2 => ?_
          obtain ⟨q,hq⟩ : ∃ q,r.dropWhile Wf.isTxt = 39 :: q:=by
            cases hd : r.dropWhile Wf.isTxt with
            | nil => rw [hd] at h2;simp at h2
            | cons a q => rw [hd] at h2;simp at h2;exact ⟨q,by rw [h2]⟩
          exact h1 ⟨r,q,hr,hq,h3⟩
        · exact Wf.parse_txt_no3 x n hr h3
      · exact Wf.parse_txt_no1 x n h39
  have hrb:=H.lt
  have c2:=H.c2
  have HH:=hid H
  have ST:=hid fun W1 h => start_value w ⟨#[]⟩ ⟨#[116]⟩ ⟨#[]⟩ W1 h
  have HSG:=hid fun w2 => sign_w ⟨#[]⟩ ⟨#[116]⟩ ⟨#[]⟩ 0 (.inl ⟨by rw [ByteArray.toList_eq];rfl,rfl⟩) w2
  have hkv : kV .txt = .agg #[.string ⟨#[]⟩, .string ⟨#[116]⟩, .string ⟨#[]⟩]:=by rfl
  rw [hkv]
  clear H hkv
  go_enter Tryz.func98,Tryz.ntmps98
  go_wp2_with (first | (go_at_call 142;refine (HQ.out _ S1.out).mono ?_;rintro e w3 ⟨t,r,bad,rfl,hs3,hb3,hd⟩;have HD:=hid hd;have S3:=hid hs3;have HB3:=hid (HB1.out.trans hb3);have Z3:=hid (Z1.out.step hb3 (by omega));obtain ⟨zl,zr0,zr1,zr2,zr3,zf0,zf1,zf2,zf3⟩:=Z3.out;clear hs3 hb3 hd) | (go_at_call 122;obtain ⟨d0,d1,d2,z0,b0⟩:=ST.out _ rfl;refine (HSG.out _).mono ?_;rintro e w1 ⟨rfl,hb1⟩;have b01:=below_join b0 hb1;have e1:=(hb1.cell (p:=⟨w.heap.size,1,none⟩) (Nat.lt_of_lt_of_le (Nat.lt_succ_self _) (Nat.le_of_lt z0.lt))).trans d1;have S1:=hid (HH.out.below b01);have c21:=S1.out.c2;have HB1:=hid (Beside.of_below (rb:=rb) b01 (Nat.le_refl _));have Z1:=hid (z0.below hb1 z0.lt);clear hb1 b01 b0 d0 d1 d2 z0))
  all_goals exact bodyPost_ret (v:=.agg #[.int .u8 116,tx t, .int .i64 (0 : Nat), .slice none 0 0]) (by simp [results,Tryz.results98,go_sem, *]) rfl (by
    have hR : ∀ W4,Beside (w.heap.size + 1) w3 W4 → RdOut (Wf.parse x (n + 1) .txt s) s rb sb w (.returned (.agg #[.int .u8 116,tx t, .int .i64 (0 : Nat), .slice none 0 0])) W4:=fun W4 hb => by
      refine ⟨_, .mk 116 t 0 [],r,rfl,VC.leaf 116 t 0 (by omega) (by decide),HB3.out.on hb (by omega), ?_⟩
      have sn:=S3.out.beside hb (by omega)
      rcases HD.out with ⟨rfl,hp⟩ | ⟨rfl,hp,hl⟩
      · exact .inl ⟨hp,sn⟩
      · exact .inr ⟨hp,Wf.bad_txt hl,sn⟩
    refine hR _ ?_
    repeat (first | with_reducible exact Beside.refl _ _ | with_reducible refine Beside.drew ?_ | with_reducible refine Beside.trans ?_ (Beside.set _ _ _ _)))
set_option maxRecDepth 20000 in
set_option maxHeartbeats 1000000 in
theorem value_flag (x : Wf.Sc) (n : Nat) (H : Sn w rb sb s false) : Calls Tryz.prog 98 #[ptr rb,kV .flag] w fun e w' => RdOut (Wf.parse x (n + 1) .flag s) s rb sb w e w':=by
  have hrb:=H.lt
  have c2:=H.c2
  have HH:=hid H
  have ST:=hid fun W1 h => start_value w ⟨#[]⟩ ⟨#[102]⟩ ⟨#[]⟩ W1 h
  have HSG:=hid fun w2 => sign_w ⟨#[]⟩ ⟨#[102]⟩ ⟨#[]⟩ 0 (.inl ⟨by rw [ByteArray.toList_eq];rfl,rfl⟩) w2
  have hkv : kV .flag = .agg #[.string ⟨#[]⟩, .string ⟨#[102]⟩, .string ⟨#[]⟩]:=by rfl
  rw [hkv]
  by_cases hy : [121,101,115] <+: s
  · obtain ⟨q,hq⟩:=hy
    have HP:=hid (show Wf.parse x (n + 1) .flag s = some (.mk 102 [121,101,115] 0 [],q) by rw [← hq];exact Wf.parse_yes x n q)
    have HT:=hid fun w2 (h : Sn w2 rb sb s false) => take_yes rb sb w2 [121,101,115] q (by rw [hq];exact h)
    clear H hkv hq
    go_enter Tryz.func98,Tryz.ntmps98
    go_wp2_with (first | (go_at_call 139;refine (HT.out _ S1.out).mono ?_;rintro e w3 ⟨rfl,hs3,hb3⟩;have S3:=hid hs3;have HB3:=hid (HB1.out.trans hb3);have Z3:=hid (Z1.out.step hb3 (by omega));obtain ⟨zl,zr0,zr1,zr2,zr3,zf0,zf1,zf2,zf3⟩:=Z3.out;clear hs3 hb3) | (go_at_call 122;obtain ⟨d0,d1,d2,z0,b0⟩:=ST.out _ rfl;refine (HSG.out _).mono ?_;rintro e w1 ⟨rfl,hb1⟩;have b01:=below_join b0 hb1;have e1:=(hb1.cell (p:=⟨w.heap.size,1,none⟩) (Nat.lt_of_lt_of_le (Nat.lt_succ_self _) (Nat.le_of_lt z0.lt))).trans d1;have S1:=hid (HH.out.below b01);have HB1:=hid (Beside.of_below (rb:=rb) b01 (Nat.le_refl _));have Z1:=hid (z0.below hb1 z0.lt);clear hb1 b01 b0 d0 d1 d2 z0))
    all_goals exact bodyPost_ret (v:=.agg #[.int .u8 102, .string ⟨#[121,101,115]⟩, .int .i64 (0 : Nat), .slice none 0 0]) (by simp [results,Tryz.results98,go_sem, *]) rfl (by
      have hR : ∀ W4,Beside (w.heap.size + 1) w3 W4 → RdOut (Wf.parse x (n + 1) .flag s) s rb sb w (.returned (.agg #[.int .u8 102, .string ⟨#[121,101,115]⟩, .int .i64 (0 : Nat), .slice none 0 0])) W4:=fun W4 hb => by
        refine ⟨_, .mk 102 [121,101,115] 0 [],q,rfl,VC.leaf 102 [121,101,115] 0 (by omega) (by decide),HB3.out.on hb (by omega), ?_⟩
        have sn:=S3.out.beside hb (by omega)
        exact .inl ⟨HP.out,sn⟩
      refine hR _ ?_
      repeat (first | with_reducible exact Beside.refl _ _ | with_reducible refine Beside.drew ?_ | with_reducible refine Beside.trans ?_ (Beside.set _ _ _ _)))
  · have HT:=hid fun w2 (h : Sn w2 rb sb s false) => take_no rb sb w2 s [121,101,115] false h (.inr hy)
    obtain ⟨r,b,hwant,hp⟩ : ∃ r b,(∀ w2,Sn w2 rb sb s false → Calls Tryz.prog 140 #[ptr rb,tx [110,111]] w2 fun e w' => e = .returned (.tuple #[]) ∧ Sn w' rb sb r b ∧ Beside rb w2 w') ∧ ((b = false ∧ Wf.parse x (n + 1) .flag s = some (.mk 102 [110,111] 0 [],r)) ∨ (b = true ∧ Wf.parse x (n + 1) .flag s = none ∧ r.length ≤ s.length)):=by
      by_cases hn : [110,111] <+: s
      · obtain ⟨q,rfl⟩:=hn
        exact ⟨q,false,fun w2 h => want_yes rb sb w2 [110,111] q h, .inl ⟨rfl,Wf.parse_no x n q⟩⟩
      · exact ⟨s,true,fun w2 h => want_no rb sb w2 s [110,111] false h (.inr hn), .inr ⟨rfl,Wf.parse_flag_none x n hy hn,Nat.le_refl _⟩⟩
    have HWANT:=hid hwant
    have HP:=hid hp
    clear H hkv hy hwant hp
    go_enter Tryz.func98,Tryz.ntmps98
    go_wp2_with (first | (go_at_call 140;refine (HWANT.out _ S1.out).mono ?_;rintro e w3 ⟨rfl,hs3,hb3⟩;have S3:=hid hs3;have HB3:=hid (HB1.out.trans hb3);have Z3:=hid (Z1.out.step hb3 (by omega));obtain ⟨zl,zr0,zr1,zr2,zr3,zf0,zf1,zf2,zf3⟩:=Z3.out;clear hs3 hb3) | (go_at_call 139;refine (HT.out _ S1.out).mono ?_;rintro e w2 ⟨rfl,rfl⟩) | (go_at_call 122;obtain ⟨d0,d1,d2,z0,b0⟩:=ST.out _ rfl;refine (HSG.out _).mono ?_;rintro e w1 ⟨rfl,hb1⟩;have b01:=below_join b0 hb1;have e1:=(hb1.cell (p:=⟨w.heap.size,1,none⟩) (Nat.lt_of_lt_of_le (Nat.lt_succ_self _) (Nat.le_of_lt z0.lt))).trans d1;have S1:=hid (HH.out.below b01);have HB1:=hid (Beside.of_below (rb:=rb) b01 (Nat.le_refl _));have Z1:=hid (z0.below hb1 z0.lt);clear hb1 b01 b0 d0 d1 d2 z0))
    all_goals exact bodyPost_ret (v:=.agg #[.int .u8 102, .string ⟨#[110,111]⟩, .int .i64 (0 : Nat), .slice none 0 0]) (by simp [results,Tryz.results98,go_sem, *]) rfl (by
      have hR : ∀ W4,Beside (w.heap.size + 1) w3 W4 → RdOut (Wf.parse x (n + 1) .flag s) s rb sb w (.returned (.agg #[.int .u8 102, .string ⟨#[110,111]⟩, .int .i64 (0 : Nat), .slice none 0 0])) W4:=fun W4 hb => by
        refine ⟨_, .mk 102 [110,111] 0 [],r,rfl,VC.leaf 102 [110,111] 0 (by omega) (by decide),HB3.out.on hb (by omega), ?_⟩
        have sn:=S3.out.beside hb (by omega)
        rcases HP.out with ⟨rfl,hp⟩ | ⟨rfl,hp,hl⟩
        · exact .inl ⟨hp,sn⟩
        · exact .inr ⟨hp,Wf.bad_flag (by decide) hl,sn⟩
      refine hR _ ?_
      repeat (first | with_reducible exact Beside.refl _ _ | with_reducible refine Beside.drew ?_ | with_reducible refine Beside.trans ?_ (Beside.set _ _ _ _)))
end

set_option maxRecDepth 20000 in
theorem part_w (SG S1 BS NM : ByteArray) (c : UInt8) (h : SG = ⟨(c :: S1.data.toList).toArray⟩) (w : World) : Calls Tryz.prog 138 #[.agg #[.string SG, .string BS, .string NM]] w fun e w' => e = .returned (.agg #[.string S1, .string BS, .string NM]) ∧ Below w.heap.size w w':=by
  have h1 : 1 ≤ SG.size:=by
    rw [h]
    show 1 ≤ (c :: S1.data.toList).toArray.size
    simp
  have h2 : SG.extract 1 SG.size = S1:=by
    apply ByteArray.ext
    rw [ByteArray.data_extract,h]
    show (c :: S1.data.toList).toArray.extract 1 (c :: S1.data.toList).toArray.size = S1.data
    simp
    have hz : S1.size = S1.data.toList.length:=rfl
    rw [hz,List.take_length]
  clear h
  go_enter Tryz.func138,Tryz.ntmps138
  go_wp2_with fail
  exact bodyPost_ret (v:=.agg #[.string S1, .string BS, .string NM]) (by simp [results,Tryz.results138,go_sem, *]) rfl ⟨rfl,((Below.refl _ _).alloc (Nat.le_refl _) _).alloc (by simp) _⟩
theorem part_list (k : Wf.K) (w : World) : Calls Tryz.prog 138 #[kV (.list k)] w fun e w' => e = .returned (kV k) ∧ Below w.heap.size w w' :=
  part_w _ ⟨k.signs.toArray⟩ _ _ 91 rfl w
theorem part_opt (k : Wf.K) (w : World) : Calls Tryz.prog 138 #[kV (.opt k)] w fun e w' => e = .returned (kV k) ∧ Below w.heap.size w w' :=
  part_w _ ⟨k.signs.toArray⟩ _ _ 63 rfl w
set_option maxRecDepth 20000 in
set_option maxHeartbeats 1000000 in
theorem value_list (x : Wf.Sc) (rb sb : Nat) (W : World) (n : Nat) (k : Wf.K) (s : List UInt8) (w : World) (hW : Below W.heap.size W w) (hWr : W.heap.size ≤ rb) (IH : Reads x rb sb W n k) (hn : s.length < n + 1) (h400 : s.length ≤ 400) (H : Sn w rb sb s false) : Calls Tryz.prog 98 #[ptr rb,kV (.list k)] w fun e w' => RdOut (Wf.parse x (n + 1) (.list k) s) s rb sb w e w':=by
  have hrb:=H.lt
  have c2:=H.c2
  have HH:=hid H
  have HW:=hid hW
  have HLS:=hid fun (w2 : World) (hb : Below W.heap.size W w2) (h : Sn w2 rb sb s false) => list_any x rb sb W n k s w2 hb hWr IH hn h400 h
  have HPT:=hid fun w2 => part_list k w2
  have HSG:=hid fun w2 => sign (.list k) w2
  obtain ⟨SG,hSG⟩ : ∃ SG : ByteArray,(⟨(Wf.K.list k).signs.toArray⟩ : ByteArray) = SG:=⟨_,rfl⟩
  obtain ⟨BS,hBS⟩ : ∃ BS : ByteArray,(⟨(Wf.K.list k).base.toArray⟩ : ByteArray) = BS:=⟨_,rfl⟩
  obtain ⟨NM,hNM⟩ : ∃ NM : ByteArray,(⟨(Wf.K.list k).name.toArray⟩ : ByteArray) = NM:=⟨_,rfl⟩
  have hkv : kV (.list k) = .agg #[.string SG, .string BS, .string NM]:=by simp only [kV,tx,hSG,hBS,hNM]
  rw [hkv] at HPT HSG
  rw [hkv]
  have hsn : signN (.list k) = 91:=rfl
  rw [hsn] at HSG
  have ST:=hid fun W1 h => start_value w SG BS NM W1 h
  clear H hW IH hSG hBS hNM hkv hsn
  go_enter Tryz.func98,Tryz.ntmps98
  go_wp2_with (first | (go_at_call 137;refine (HLS.out _ BW2.out S2.out).mono ?_;rintro e w3 ⟨cs,v,r,rfl,hvc,hb3,ho⟩;obtain ⟨q2,g2,n2,c2,T2,a2,rfl⟩:=hvc.cells4;have HVC:=hid hvc;have HO:=hid ho;have HB3:=hid (HB2.out.trans hb3);have Z3:=hid (Z2.out.step hb3 (by omega));obtain ⟨zl,zr0,zr1,zr2,zr3,zf0,zf1,zf2,zf3⟩:=Z3.out;clear hvc ho hb3) | (go_at_call 138;refine (HPT.out _).mono ?_;rintro e w2 ⟨rfl,hb2⟩;have S2:=hid (S1.out.below hb2);have HB2:=hid (HB1.out.trans (Beside.of_below hb2 (Nat.le_refl _)));have Z2:=hid (Z1.out.below hb2 Z1.out.lt);have BW2:=hid (Beside.below HW.out HW.out.size hWr HB2.out);have hsz2:=Nat.lt_of_lt_of_le Z1.out.lt hb2.size;clear hb2) | (go_at_call 122;obtain ⟨d0,d1,d2,z0,b0⟩:=ST.out _ rfl;refine (HSG.out _).mono ?_;rintro e w1 ⟨rfl,hb1⟩;have b01:=below_join b0 hb1;have hz:=Nat.lt_of_lt_of_le (Nat.lt_succ_self _) (Nat.le_of_lt z0.lt);have e0:=(hb1.cell (p:=⟨w.heap.size,0,none⟩) hz).trans d0;have e1:=(hb1.cell (p:=⟨w.heap.size,1,none⟩) hz).trans d1;have e2:=(hb1.cell (p:=⟨w.heap.size,2,none⟩) hz).trans d2;have S1:=hid (HH.out.below b01);have HB1:=hid (Beside.of_below (rb:=rb) b01 (Nat.le_refl _));have Z1:=hid (z0.below hb1 z0.lt);clear hb1 b01 b0 d0 d1 d2 z0 hz))
  all_goals exact bodyPost_ret (v:=.agg #[.int .u8 q2, .string T2, .int .i64 g2, .slice a2 n2 c2]) (by simp [results,Tryz.results98,go_sem, *]) rfl (by
    have hR : ∀ W4,Beside (w.heap.size + 1) w3 W4 → RdOut (Wf.parse x (n + 1) (.list k) s) s rb sb w (.returned (.agg #[.int .u8 q2, .string T2, .int .i64 g2, .slice a2 n2 c2])) W4:=fun W4 hb => by
      refine ⟨[.int .u8 q2, .string T2, .int .i64 g2, .slice a2 n2 c2],v,r,rfl,VC.keep (P:=fun b => w2.heap.size ≤ b) (fun b hp hlt => ⟨by omega,hb.block b hlt (by omega)⟩) hb.size _ _ HVC.out,HB3.out.on hb (by omega), ?_⟩
      rcases HO.out with ⟨hp,sn⟩ | ⟨hp,hbv,sn⟩
      · exact .inl ⟨hp,sn.beside hb (by omega)⟩
      · exact .inr ⟨hp,hbv,sn.beside hb (by omega)⟩
    refine hR _ ?_
    repeat (first | with_reducible exact Beside.refl _ _ | with_reducible refine Beside.drew ?_ | with_reducible refine Beside.trans ?_ (Beside.set _ _ _ _)))
set_option maxRecDepth 20000 in
set_option maxHeartbeats 1000000 in
theorem value_opt_none (x : Wf.Sc) (rb sb : Nat) (n : Nat) (k : Wf.K) (q : List UInt8) (w : World) (H : Sn w rb sb (45 :: q) false) : Calls Tryz.prog 98 #[ptr rb,kV (.opt k)] w fun e w' => RdOut (Wf.parse x (n + 1) (.opt k) (45 :: q)) (45 :: q) rb sb w e w':=by
  have hrb:=H.lt
  have c2:=H.c2
  have HH:=hid H
  have HP:=hid (Wf.parse_opt_none x n k q)
  have HSG:=hid fun w2 => sign (.opt k) w2
  obtain ⟨SG,hSG⟩ : ∃ SG : ByteArray,(⟨(Wf.K.opt k).signs.toArray⟩ : ByteArray) = SG:=⟨_,rfl⟩
  obtain ⟨BS,hBS⟩ : ∃ BS : ByteArray,(⟨(Wf.K.opt k).base.toArray⟩ : ByteArray) = BS:=⟨_,rfl⟩
  obtain ⟨NM,hNM⟩ : ∃ NM : ByteArray,(⟨(Wf.K.opt k).name.toArray⟩ : ByteArray) = NM:=⟨_,rfl⟩
  have hkv : kV (.opt k) = .agg #[.string SG, .string BS, .string NM]:=by simp only [kV,tx,hSG,hBS,hNM]
  rw [hkv] at HSG
  rw [hkv]
  have hsn : signN (.opt k) = 63:=rfl
  rw [hsn] at HSG
  have ST:=hid fun W1 h => start_value w SG BS NM W1 h
  clear H hSG hBS hNM hkv hsn
  go_enter Tryz.func98,Tryz.ntmps98
  go_wp2_with (first | (go_at_call 139;refine (take_yes rb sb _ [45] q S1.out).mono ?_;rintro e w3 ⟨rfl,hs3,hb3⟩;have S3:=hid hs3;have HB3:=hid (HB1.out.trans hb3);have Z3:=hid (Z1.out.step hb3 (by omega));obtain ⟨zl,zr0,zr1,zr2,zr3,zf0,zf1,zf2,zf3⟩:=Z3.out;clear hs3 hb3) | (go_at_call 122;obtain ⟨d0,d1,d2,z0,b0⟩:=ST.out _ rfl;refine (HSG.out _).mono ?_;rintro e w1 ⟨rfl,hb1⟩;have b01:=below_join b0 hb1;have S1:=hid (HH.out.below b01);have HB1:=hid (Beside.of_below (rb:=rb) b01 (Nat.le_refl _));have Z1:=hid (z0.below hb1 z0.lt);clear hb1 b01 b0 d0 d1 d2 z0))
  all_goals exact bodyPost_ret (v:=.agg #[.int .u8 63, .string ⟨#[]⟩, .int .i64 (0 : Nat), .slice none 0 0]) (by simp [results,Tryz.results98,go_sem, *]) rfl (by
    have hR : ∀ W4,Beside (w.heap.size + 1) w3 W4 → RdOut (Wf.parse x (n + 1) (.opt k) (45 :: q)) (45 :: q) rb sb w (.returned (.agg #[.int .u8 63, .string ⟨#[]⟩, .int .i64 (0 : Nat), .slice none 0 0])) W4:=fun W4 hb =>
      ⟨_, .mk 63 [] 0 [],q,rfl,VC.leaf 63 [] 0 (by omega) (by decide),HB3.out.on hb (by omega), .inl ⟨HP.out,S3.out.beside hb (by omega)⟩⟩
    refine hR _ ?_
    repeat (first | with_reducible exact Beside.refl _ _ | with_reducible refine Beside.drew ?_ | with_reducible refine Beside.trans ?_ (Beside.set _ _ _ _)))
set_option maxRecDepth 20000 in
set_option maxHeartbeats 1000000 in
theorem value_opt_some (x : Wf.Sc) (rb sb : Nat) (W : World) (n : Nat) (k : Wf.K) (r : List UInt8) (w : World) (hW : Below W.heap.size W w) (hWr : W.heap.size ≤ rb) (IH : Reads x rb sb W n k) (hn : r.length < n) (h400 : r.length ≤ 400) (H : Sn w rb sb (43 :: r) false) : Calls Tryz.prog 98 #[ptr rb,kV (.opt k)] w fun e w' => RdOut (Wf.parse x (n + 1) (.opt k) (43 :: r)) (43 :: r) rb sb w e w':=by
  have hrb:=H.lt
  have c2:=H.c2
  have HH:=hid H
  have HW:=hid hW
  have HP:=hid (Wf.parse_opt_some x n k r)
  have HIH:=hid IH
  have HPT:=hid fun w2 => part_opt k w2
  have HSG:=hid fun w2 => sign (.opt k) w2
  obtain ⟨SG,hSG⟩ : ∃ SG : ByteArray,(⟨(Wf.K.opt k).signs.toArray⟩ : ByteArray) = SG:=⟨_,rfl⟩
  obtain ⟨BS,hBS⟩ : ∃ BS : ByteArray,(⟨(Wf.K.opt k).base.toArray⟩ : ByteArray) = BS:=⟨_,rfl⟩
  obtain ⟨NM,hNM⟩ : ∃ NM : ByteArray,(⟨(Wf.K.opt k).name.toArray⟩ : ByteArray) = NM:=⟨_,rfl⟩
  have hkv : kV (.opt k) = .agg #[.string SG, .string BS, .string NM]:=by simp only [kV,tx,hSG,hBS,hNM]
  rw [hkv] at HSG HPT
  rw [hkv]
  have hsn : signN (.opt k) = 63:=rfl
  rw [hsn] at HSG
  have ST:=hid fun W1 h => start_value w SG BS NM W1 h
  clear H hW IH hSG hBS hNM hkv hsn
  go_enter Tryz.func98,Tryz.ntmps98
  go_wp2_with (first | (go_at_call 98;refine (HIH.out r _ BW4.out S4.out hn h400).mono ?_;rintro e w5 ⟨cs,v,r5,rfl,hvc,hb5,ho⟩;obtain ⟨q2,g2,n2,c2,T2,a2,rfl⟩:=hvc.cells4;have HVC:=hid hvc;have HO:=hid ho;have HB5:=hid (HB4.out.trans hb5);have Z5:=hid (Z4.out.step hb5 (by omega));obtain ⟨zl,zr0,zr1,zr2,zr3,zf0,zf1,zf2,zf3⟩:=Z5.out;clear hvc ho hb5) | (go_at_call 138;refine (HPT.out _).mono ?_;rintro e w4 ⟨rfl,hb4⟩;have S4:=hid (S3.out.below hb4);have HB4:=hid (HB3.out.trans (Beside.of_below hb4 (Nat.le_refl _)));have Z4:=hid (Z3.out.below hb4 Z3.out.lt);have hz4:=Z4.out.lt;have BW4:=hid (Beside.below HW.out HW.out.size hWr HB4.out);clear hb4) | (go_at_call 140;refine (want_yes rb sb _ [43] r S1.out).mono ?_;rintro e w3 ⟨rfl,hs3,hb3⟩;have S3:=hid hs3;have HB3:=hid (HB1.out.trans hb3);have Z3:=hid (Z1.out.step hb3 (by omega));have k0:=(hb3.cell (p:=⟨w.heap.size,0,none⟩) hz (by show w.heap.size ≠ rb;omega)).trans e0;have k1:=(hb3.cell (p:=⟨w.heap.size,1,none⟩) hz (by show w.heap.size ≠ rb;omega)).trans e1;have k2:=(hb3.cell (p:=⟨w.heap.size,2,none⟩) hz (by show w.heap.size ≠ rb;omega)).trans e2;clear hs3 hb3) | (go_at_call 139;refine (take_no rb sb _ (43 :: r) [45] false S1.out (.inr (by rw [pre1];simp))).mono ?_;rintro e w2 ⟨rfl,rfl⟩) | (go_at_call 122;obtain ⟨d0,d1,d2,z0,b0⟩:=ST.out _ rfl;refine (HSG.out _).mono ?_;rintro e w1 ⟨rfl,hb1⟩;have b01:=below_join b0 hb1;have hz:=Nat.lt_of_lt_of_le (Nat.lt_succ_self _) (Nat.le_of_lt z0.lt);have e0:=(hb1.cell (p:=⟨w.heap.size,0,none⟩) hz).trans d0;have e1:=(hb1.cell (p:=⟨w.heap.size,1,none⟩) hz).trans d1;have e2:=(hb1.cell (p:=⟨w.heap.size,2,none⟩) hz).trans d2;have S1:=hid (HH.out.below b01);have HB1:=hid (Beside.of_below (rb:=rb) b01 (Nat.le_refl _));have Z1:=hid (z0.below hb1 z0.lt);have hz:=Nat.lt_of_lt_of_le hz hb1.size;clear hb1 b01 b0 d0 d1 d2 z0))
  all_goals exact bodyPost_ret (v:=.agg #[.int .u8 63, .string ⟨#[]⟩, .int .i64 (0 : Nat), .slice (some ⟨w5.heap.size,0,none⟩) 1 1]) (by simp [results,Tryz.results98,go_sem, *]) rfl (by
    have hR : ∀ W4,Beside (w.heap.size + 1) w5 W4 → w5.heap.size < W4.heap.size → (∀ j u,[Value.int .u8 q2,Value.string T2,Value.int .i64 g2,Value.slice a2 n2 c2][j]? = some u → W4.cell? ⟨w5.heap.size,0 + j,none⟩ = some u) → RdOut (Wf.parse x (n + 1) (.opt k) (43 :: r)) (43 :: r) rb sb w (.returned (.agg #[.int .u8 63, .string ⟨#[]⟩, .int .i64 (0 : Nat), .slice (some ⟨w5.heap.size,0,none⟩) 1 1])) W4:=fun W4 hb hl hc => by
      refine ⟨_, .mk 63 [] 0 [v],r5,rfl,VC.one (VC.keep (P:=fun b => w4.heap.size ≤ b) (fun b hp hlt => ⟨by omega,hb.block b hlt (by omega)⟩) hb.size _ _ HVC.out) (by omega) hl hc 63 [] 0 ⟨by omega,fun _ => .inr (.inl rfl),fun h => absurd h (by decide)⟩,HB5.out.on hb (by omega), ?_⟩
      rcases HO.out with ⟨hp,sn⟩ | ⟨hp,hbv,sn⟩
      · exact .inl ⟨by rw [HP.out,hp];rfl,sn.beside hb (by omega)⟩
      · exact .inr ⟨by rw [HP.out,hp];rfl,Wf.bad_opt rfl hbv,sn.beside hb (by omega)⟩
    refine hR _ ?_ ?_ ?_
    · repeat (first | with_reducible exact Beside.refl _ _ | with_reducible refine Beside.drew ?_ | with_reducible refine Beside.alloc ?_ _ | with_reducible refine Beside.trans ?_ (Beside.set _ _ _ _))
    · simp
    · intro j u hu
      rcases j with _ | _ | _ | _ | j <;> simp at hu <;> subst hu <;> simp [go_sem])
set_option maxRecDepth 20000 in
set_option maxHeartbeats 1000000 in
theorem value_opt_no (x : Wf.Sc) (rb sb : Nat) (W : World) (n : Nat) (k : Wf.K) (r : List UInt8) (w : World) (h1 : r.head? ≠ some 45) (h2 : r.head? ≠ some 43) (hW : Below W.heap.size W w) (hWr : W.heap.size ≤ rb) (H : Sn w rb sb r false) : Calls Tryz.prog 98 #[ptr rb,kV (.opt k)] w fun e w' => RdOut (Wf.parse x (n + 1) (.opt k) r) r rb sb w e w':=by
  have hrb:=H.lt
  have c2:=H.c2
  have HH:=hid H
  have HW:=hid hW
  have HP:=hid (Wf.parse_opt_no x n k h1 h2)
  have HY:=hid (And.intro (fun hp => h1 ((pre1 45 r).1 hp)) (fun hp => h2 ((pre1 43 r).1 hp)))
  have HPT:=hid fun w2 => part_opt k w2
  have HSG:=hid fun w2 => sign (.opt k) w2
  obtain ⟨SG,hSG⟩ : ∃ SG : ByteArray,(⟨(Wf.K.opt k).signs.toArray⟩ : ByteArray) = SG:=⟨_,rfl⟩
  obtain ⟨BS,hBS⟩ : ∃ BS : ByteArray,(⟨(Wf.K.opt k).base.toArray⟩ : ByteArray) = BS:=⟨_,rfl⟩
  obtain ⟨NM,hNM⟩ : ∃ NM : ByteArray,(⟨(Wf.K.opt k).name.toArray⟩ : ByteArray) = NM:=⟨_,rfl⟩
  have hkv : kV (.opt k) = .agg #[.string SG, .string BS, .string NM]:=by simp only [kV,tx,hSG,hBS,hNM]
  rw [hkv] at HSG HPT
  rw [hkv]
  have hsn : signN (.opt k) = 63:=rfl
  rw [hsn] at HSG
  have ST:=hid fun W1 h => start_value w SG BS NM W1 h
  clear H hW h1 h2 hSG hBS hNM hkv hsn
  go_enter Tryz.func98,Tryz.ntmps98
  go_wp2_with (first | (go_at_call 98;refine (value_bad rb sb r _ k S4.out).mono ?_;rintro e w5 ⟨rfl,hb5,ho⟩;have HO:=hid ho;have HB5:=hid (HB4.out.trans hb5);have Z5:=hid (Z4.out.step hb5 (by omega));obtain ⟨zl,zr0,zr1,zr2,zr3,zf0,zf1,zf2,zf3⟩:=Z5.out;clear ho hb5) | (go_at_call 138;refine (HPT.out _).mono ?_;rintro e w4 ⟨rfl,hb4⟩;have S4:=hid (S3.out.below hb4);have HB4:=hid (HB3.out.trans (Beside.of_below hb4 (Nat.le_refl _)));have Z4:=hid (Z3.out.below hb4 Z3.out.lt);have hz4:=Z4.out.lt;have BW4:=hid (Beside.below HW.out HW.out.size hWr HB4.out);clear hb4) | (go_at_call 140;refine (want_no rb sb _ r [43] false S1.out (.inr HY.out.2)).mono ?_;rintro e w3 ⟨rfl,hs3,hb3⟩;have S3:=hid hs3;have HB3:=hid (HB1.out.trans hb3);have Z3:=hid (Z1.out.step hb3 (by omega));have k0:=(hb3.cell (p:=⟨w.heap.size,0,none⟩) hz (by show w.heap.size ≠ rb;omega)).trans e0;have k1:=(hb3.cell (p:=⟨w.heap.size,1,none⟩) hz (by show w.heap.size ≠ rb;omega)).trans e1;have k2:=(hb3.cell (p:=⟨w.heap.size,2,none⟩) hz (by show w.heap.size ≠ rb;omega)).trans e2;clear hs3 hb3) | (go_at_call 139;refine (take_no rb sb _ r [45] false S1.out (.inr HY.out.1)).mono ?_;rintro e w2 ⟨rfl,rfl⟩) | (go_at_call 122;obtain ⟨d0,d1,d2,z0,b0⟩:=ST.out _ rfl;refine (HSG.out _).mono ?_;rintro e w1 ⟨rfl,hb1⟩;have b01:=below_join b0 hb1;have hz:=Nat.lt_of_lt_of_le (Nat.lt_succ_self _) (Nat.le_of_lt z0.lt);have e0:=(hb1.cell (p:=⟨w.heap.size,0,none⟩) hz).trans d0;have e1:=(hb1.cell (p:=⟨w.heap.size,1,none⟩) hz).trans d1;have e2:=(hb1.cell (p:=⟨w.heap.size,2,none⟩) hz).trans d2;have S1:=hid (HH.out.below b01);have HB1:=hid (Beside.of_below (rb:=rb) b01 (Nat.le_refl _));have Z1:=hid (z0.below hb1 z0.lt);have hz:=Nat.lt_of_lt_of_le hz hb1.size;clear hb1 b01 b0 d0 d1 d2 z0))
  all_goals exact bodyPost_ret (v:=.agg #[.int .u8 63, .string ⟨#[]⟩, .int .i64 (0 : Nat), .slice (some ⟨w5.heap.size,0,none⟩) 1 1]) (by simp [results,Tryz.results98,go_sem, *]) rfl (by
    have hR : ∀ W4,Beside (w.heap.size + 1) w5 W4 → w5.heap.size < W4.heap.size → (∀ j u,[Value.int .u8 0,Value.string ⟨#[]⟩,Value.int .i64 (0 : Nat),Value.slice none 0 0][j]? = some u → W4.cell? ⟨w5.heap.size,0 + j,none⟩ = some u) → RdOut (Wf.parse x (n + 1) (.opt k) r) r rb sb w (.returned (.agg #[.int .u8 63, .string ⟨#[]⟩, .int .i64 (0 : Nat), .slice (some ⟨w5.heap.size,0,none⟩) 1 1])) W4:=fun W4 hb hl hc => by
      exact ⟨_, .mk 63 [] 0 [.mk 0 [] 0 []],r,rfl,VC.one (VC.leaf 0 [] 0 (by omega) (by decide)) (by omega) hl hc 63 [] 0 ⟨by omega,fun _ => .inr (.inl rfl),fun h => absurd h (by decide)⟩,HB5.out.on hb (by omega), .inr ⟨HP.out,Wf.bad_opt0,HO.out.beside hb (by omega)⟩⟩
    refine hR _ ?_ ?_ ?_
    · repeat (first | with_reducible exact Beside.refl _ _ | with_reducible refine Beside.drew ?_ | with_reducible refine Beside.alloc ?_ _ | with_reducible refine Beside.trans ?_ (Beside.set _ _ _ _))
    · simp
    · intro j u hu
      rcases j with _ | _ | _ | _ | j <;> simp at hu <;> subst hu <;> simp [go_sem])

theorem start_rec (w : World) (rb q : Nat) (W1 : World) (hW1 : (w.alloc (.cells #[.int .u8 0, .string ⟨#[]⟩, .int .i64 0, .slice none 0 0] 92)).alloc (.cells #[.int .u8 q, .string ⟨#[]⟩, .int .i64 0, .slice none 0 0] 92) = W1) :
    Zero W1 w.heap.size ∧ Bld w W1 rb (w.heap.size + 1) (w.heap.size + 1 + 1) q none 0 [] [] ∧ Below w.heap.size w W1:=by
  have hB : Below w.heap.size w W1:=by
    rw [← hW1]
    exact (((Below.refl _ _).alloc (Nat.le_refl _) _).alloc (by simp) _)
  subst hW1
  refine ⟨⟨?_, ?_, ?_, ?_, ?_, ?_, ?_, ?_, ?_⟩,⟨Beside.of_below hB (Nat.le_refl _), ?_, ?_, ?_, ?_, ?_, ?_, ?_, ?_,World.ownsRow_nil _ _ _ _, ?_,rfl, ?_⟩,hB⟩
  all_goals first | (simp [go_sem];done) | (simp [go_sem];omega) | omega | (intro e he;simp at he) | (intro i h1;simp at h1)
section
variable (x : Wf.Sc) (rb sb : Nat) (W : World) (n : Nat) (t : Wf.Ty) (nm : List UInt8) (s : List UInt8) (w : World)
set_option maxRecDepth 20000 in
set_option maxHeartbeats 1000000 in
theorem rec_no (hf : x.find nm = some t) (lo tb : Nat) (hW : Below W.heap.size W w) (hT : TyL W lo tb t) (h82 : t.sort = 82) (H : Sn w rb sb s false) (h : s.head? ≠ some 123) : Calls Tryz.prog 143 #[ptr rb,ptr tb] w fun e w' => RdOut (Wf.parse x (n + 1) (.ref nm) s) s rb sb w e w':=by
  have HP:=hid (Wf.parse_rec_no x n hf h82 h)
  obtain ⟨htb,c0⟩:=hT.sort
  rw [h82] at c0
  have y0 : w.cell? ⟨tb,0,none⟩ = some (.int .u8 82):=(hW.cell (p:=⟨tb,0,none⟩) htb).trans c0
  have htw : tb < w.heap.size:=Nat.lt_of_lt_of_le htb hW.size
  have htw1 : tb < w.heap.size + 1:=by omega
  have hrb:=H.lt
  have HH:=hid H
  have HN:=hid fun hp => h ((pre1 123 s).1 hp)
  have ST:=hid fun W1 h => start_rec w rb 82 W1 h
  clear H h hW hT c0 h82 hf
  go_enter Tryz.func143,Tryz.ntmps143
  go_wp2_with (first | (go_at_call 139;have _u:=hS1;refine (take_no rb sb _ s [125] true hS1.out (.inl rfl)).mono ?_;rintro e w2 ⟨rfl,rfl⟩) | (go_at_call 140;obtain ⟨z0,bl0,b0⟩:=ST.out _ rfl;refine (want_no rb sb _ s [123] false (HH.out.below b0) (.inr HN.out)).mono ?_;rintro e w1 ⟨rfl,hs1,hb1⟩;have Z1:=hid (z0.step hb1 (by omega));have BL:=hid (bl0.step hrb hb1);have hS1:=hid hs1;have HB1:=hid ((Beside.of_below b0 (Nat.le_refl _)).trans hb1);have cb2:=hs1.c2;have hbl:=hs1.lt;clear z0 bl0 b0 hs1 hb1))
  go_loopw [8] (fun s8 wr => wr = w1) (fun _ _ => 0)
  case atStart => rfl
  case round =>
    subst hrel
    go_wp2_with (go_at_call 140;refine (want_no rb sb _ s [125] true hS1.out (.inl rfl)).mono ?_;rintro e w3 ⟨rfl,hs3,hb3⟩;have hS3:=hid hs3;have HB3:=hid (HB1.out.trans hb3);have Z3:=hid (Z1.out.step hb3 (by omega));have BL3:=hid (BL.out.step hrb hb3);clear hs3 hb3;have v0:=BL3.out.v0;have v1:=BL3.out.v1;have v2:=BL3.out.v2;have v3:=BL3.out.v3;obtain ⟨zl,zr0,zr1,zr2,zr3,zf0,zf1,zf2,zf3⟩:=Z3.out;have hvl : w.heap.size + 1 < w3.heap.size:=(by have:=BL3.out.sz;omega))
    exact bodyPost_ret (v:=.agg #[.int .u8 82, .string ⟨#[]⟩, .int .i64 0, .slice none 0 0]) (by simp [results,Tryz.results143,go_sem, *]) rfl (by
      have hB4 : ∀ W4,Beside w.heap.size w3 W4 → RdOut (Wf.parse x (n + 1) (.ref nm) s) s rb sb w (.returned (.agg #[.int .u8 82, .string ⟨#[]⟩, .int .i64 0, .slice none 0 0])) W4:=fun W4 hb => by
        refine ⟨_, .mk 82 [] 0 [],s,rfl,VC.leaf 82 [] 0 (by omega) (by decide),HB3.out.on hb (Nat.le_refl _), .inr ⟨HP.out,Wf.bad_row0 (.inr rfl) (Nat.le_refl _),hS3.out.beside hb (by omega)⟩⟩
      refine hB4 _ ?_
      repeat (first | with_reducible exact Beside.refl _ _ | with_reducible refine Beside.drew ?_ | with_reducible refine Beside.trans ?_ (Beside.set _ _ _ _)))
set_option maxRecDepth 20000 in
set_option maxHeartbeats 1000000 in
theorem rec_nil (q : List UInt8) (hf : x.find nm = some t) (lo tb : Nat) (hW : Below W.heap.size W w) (hT : TyL W lo tb t) (h82 : t.sort = 82) (H : Sn w rb sb (123 :: 125 :: q) false) : Calls Tryz.prog 143 #[ptr rb,ptr tb] w fun e w' => RdOut (Wf.parse x (n + 1) (.ref nm) (123 :: 125 :: q)) (123 :: 125 :: q) rb sb w e w':=by
  have HP:=hid (Wf.parse_rec_nil x n hf h82 q)
  obtain ⟨htb,c0⟩:=hT.sort
  rw [h82] at c0
  have y0 : w.cell? ⟨tb,0,none⟩ = some (.int .u8 82):=(hW.cell (p:=⟨tb,0,none⟩) htb).trans c0
  have htw : tb < w.heap.size:=Nat.lt_of_lt_of_le htb hW.size
  have htw1 : tb < w.heap.size + 1:=by omega
  have hrb:=H.lt
  have HH:=hid H
  have ST:=hid fun W1 h => start_rec w rb 82 W1 h
  clear H hW hT c0 h82 hf
  go_enter Tryz.func143,Tryz.ntmps143
  go_wp2_with (first | (go_at_call 139;have _u:=hS1;refine (take_yes rb sb _ [125] q hS1.out).mono ?_;rintro e w3 ⟨rfl,hs3,hb3⟩;have hS3:=hid hs3;have HB3:=hid (HB1.out.trans hb3);have Z3:=hid (Z1.out.step hb3 (by omega));have BL3:=hid (BL.out.step hrb hb3);clear hs3 hb3;have v0:=BL3.out.v0;have v1:=BL3.out.v1;have v2:=BL3.out.v2;have v3:=BL3.out.v3;obtain ⟨zl,zr0,zr1,zr2,zr3,zf0,zf1,zf2,zf3⟩:=Z3.out;have hvl : w.heap.size + 1 < w3.heap.size:=(by have:=BL3.out.sz;omega)) | (go_at_call 140;obtain ⟨z0,bl0,b0⟩:=ST.out _ rfl;refine (want_yes rb sb _ [123] (125 :: q) (HH.out.below b0)).mono ?_;rintro e w1 ⟨rfl,hs1,hb1⟩;have Z1:=hid (z0.step hb1 (by omega));have BL:=hid (bl0.step hrb hb1);have hS1:=hid hs1;have HB1:=hid ((Beside.of_below b0 (Nat.le_refl _)).trans hb1);have cb2:=hs1.c2;have hbl:=hs1.lt;clear z0 bl0 b0 hs1 hb1))
  all_goals exact bodyPost_ret (v:=.agg #[.int .u8 82, .string ⟨#[]⟩, .int .i64 0, .slice none 0 0]) (by simp [results,Tryz.results143,go_sem, *]) rfl (by
      have hB4 : ∀ W4,Beside w.heap.size w3 W4 → RdOut (Wf.parse x (n + 1) (.ref nm) (123 :: 125 :: q)) (123 :: 125 :: q) rb sb w (.returned (.agg #[.int .u8 82, .string ⟨#[]⟩, .int .i64 0, .slice none 0 0])) W4:=fun W4 hb => by
        refine ⟨_, .mk 82 [] 0 [],q,rfl,VC.leaf 82 [] 0 (by omega) (by decide),HB3.out.on hb (Nat.le_refl _), .inl ⟨HP.out,hS3.out.beside hb (by omega)⟩⟩
      refine hB4 _ ?_
      repeat (first | with_reducible exact Beside.refl _ _ | with_reducible refine Beside.drew ?_ | with_reducible refine Beside.trans ?_ (Beside.set _ _ _ _)))
end
end Go.Proofs.YtmdacedmjbiekaaGreatDoor
