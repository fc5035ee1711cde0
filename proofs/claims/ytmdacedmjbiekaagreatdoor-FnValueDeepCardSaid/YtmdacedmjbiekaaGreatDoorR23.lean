/- Packed by pack.py: Ja Jb Jc Jd. -/
import Derived.Test.YtmdacedmjbiekaaGreatDoorR22
import Derived.Test.YtmdacedmjbiekaaGreatDoorR17
import Derived.Deep.RegionHeld3
namespace Go.Proofs.YtmdacedmjbiekaaGreatDoor
open Go.ChangeShapes Go.WideShapes Go.ChangeAt Go.RowKit Go.Lib
set_option linter.unusedVariables false
set_option linter.unusedSimpArgs false
def signN : Wf.K → Nat
  | .list _ => 91
  | .opt _ => 63
  | _ => 0
set_option maxRecDepth 20000 in
theorem sign_w (SG BS NM : ByteArray) (q : Nat) (h : (SG.toList.isEmpty = true ∧ q = 0) ∨ (SG.toList.isEmpty = false ∧ 0 < SG.size ∧ ∀ h,(SG[0]'h).toNat = q)) (w : World) : Calls Tryz.prog 122 #[.agg #[.string SG, .string BS, .string NM]] w fun e w' => e = .returned (.int .u8 q) ∧ Below w.heap.size w w':=by
  rcases h with ⟨h1,rfl⟩ | ⟨h1,h0,h2⟩
  · go_enter Tryz.func122,Tryz.ntmps122
    go_wp2_with fail
    go_ret
    exact ⟨rfl,(Below.refl _ _).alloc (Nat.le_refl _) _⟩
  · have h3:=h2 h0
    clear h2
    go_enter Tryz.func122,Tryz.ntmps122
    go_wp2_with fail
    go_ret
    exact ⟨by simp [h3],(Below.refl _ _).alloc (Nat.le_refl _) _⟩
theorem sign (k : Wf.K) (w : World) : Calls Tryz.prog 122 #[kV k] w fun e w' => e = .returned (.int .u8 (signN k)) ∧ Below w.heap.size w w':=by
  refine sign_w _ _ _ _ ?_ w
  cases k with
  | list k => exact .inr ⟨by rw [ByteArray.toList_eq];rfl,(get0 (s:=⟨(Wf.K.list k).signs.toArray⟩) (c:=91) (r:=k.signs) rfl)⟩
  | opt k => exact .inr ⟨by rw [ByteArray.toList_eq];rfl,(get0 (s:=⟨(Wf.K.opt k).signs.toArray⟩) (c:=63) (r:=k.signs) rfl)⟩
  | _ => exact .inl ⟨by rw [ByteArray.toList_eq];rfl,rfl⟩

def FdAt (w : World) (fb o : Nat) (sort : UInt8) (f : Wf.Fd) : Prop:=fb < w.heap.size ∧ ∀ j u,(fdC sort f)[j]? = some u → w.cell? ⟨fb,o + j,none⟩ = some u
theorem FdAt.below {w w' : World} {fb o : Nat} {sort : UInt8} {f : Wf.Fd} (h : FdAt w fb o sort f) (hb : Below w.heap.size w w') : FdAt w' fb o sort f:=⟨Nat.lt_of_lt_of_le h.1 hb.size,fun j u hu => (hb.cell (p:=⟨fb,o + j,none⟩) h.1).trans (h.2 j u hu)⟩
theorem TyL.row {w : World} {lo b : Nat} {t : Wf.Ty} (h : TyL w lo b t) : ∃ fb a c,b < w.heap.size ∧ w.cell? ⟨b,2,none⟩ = some (.slice a t.fields.length c) ∧ t.fields.length ≤ c ∧ c ≤ maxLen ∧ ∀ i (hi : i < t.fields.length),∃ o,a = some ⟨fb,o,none⟩ ∧ FdAt w fb (o + i * 6) t.sort t.fields[i]:=by
  obtain ⟨fb,a,c,line,_,_,hb,_,_,c2,_,hr⟩:=h
  have hl : t.fields.length ≤ c ∧ c ≤ maxLen:=by
    obtain ⟨a',cap',e1,e2,e3,_⟩:=hr
    simp only [Value.slice.injEq] at e1
    rw [List.length_map] at e2
    omega
  refine ⟨fb,a,c,hb,c2,hl.1,hl.2,fun i hi => ?_⟩
  obtain ⟨o,ha,hfb,_,_,hcell⟩:=hr.get (i:=i) (by rw [List.length_map];exact hi)
  have e0 : (t.fields.map (fdC t.sort))[i]'(by rw [List.length_map];exact hi) = fdC t.sort t.fields[i]:=by rw [List.getElem_map]
  rw [e0] at hcell
  refine ⟨o,ha,hfb,fun j u hu => hcell j u ?_ hu⟩
  have:=(List.getElem?_eq_some_iff.1 hu).1
  rw [fdC_len] at this
  exact this
def FieldOut (W : World) (t : Wf.Ty) (g : Int) (e : Ending) : Prop:=match fieldI t g with
  | some f => ∃ fb o,e = .returned (.pointer (some ⟨fb,o,none⟩)) ∧ FdAt W fb o t.sort f
  | none => e = .returned (.pointer none)
set_option maxRecDepth 20000 in
set_option maxHeartbeats 1000000 in
theorem field (t : Wf.Ty) (ht : t.fields.length ≤ 1000) (g : Int) (lo tb : Nat) (W w : World) (hW : Below W.heap.size W w) (hT : TyL W lo tb t) : Calls Tryz.prog 46 #[ptr tb, .int .i64 g] w fun e w' => FieldOut W t g e ∧ w = w':=by
  obtain ⟨fb,a,c,hb,c2,hnc,hcm,hrow⟩:=hT.row
  have HROW:=hid hrow
  obtain ⟨n,hn⟩ : ∃ n,t.fields.length = n:=⟨_,rfl⟩
  have HN:=hid hn
  rw [hn] at ht c2 hnc
  have y2:=(hW.cell (p:=⟨tb,2,none⟩) hb).trans c2
  have HW:=hid hW
  clear hrow hn c2 hT
  go_enter Tryz.func46,Tryz.ntmps46
  go_wp2_with fail
  go_loop [11] (fun v => ∃ k : Nat,k ≤ n ∧ v = .int .i64 k ∧ Hid (∀ j (hj : j < t.fields.length),j < k → ((t.fields[j]).tag : Int) ≠ g)) (fun v => n - (RowKit.intOf v).toNat)
  case atStart => exact ⟨0,Nat.zero_le _,rfl,hid fun j hj h => by omega⟩
  case round =>
    obtain ⟨k,hk,rfl,hno⟩:=hrel
    by_cases hlt : k < n
    · have hkx : k < t.fields.length:=by rw [HN.out];exact hlt
      obtain ⟨o,rfl,hfd⟩:=HROW.out k hkx
      have HFD:=hid hfd
      have e0 : (fdC t.sort t.fields[k])[0]? = some (.int .i64 (t.fields[k]).tag):=by
        obtain ⟨_,_,_,_,h⟩:=fdC_form t.sort t.fields[k]
        rw [h];rfl
      have z0 : w.cell? ⟨fb,o + k * 6,none⟩ = some (.int .i64 (t.fields[k]).tag):=(HW.out.cell (p:=⟨fb,o + k * 6,none⟩) hfd.1).trans (hfd.2 0 _ e0)
      obtain ⟨G,hG⟩ : ∃ G,(t.fields[k]).tag = G:=⟨_,rfl⟩
      rw [hG] at z0
      have HG:=hid hG
      clear hfd e0 hG
      cases hq : ((G : Int) == g) with
      | true =>
        have HF:=hid (show fieldI t g = some t.fields[k] from fieldI_at hkx hno.out (by rw [HG.out];simpa using hq))
        have hge : (G : Int) = g:=by simpa using hq
        subst hge
        clear hq
        go_wp2_with fail
        go_ret
        exact ⟨by unfold FieldOut;rw [HF.out];exact ⟨fb,o + k * 6,rfl,HFD.out⟩,rfl⟩
      | false =>
        have hne : Hid ((G : Int) ≠ g):=hid (by simpa using hq)
        go_wp2_with fail
        go_round
        case rel => exact ⟨k + 1,by omega,by go_num,hid fun j hj hjk => by
          by_cases hj2 : j = k
          · subst hj2;rw [HG.out];exact hne.out
          · exact hno.out j hj (by omega)⟩
        case measure => simp [RowKit.intOf];omega
    · have hkn : k = n:=by omega
      subst hkn
      have HF:=hid (show fieldI t g = none from fieldI_not fun j hj => hno.out j hj (by rw [← HN.out];exact hj))
      go_wp2_with fail
      go_ret
      exact ⟨by unfold FieldOut;rw [HF.out];rfl,rfl⟩

section
variable (sb : Nat) (SG BS NM : ByteArray) (w : World)
set_option maxRecDepth 20000 in
theorem st_sign (q : Nat) (hq : q = 91 ∨ q = 63) (hs : ∀ wz,Calls Tryz.prog 122 #[.agg #[.string SG, .string BS, .string NM]] wz fun e w' => e = .returned (.int .u8 q) ∧ Below wz.heap.size wz w') : Calls Tryz.prog 84 #[ptr sb, .agg #[.string SG, .string BS, .string NM]] w fun e w' => e = .returned (if q = 91 then tx [91,93] else tx [45]) ∧ Below w.heap.size w w':=by
  have HS:=hid hs
  clear hs
  rcases hq with rfl | rfl
  all_goals
    go_enter Tryz.func84,Tryz.ntmps84
    go_wp2_with (go_at_call 122;refine (HS.out _).mono ?_;rintro e w2 ⟨rfl,hb2⟩;have HB2:=hid hb2;clear hb2)
    go_ret
    exact ⟨rfl,((Below.refl _ _).alloc (Nat.le_refl _) _).trans (HB2.out.mono (by simp))⟩
set_option maxRecDepth 20000 in
theorem st_plain (hs : ∀ wz,Calls Tryz.prog 122 #[.agg #[.string SG, .string BS, .string NM]] wz fun e w' => e = .returned (.int .u8 (0 : Nat)) ∧ Below wz.heap.size wz w') (O : ByteArray) (h : BS = ⟨#[110]⟩ ∧ O = ⟨#[48]⟩ ∨ BS = ⟨#[116]⟩ ∧ O = ⟨#[39,39]⟩ ∨ BS = ⟨#[102]⟩ ∧ O = ⟨#[110,111]⟩) : Calls Tryz.prog 84 #[ptr sb, .agg #[.string SG, .string BS, .string NM]] w fun e w' => e = .returned (.string O) ∧ Below w.heap.size w w':=by
  have HS:=hid hs
  clear hs
  rcases h with ⟨rfl,rfl⟩ | ⟨rfl,rfl⟩ | ⟨rfl,rfl⟩
  all_goals
    go_enter Tryz.func84,Tryz.ntmps84
    go_wp2_with (go_at_call 122;refine (HS.out _).mono ?_;rintro e w2 ⟨rfl,hb2⟩;obtain ⟨hc3,hc4⟩:=bcell hb2;have hz : w.heap.size < w2.heap.size:=(by have:=hb2.size;simp at this;omega);have HB2:=hid hb2;clear hb2)
    go_ret
    exact ⟨rfl,((Below.refl _ _).alloc (Nat.le_refl _) _).trans (HB2.out.mono (by simp))⟩
end
structure At (W : World) (lo sb : Nat) (NM : ByteArray) (t : Wf.Ty) (mb b : Nat) : Prop where
  sz : sb < W.heap.size
  c1 : W.cell? ⟨sb,1,none⟩ = some (.map (some mb))
  ty : TyL W lo b t
  look : ∀ wz,Below W.heap.size W wz → (Instr.lookup 129 (.map (some mb)) (.string NM) false).run Tryz.prog wz = .ok (ptr b) wz
section
variable (W : World) (lo sb : Nat) (SG NM : ByteArray) (t : Wf.Ty) (mb b : Nat) (HA : At W lo sb NM t mb b) (w : World) (hW : Below W.heap.size W w)
  (hs : ∀ wz,Calls Tryz.prog 122 #[.agg #[.string SG, .string ⟨#[64]⟩, .string NM]] wz fun e w' => e = .returned (.int .u8 (0 : Nat)) ∧ Below wz.heap.size wz w')
include HA hW hs
set_option maxRecDepth 20000 in
theorem st_rec (h82 : t.sort = 82) : Calls Tryz.prog 84 #[ptr sb, .agg #[.string SG, .string ⟨#[64]⟩, .string NM]] w fun e w' => e = .returned (tx [123,125]) ∧ Below w.heap.size w w':=by
  have HS:=hid hs
  have HW:=hid hW
  have HAT:=hid HA
  obtain ⟨hbW,s0⟩:=HA.ty.sort
  rw [h82] at s0
  have hsw : sb < w.heap.size:=Nat.lt_of_lt_of_le HA.sz hW.size
  have hbw : b < w.heap.size:=Nat.lt_of_lt_of_le hbW hW.size
  have y1:=(hW.cell (p:=⟨sb,1,none⟩) HA.sz).trans HA.c1
  have y0:=(hW.cell (p:=⟨b,0,none⟩) hbW).trans s0
  clear hs s0 HA hW
  go_enter Tryz.func84,Tryz.ntmps84
  go_wp2_with (go_at_call 122;refine (HS.out _).mono ?_;rintro e w2 ⟨rfl,hb2⟩;obtain ⟨hc3,hc4⟩:=bcell hb2;have hz : w.heap.size < w2.heap.size:=(by have:=hb2.size;simp at this;omega);have HB2:=hid (((Below.refl w.heap.size w).alloc (Nat.le_refl _) (.cells #[.string SG, .string ⟨#[64]⟩, .string NM] 57)).trans (hb2.mono (by simp)));have z1:=(HB2.out.cell (p:=⟨sb,1,none⟩) hsw).trans y1;have z0:=(HB2.out.cell (p:=⟨b,0,none⟩) hbw).trans y0;have hbw2:=Nat.lt_of_lt_of_le hbw HB2.out.size;have l0:=HAT.out.look w2 (HW.out.trans (HB2.out.mono HW.out.size));have l1:=HAT.out.look w2.drew (HW.out.trans (HB2.out.mono HW.out.size)).drew;clear hb2)
  go_region
  all_goals go_wp2_with fail
  all_goals go_ret
  all_goals exact ⟨rfl,by have B:=HB2.out;repeat (first | with_reducible exact B | with_reducible refine Below.drew ?_ | with_reducible refine Below.alloc ?_ (by first | exact B.size | (simp;done) | (simp;omega) | omega) _)⟩
set_option maxRecDepth 20000 in
set_option maxHeartbeats 1000000 in
theorem st_enum (h69 : t.sort = 69) (f : Wf.Fd) (fs : List Wf.Fd) (hf : t.fields = f :: fs) (hG : f.tag ≤ 999999) (O : ByteArray) (ho : O.data.toList = 35 :: Wf.dec f.tag) : Calls Tryz.prog 84 #[ptr sb, .agg #[.string SG, .string ⟨#[64]⟩, .string NM]] w fun e w' => e = .returned (.string O) ∧ Below w.heap.size w w':=by
  have HS:=hid hs
  have HW:=hid hW
  have HAT:=hid HA
  obtain ⟨hbW,s0⟩:=HA.ty.sort
  rw [h69] at s0
  obtain ⟨fb,a,c,_,c2,hnc,hcm,hrow⟩:=HA.ty.row
  obtain ⟨o,rfl,hfd⟩:=hrow 0 (by rw [hf];simp)
  have ef : t.fields[0]'(by rw [hf];simp) = f:=by simp [hf]
  rw [ef,Nat.zero_mul,Nat.add_zero] at hfd
  have e0 : (fdC t.sort f)[0]? = some (.int .i64 f.tag):=by
    obtain ⟨_,_,_,_,h⟩:=fdC_form t.sort f
    rw [h];rfl
  have f0:=hfd.2 0 _ e0
  rw [Nat.add_zero] at f0
  have hfb:=hfd.1
  obtain ⟨n,hn⟩ : ∃ n,t.fields.length = n:=⟨_,rfl⟩
  have h0n : 0 < n:=by rw [← hn,hf];simp
  rw [hn] at c2 hnc
  obtain ⟨G,hGG⟩ : ∃ G,f.tag = G:=⟨_,rfl⟩
  rw [hGG] at f0 hG ho
  have hsw : sb < w.heap.size:=Nat.lt_of_lt_of_le HA.sz hW.size
  have hbw : b < w.heap.size:=Nat.lt_of_lt_of_le hbW hW.size
  have hfw : fb < w.heap.size:=Nat.lt_of_lt_of_le hfb hW.size
  have y1:=(hW.cell (p:=⟨sb,1,none⟩) HA.sz).trans HA.c1
  have y0:=(hW.cell (p:=⟨b,0,none⟩) hbW).trans s0
  have y2:=(hW.cell (p:=⟨b,2,none⟩) hbW).trans c2
  have yf:=(hW.cell (p:=⟨fb,o,none⟩) hfb).trans f0
  have HD:=hid fun wz => decimal G G wz (Nat.le_refl _) hG
  have ld:=Wf.dec_len6 hG
  obtain ⟨D,hD⟩ : ∃ D : ByteArray,(⟨(Wf.dec G).toArray⟩ : ByteArray) = D:=⟨_,rfl⟩
  simp only [tx,hD] at HD
  have hds : D.size ≤ 6:=by rw [← hD,← size_list];simpa using ld
  have HO:=hid (show (⟨#[35]⟩ : ByteArray) ++ D = O by rw [eq_list,ho,← hD];simp)
  have a1:=fun wz => run_string_add_sum (P:=Tryz.prog) (w:=wz) ⟨#[35]⟩ D (by show 1 + D.size ≤ _;omega)
  clear hs s0 HA hW ho hD ld c2 f0 e0 hfd ef hrow hf hGG
  go_enter Tryz.func84,Tryz.ntmps84
  go_wp2_with (go_at_call 122;refine (HS.out _).mono ?_;rintro e w2 ⟨rfl,hb2⟩;obtain ⟨hc3,hc4⟩:=bcell hb2;have hz : w.heap.size < w2.heap.size:=(by have:=hb2.size;simp at this;omega);have HB2:=hid (((Below.refl w.heap.size w).alloc (Nat.le_refl _) (.cells #[.string SG, .string ⟨#[64]⟩, .string NM] 57)).trans (hb2.mono (by simp)));have z1:=(HB2.out.cell (p:=⟨sb,1,none⟩) hsw).trans y1;have z0:=(HB2.out.cell (p:=⟨b,0,none⟩) hbw).trans y0;have z2:=(HB2.out.cell (p:=⟨b,2,none⟩) hbw).trans y2;have zf:=(HB2.out.cell (p:=⟨fb,o,none⟩) hfw).trans yf;have hbw2:=Nat.lt_of_lt_of_le hbw HB2.out.size;have l0:=HAT.out.look w2 (HW.out.trans (HB2.out.mono HW.out.size));have l1:=HAT.out.look w2.drew (HW.out.trans (HB2.out.mono HW.out.size)).drew;clear hb2)
  go_region
  all_goals go_wp2_with (go_at_call 94;refine (HD.out _).mono ?_;rintro e w3 ⟨rfl,hb3⟩;have HB3:=hid hb3;clear hb3)
  all_goals go_ret
  all_goals exact ⟨ret_str HO.out,by have B:=HB2.out.drew.trans (HB3.out.mono HB2.out.size);repeat (first | with_reducible exact B | with_reducible refine Below.drew ?_ | with_reducible refine Below.alloc ?_ (by first | exact B.size | (simp;done) | (simp;omega) | omega) _)⟩
set_option maxRecDepth 20000 in
set_option maxHeartbeats 2000000 in
theorem st_union (h85 : t.sort = 85) (f : Wf.Fd) (fs : List Wf.Fd) (hf : t.fields = f :: fs) (hG : f.tag ≤ 999999) (S2 O : ByteArray) (hS2 : S2.size ≤ 200) (ho : O.data.toList = 60 :: (Wf.dec f.tag ++ 61 :: (S2.data.toList ++ [62])))
    (hrec : ∀ wz,Below w.heap.size w wz → Calls Tryz.prog 84 #[ptr sb,kV f.kind] wz fun e w' => e = .returned (.string S2) ∧ Below wz.heap.size wz w') : Calls Tryz.prog 84 #[ptr sb, .agg #[.string SG, .string ⟨#[64]⟩, .string NM]] w fun e w' => e = .returned (.string O) ∧ Below w.heap.size w w':=by
  have HS:=hid hs
  have HW:=hid hW
  have HAT:=hid HA
  obtain ⟨hbW,s0⟩:=HA.ty.sort
  rw [h85] at s0
  obtain ⟨fb,a,c,_,c2,hnc,hcm,hrow⟩:=HA.ty.row
  obtain ⟨o,rfl,hfd⟩:=hrow 0 (by rw [hf];simp)
  have ef : t.fields[0]'(by rw [hf];simp) = f:=by simp [hf]
  rw [ef,Nat.zero_mul,Nat.add_zero] at hfd
  have e0 : fdC t.sort f = [.int .i64 f.tag,tx f.name,tx f.kind.signs,tx f.kind.base,tx f.kind.name,tx f.given]:=by unfold fdC;rw [if_neg (by rw [h85];decide)]
  have hfb:=hfd.1
  have hf2:=hfd.2
  rw [e0] at hf2
  obtain ⟨S1,hS1⟩ : ∃ S1 : ByteArray,(⟨f.kind.signs.toArray⟩ : ByteArray) = S1:=⟨_,rfl⟩
  obtain ⟨B1,hB1⟩ : ∃ B1 : ByteArray,(⟨f.kind.base.toArray⟩ : ByteArray) = B1:=⟨_,rfl⟩
  obtain ⟨N1,hN1⟩ : ∃ N1 : ByteArray,(⟨f.kind.name.toArray⟩ : ByteArray) = N1:=⟨_,rfl⟩
  simp only [kV,tx,hS1,hB1,hN1] at hrec
  simp only [tx,hS1,hB1,hN1] at hf2
  have f0 : W.cell? ⟨fb,o,none⟩ = some (.int .i64 f.tag):=hf2 0 _ rfl
  have f1:=hf2 2 _ rfl
  have f2:=hf2 3 _ rfl
  have f3:=hf2 4 _ rfl
  obtain ⟨n,hn⟩ : ∃ n,t.fields.length = n:=⟨_,rfl⟩
  have h0n : 0 < n:=by rw [← hn,hf];simp
  rw [hn] at c2 hnc
  obtain ⟨G,hGG⟩ : ∃ G,f.tag = G:=⟨_,rfl⟩
  rw [hGG] at f0 hG ho
  have hsw : sb < w.heap.size:=Nat.lt_of_lt_of_le HA.sz hW.size
  have hbw : b < w.heap.size:=Nat.lt_of_lt_of_le hbW hW.size
  have hfw : fb < w.heap.size:=Nat.lt_of_lt_of_le hfb hW.size
  have y1:=(hW.cell (p:=⟨sb,1,none⟩) HA.sz).trans HA.c1
  have y0:=(hW.cell (p:=⟨b,0,none⟩) hbW).trans s0
  have y2:=(hW.cell (p:=⟨b,2,none⟩) hbW).trans c2
  have yf:=(hW.cell (p:=⟨fb,o,none⟩) hfb).trans f0
  have x1:=(hW.cell (p:=⟨fb,o + 2,none⟩) hfb).trans f1
  have x2:=(hW.cell (p:=⟨fb,o + 3,none⟩) hfb).trans f2
  have x3:=(hW.cell (p:=⟨fb,o + 4,none⟩) hfb).trans f3
  have HD:=hid fun wz => decimal G G wz (Nat.le_refl _) hG
  have ld:=Wf.dec_len6 hG
  obtain ⟨D,hD⟩ : ∃ D : ByteArray,(⟨(Wf.dec G).toArray⟩ : ByteArray) = D:=⟨_,rfl⟩
  simp only [tx,hD] at HD
  have hds : D.size ≤ 6:=by rw [← hD,← size_list];simpa using ld
  have HO:=hid (show (⟨#[60]⟩ : ByteArray) ++ D ++ ⟨#[61]⟩ ++ S2 ++ ⟨#[62]⟩ = O by rw [eq_list,ho,← hD];simp)
  have HREC:=hid hrec
  have a1:=fun wz => run_string_add_sum (P:=Tryz.prog) (w:=wz) ⟨#[60]⟩ D (by show 1 + D.size ≤ _;omega)
  have a2:=fun wz => run_string_add_sum (P:=Tryz.prog) (w:=wz) (⟨#[60]⟩ ++ D) ⟨#[61]⟩ (by rw [ByteArray.size_append];show 1 + D.size + 1 ≤ _;omega)
  have a3:=fun wz => run_string_add_sum (P:=Tryz.prog) (w:=wz) (⟨#[60]⟩ ++ D ++ ⟨#[61]⟩) S2 (by rw [ByteArray.size_append,ByteArray.size_append];show 1 + D.size + 1 + S2.size ≤ _;omega)
  have a4:=fun wz => run_string_add_sum (P:=Tryz.prog) (w:=wz) (⟨#[60]⟩ ++ D ++ ⟨#[61]⟩ ++ S2) ⟨#[62]⟩ (by rw [ByteArray.size_append,ByteArray.size_append,ByteArray.size_append];show 1 + D.size + 1 + S2.size + 1 ≤ _;omega)
  clear hs s0 HA hW ho hD ld c2 f0 f1 f2 f3 hf2 e0 hfd ef hrow hf hGG hrec hS1 hB1 hN1
  go_enter Tryz.func84,Tryz.ntmps84
  go_wp2_with (go_at_call 122;refine (HS.out _).mono ?_;rintro e w2 ⟨rfl,hb2⟩;obtain ⟨hc3,hc4⟩:=bcell hb2;have hz : w.heap.size < w2.heap.size:=(by have:=hb2.size;simp at this;omega);have HB2:=hid (((Below.refl w.heap.size w).alloc (Nat.le_refl _) (.cells #[.string SG, .string ⟨#[64]⟩, .string NM] 57)).trans (hb2.mono (by simp)));have z1:=(HB2.out.cell (p:=⟨sb,1,none⟩) hsw).trans y1;have z0:=(HB2.out.cell (p:=⟨b,0,none⟩) hbw).trans y0;have z2:=(HB2.out.cell (p:=⟨b,2,none⟩) hbw).trans y2;have zf:=(HB2.out.cell (p:=⟨fb,o,none⟩) hfw).trans yf;have hbw2:=Nat.lt_of_lt_of_le hbw HB2.out.size;have l0:=HAT.out.look w2 (HW.out.trans (HB2.out.mono HW.out.size));have l1:=HAT.out.look w2.drew (HW.out.trans (HB2.out.mono HW.out.size)).drew;have w1:=(HB2.out.cell (p:=⟨fb,o + 2,none⟩) hfw).trans x1;have w12:=(HB2.out.cell (p:=⟨fb,o + 3,none⟩) hfw).trans x2;have w13:=(HB2.out.cell (p:=⟨fb,o + 4,none⟩) hfw).trans x3;have hfw2:=Nat.lt_of_lt_of_le hfw HB2.out.size;have F:=hid fun (wz : World) (hz : Below w2.heap.size w2 wz) => (show wz.cell? ⟨b,2,none⟩ = some (.slice (some ⟨fb,o,none⟩) n c) ∧ wz.cell? ⟨fb,o,none⟩ = some (.int .i64 G) ∧ wz.cell? ⟨fb,o + 2,none⟩ = some (.string S1) ∧ wz.cell? ⟨fb,o + 3,none⟩ = some (.string B1) ∧ wz.cell? ⟨fb,o + 4,none⟩ = some (.string N1) from ⟨(hz.cell (p:=⟨b,2,none⟩) hbw2).trans z2,(hz.cell (p:=⟨fb,o,none⟩) hfw2).trans zf,(hz.cell (p:=⟨fb,o + 2,none⟩) hfw2).trans w1,(hz.cell (p:=⟨fb,o + 3,none⟩) hfw2).trans w12,(hz.cell (p:=⟨fb,o + 4,none⟩) hfw2).trans w13⟩);clear hb2)
  go_region
  go_wp2_with fail
  go_region_held3 (fun w' => w'.cell? ⟨b,2,none⟩ = some (.slice (some ⟨fb,o,none⟩) n c) ∧ w'.cell? ⟨fb,o,none⟩ = some (.int .i64 G) ∧ w'.cell? ⟨fb,o + 2,none⟩ = some (.string S1) ∧ w'.cell? ⟨fb,o + 3,none⟩ = some (.string B1) ∧ w'.cell? ⟨fb,o + 4,none⟩ = some (.string N1)) (first | exact ⟨k1,k2,k3,k4,k5⟩ | exact ⟨d1,d2,d3,d4,d5⟩ | go_keep) (first | (go_at_call 94;refine (HD.out _).mono ?_;rintro e w3 ⟨rfl,hb3⟩;have TD:=Lib.hid (show Below w2.heap.size w2 w3 by first | exact TS.out.trans (hb3.mono TS.out.size) | (refine Below.trans (b:=_) ?_ hb3;repeat (first | with_reducible exact Below.refl _ _ | with_reducible refine Below.drew ?_)));obtain ⟨d1,d2,d3,d4,d5⟩:=F.out _ TD.out;clear hb3) | (go_at_call 84;refine (HREC.out _ (by first | exact HB2.out.trans (TD.out.mono HB2.out.size) | (refine Below.trans (b:=w2) HB2.out ?_;repeat (first | with_reducible exact Below.refl _ _ | with_reducible refine Below.drew ?_)))).mono ?_;rintro e w4 ⟨rfl,hb4⟩;have TS:=Lib.hid (show Below w2.heap.size w2 w4 by first | exact TD.out.trans (hb4.mono TD.out.size) | (refine Below.trans (b:=_) ?_ hb4;repeat (first | with_reducible exact Below.refl _ _ | with_reducible refine Below.drew ?_)));obtain ⟨k1,k2,k3,k4,k5⟩:=F.out _ TS.out;clear hb4))
  all_goals go_wp2_with fail
  all_goals go_ret
  all_goals exact ⟨ret_str HO.out,by first | exact HB2.out.trans (TS.out.mono HB2.out.size) | exact HB2.out.trans (TD.out.mono HB2.out.size)⟩
end

theorem stands_sign (sb : Nat) (k : Wf.K) (x : Wf.Sc) (w : World) (h : (∃ k',k = .list k') ∨ ∃ k',k = .opt k') : Calls Tryz.prog 84 #[ptr sb,kV k] w fun e w' => e = .returned (tx (Wf.stands x 9 k)) ∧ Below w.heap.size w w':=by
  have hs:=fun wz => sign k wz
  rcases h with ⟨k',rfl⟩ | ⟨k',rfl⟩
  · exact (st_sign sb _ _ _ w 91 (.inl rfl) hs).mono fun e w' ⟨h1,h2⟩ => ⟨by rw [h1];rfl,h2⟩
  · exact (st_sign sb _ _ _ w 63 (.inr rfl) hs).mono fun e w' ⟨h1,h2⟩ => ⟨by rw [h1];rfl,h2⟩
theorem stands_plain (sb : Nat) (k : Wf.K) (x : Wf.Sc) (w : World) (h : k = .num ∨ k = .txt ∨ k = .flag) : Calls Tryz.prog 84 #[ptr sb,kV k] w fun e w' => e = .returned (tx (Wf.stands x 9 k)) ∧ Below w.heap.size w w':=by
  have hs:=fun wz => sign k wz
  rcases h with rfl | rfl | rfl
  · exact st_plain sb _ _ _ w hs ⟨#[48]⟩ (.inl ⟨rfl,rfl⟩)
  · exact st_plain sb _ _ _ w hs ⟨#[39,39]⟩ (.inr (.inl ⟨rfl,rfl⟩))
  · exact st_plain sb _ _ _ w hs ⟨#[110,111]⟩ (.inr (.inr ⟨rfl,rfl⟩))
theorem standsN (x : Wf.Sc) (hx : Wf.ScOk x) (lo sb : Nat) (W : World) (H : ScL W lo sb x) : ∀ (n : Nat) (k : Wf.K) (w : World),Below W.heap.size W w → k.text.length ≤ 12 → Wf.hasRef x k = true → (∀ t,refT x k = some t → Wf.endsIn x n t = true) →
    Calls Tryz.prog 84 #[ptr sb,kV k] w fun e w' => e = .returned (tx (Wf.stands x 9 k)) ∧ Below w.heap.size w w':=by
  intro n
  induction n with
  | zero =>
    intro k w hW hk hr he
    cases k with
    | ref nm =>
      obtain ⟨t,ht⟩:=Option.isSome_iff_exists.1 (show (x.find nm).isSome = true by simpa [Wf.hasRef,Wf.K.base,Wf.K.name] using hr)
      have:=he t ht
      simp [Wf.endsIn] at this
    | num => exact stands_plain sb _ x w (.inl rfl)
    | txt => exact stands_plain sb _ x w (.inr (.inl rfl))
    | flag => exact stands_plain sb _ x w (.inr (.inr rfl))
    | list k => exact stands_sign sb _ x w (.inl ⟨_,rfl⟩)
    | opt k => exact stands_sign sb _ x w (.inr ⟨_,rfl⟩)
  | succ n ih =>
    intro k w hW hk hr he
    cases k with
    | num => exact stands_plain sb _ x w (.inl rfl)
    | txt => exact stands_plain sb _ x w (.inr (.inl rfl))
    | flag => exact stands_plain sb _ x w (.inr (.inr rfl))
    | list k => exact stands_sign sb _ x w (.inl ⟨_,rfl⟩)
    | opt k => exact stands_sign sb _ x w (.inr ⟨_,rfl⟩)
    | ref nm =>
      have hs:=fun wz => sign (.ref nm) wz
      obtain ⟨mb,hsz,hc1,hnm⟩:=H.named
      obtain ⟨t,ht⟩:=Option.isSome_iff_exists.1 (show (x.find nm).isSome = true by simpa [Wf.hasRef,Wf.K.base,Wf.K.name] using hr)
      have hnl : nm.length ≤ 12:=by have:=kname_len (.ref nm);simp only [Wf.K.name] at this;omega
      have hm:=(Wf.find_mem ht).1
      have hok:=hx.tys t hm
      have hend:=he t ht
      have hst:=stands_ref ht
      rcases hnm ⟨nm.toArray⟩ (by rw [tx_size];omega) with ⟨h0,_⟩ | ⟨t',b,h1,hT,hl⟩
      · rw [show (⟨nm.toArray⟩ : ByteArray).data.toList = nm from rfl,ht] at h0;cases h0
      rw [show (⟨nm.toArray⟩ : ByteArray).data.toList = nm from rfl,ht] at h1
      obtain rfl : t = t':=Option.some.inj h1
      have HA : At W lo sb ⟨nm.toArray⟩ t mb b:=⟨hsz,hc1,hT,hl⟩
      by_cases h82 : t.sort = 82
      · rw [hst,if_pos h82]
        exact st_rec W lo sb _ _ t mb b HA w hW hs h82
      · rw [if_neg h82] at hst
        obtain ⟨f,fs,hfs⟩ : ∃ f fs,t.fields = f :: fs:=List.exists_cons_of_ne_nil (hok.some h82)
        have hfd:=hok.fds f (by rw [hfs];exact List.mem_cons_self ..)
        have htag : f.tag ≤ 999999:=by have:=hfd.tag2;omega
        rw [hfs] at hst
        dsimp only at hst
        by_cases h69 : t.sort = 69
        · rw [hst,if_pos h69]
          exact st_enum W lo sb _ _ t mb b HA w hW hs h69 f fs hfs htag ⟨(35 :: Wf.dec f.tag).toArray⟩ rfl
        · rw [if_neg h69] at hst
          have h85 : t.sort = 85:=by
            rcases hok.sort with h | h | h
            · exact absurd h h82
            · exact h
            · exact absurd h h69
          obtain ⟨s0,hs0⟩:=hfd.kind h69
          have hfl : f.kind.text.length ≤ 12:=parseK_len hs0
          have hfr : Wf.hasRef x f.kind = true:=by
            have:=hx.refs t hm h69 f (by rw [hfs];exact List.mem_cons_self ..)
            exact this
          have hs2:=stands_len hx 9 f.kind
          rw [hst,← stands89 hx f.kind]
          refine st_union W lo sb _ _ t mb b HA w hW hs h85 f fs hfs htag ⟨(Wf.stands x 9 f.kind).toArray⟩ ⟨(60 :: (Wf.dec f.tag ++ 61 :: (Wf.stands x 9 f.kind ++ [62]))).toArray⟩ (by rw [tx_size];omega) rfl fun wz hz => ih f.kind wz (hW.trans (hz.mono hW.size)) hfl hfr fun t' ht' => ?_
          have:=ends_step (x:=x) (m:=n) h85 hfs
          rw [ht',hend] at this
          exact this.symm
theorem stands (x : Wf.Sc) (hx : Wf.ScOk x) (lo sb : Nat) (k : Wf.K) (W w : World) (hW : Below W.heap.size W w) (H : ScL W lo sb x) (hk : k.text.length ≤ 12) (hr : Wf.hasRef x k = true) :
    Calls Tryz.prog 84 #[ptr sb,kV k] w fun e w' => e = .returned (tx (Wf.stands x 9 k)) ∧ Below w.heap.size w w' :=
  standsN x hx lo sb W H 9 k w hW hk hr fun t ht => hx.ends t (refT_mem ht)
set_option maxRecDepth 20000 in
set_option maxHeartbeats 1000000 in
theorem of_w (sb fb o : Nat) (SG BS NM GV O : ByteArray) (w : World) (k0 : w.cell? ⟨fb,o + 2,none⟩ = some (.string SG)) (k1 : w.cell? ⟨fb,o + 3,none⟩ = some (.string BS)) (k2 : w.cell? ⟨fb,o + 4,none⟩ = some (.string NM)) (k3 : w.cell? ⟨fb,o + 5,none⟩ = some (.string GV))
    (h : (GV.toList.isEmpty = false ∧ O = GV) ∨ (GV.toList.isEmpty = true ∧ ∀ wz,Below w.heap.size w wz → Calls Tryz.prog 84 #[ptr sb, .agg #[.string SG, .string BS, .string NM]] wz fun e w' => e = .returned (.string O) ∧ Below wz.heap.size wz w')) :
    Calls Tryz.prog 48 #[ptr sb, .pointer (some ⟨fb,o,none⟩)] w fun e w' => e = .returned (.string O) ∧ Below w.heap.size w w':=by
  rcases h with ⟨h1,rfl⟩ | ⟨h1,h2⟩
  · go_enter Tryz.func48,Tryz.ntmps48
    go_wp2_with fail
    go_ret
    exact ⟨rfl,Below.refl _ _⟩
  · have H2:=hid h2
    clear h2
    go_enter Tryz.func48,Tryz.ntmps48
    go_wp2_with (go_at_call 84;refine (H2.out _ (Below.refl _ _)).mono ?_;rintro e w2 ⟨rfl,hb2⟩;have HB2:=hid hb2;clear hb2)
    go_ret
    exact ⟨rfl,HB2.out⟩
theorem of (x : Wf.Sc) (hx : Wf.ScOk x) (lo sb fb o : Nat) (sort : UInt8) (f : Wf.Fd) (W w : World) (hW : Below W.heap.size W w) (H : ScL W lo sb x) (h69 : sort ≠ 69) (hf : FdAt W fb o sort f) (hk : f.kind.text.length ≤ 12) (hr : Wf.hasRef x f.kind = true) :
    Calls Tryz.prog 48 #[ptr sb, .pointer (some ⟨fb,o,none⟩)] w fun e w' => e = .returned (tx (Wf.standF x f)) ∧ Below w.heap.size w w':=by
  have hf':=hf.2
  have e0 : fdC sort f = [.int .i64 f.tag,tx f.name,tx f.kind.signs,tx f.kind.base,tx f.kind.name,tx f.given]:=by unfold fdC;rw [if_neg h69]
  rw [e0] at hf'
  have cc:=fun j u hu => (hW.cell (p:=⟨fb,o + j,none⟩) hf.1).trans (hf' j u hu)
  refine of_w sb fb o ⟨f.kind.signs.toArray⟩ ⟨f.kind.base.toArray⟩ ⟨f.kind.name.toArray⟩ ⟨f.given.toArray⟩ ⟨(Wf.standF x f).toArray⟩ w (cc 2 _ rfl) (cc 3 _ rfl) (cc 4 _ rfl) (cc 5 _ rfl) ?_
  unfold Wf.standF
  by_cases hg : f.given = []
  · right
    refine ⟨by rw [ByteArray.toList_eq,hg];rfl,fun wz hz => ?_⟩
    rw [if_pos hg]
    exact stands x hx lo sb f.kind W wz (hW.trans (hz.mono hW.size)) H hk hr
  · left
    refine ⟨by rw [ByteArray.toList_eq];cases hh : f.given with | nil => exact absurd hh hg | cons a r => rfl,by rw [if_neg hg]⟩
end Go.Proofs.YtmdacedmjbiekaaGreatDoor
