/- Packed by pack.py: Xq. -/
import Derived.Shelf.Strings.SlTrimAscii
import Derived.Shelf.Strings.Prefix
import Derived.Shelf.Strings.Cut
import Derived.Shelf.Strings.Search3
import Derived.Shelf.Strings.Split
import Derived.Shelf.Strings.SplitShaped
import Derived.Shelf.Strings.Shaped
import Derived.Shelf.Small.Wraps
import Derived.Shelf.Strings.OnBuilder
import Derived.Test.YtidjpalnmnehmaaF27
namespace Go.Proofs.Ytidjpalnmnehmaa
open Go.ChangeShapes Go.WideShapes Go.ChangeAt Go.RowKit Go.Lib
set_option linter.unusedVariables false
set_option linter.unusedSimpArgs false
section
variable (x : Wf.Sc) (v : Value) (W : World) (n : Nat) (t : Wf.Ty) (nm : List UInt8) (S : ByteArray) (D : Int) (w : World)
set_option maxRecDepth 20000 in
set_option maxHeartbeats 8000000 in
theorem nm_uni (KT N R : ByteArray) (fn : Nat) (hx : Wf.ScOk x) (htx : t ∈ x) (hf : x.find nm = some t) (h0 : 1 ≤ S.size) (hRs : R.size ≤ 1048576) (hk : KT.data.toList.head? = some 64) (e1 : ∀ h,(S[0]'h).toNat = 60) (hR : S.extract 1 S.size = R) (h85 : t.sort = 85) (hD : D = (n : Int) + 1) (hn : n ≤ 1000) (hW : Below W.heap.size W w) (IH : ∀ f ∈ t.fields,LR x v W n f.kind)
    (href : ∀ wz,Below w.heap.size w wz → Calls Try.prog 52 #[v, .string KT] wz fun e w' => (∃ fb fa fc,e = .returned (.tuple #[.agg #[.int .u8 85, .string N, .slice fa fn fc], .bool true]) ∧ RowK W fb (.slice fa fn fc) 4 (t.fields.map (fdS t.sort))) ∧ Below wz.heap.size wz w')
    (htag : ∀ fb fa fc wz,RowK W fb (.slice fa fn fc) 4 (t.fields.map (fdS t.sort)) → Below w.heap.size w wz → Calls Try.prog 55 #[.agg #[v], .string R, .agg #[.int .u8 85, .string N, .slice fa fn fc]] wz fun e w' => TagOut t R.data.toList e ∧ Below wz.heap.size wz w')
    : Calls Try.prog 46 #[.agg #[v], .string S, .string KT, .int .i64 D] w fun e w' => LrOut (Wf.parse x (n + 1) (.ref nm) (60 :: R.data.toList)) w e w' ∧ Below w.heap.size w w':=by
  have kd : IntKind.i64.wrap (D - 1) = (n : Int):=by rw [hD,Int.add_sub_cancel];exact IntWalk.i64_in _ (by omega)
  have HIH:=hid IH
  have HW:=hid hW
  clear IH hW hD
  have HREF:=hid href
  have HTAG:=hid htag
  have HKH:=hid hk
  have h00 : 0 < S.size:=h0
  have kx : ∀ wz,(Instr.slice 9 (.string S) (some (.int .i64 1)) none none).run Try.prog wz = .ok (.string R) wz:=fun wz => by
    have h:=sl_suf S 1 h0 wz
    rw [hR] at h
    exact h
  clear href htag hR hk
  obtain ⟨Q,hQ⟩ : ∃ Q : ByteArray,(⟨(R.data.toList.dropWhile Wf.isDig).toArray⟩ : ByteArray) = Q:=⟨_,rfl⟩
  have BAD:=hid fun (h : Wf.fieldTok t (fun k' s' => Wf.parse x n k' s') R.data.toList = none) => Wf.parse_uni_bad x n hf h85 h
  have hQsz : Q.size ≤ R.size:=by rw [← size_list,← size_list,← hQ];exact (List.dropWhile_suffix _).length_le
  cases htf : tagF t R.data.toList with
  | none =>
    have HRES:=hid (BAD.out (tok_no htf))
    have HO:=hid fun (e : Ending) (h : TagOut t R.data.toList e) => (by unfold TagOut at h;rw [htf,tx,hQ] at h;exact h : ∃ (m : Int) (a b c : ByteArray),e = .returned (.tuple #[.agg #[.int .i64 m, .string a, .string b, .string c], .string Q, .bool false]))
    clear htf hQ hf h85
    go_enter Try.func46,Try.ntmps46
    go_wp2_with (go_at_call 52;refine (HREF.out _ ((Below.refl _ _).alloc (Nat.le_refl _) _)).mono ?_;rintro e w2 ⟨⟨fb,fa,fc,rfl,hrow⟩,hb2⟩;have HROW:=hid hrow;have HB2:=hid (below_join ((Below.refl w.heap.size w).alloc (Nat.le_refl _) _) hb2);have r0:=hb2.cell (p:=⟨w.heap.size,0,none⟩) (by simp);have hlw2:=Nat.lt_of_lt_of_le (show w.heap.size < (w.alloc (.cells #[v] 65)).heap.size by simp) hb2.size;clear hrow hb2)
    have c0 : (w2.alloc (.cells #[.int .u8 85, .string N, .slice fa fn fc] 78)).cell? ⟨w.heap.size,0,none⟩ = some v:=by
      rw [World.cell?_alloc_lt w2 _ ⟨w.heap.size,0,none⟩ hlw2,r0];simp [go_sem]
    have z0 : (w2.alloc (.cells #[.int .u8 85, .string N, .slice fa fn fc] 78)).cell? ⟨w2.heap.size,0,none⟩ = some (.int .u8 85):=by simp [go_sem]
    have z1 : (w2.alloc (.cells #[.int .u8 85, .string N, .slice fa fn fc] 78)).cell? ⟨w2.heap.size,1,none⟩ = some (.string N):=by simp [go_sem]
    have z2 : (w2.alloc (.cells #[.int .u8 85, .string N, .slice fa fn fc] 78)).cell? ⟨w2.heap.size,2,none⟩ = some (.slice fa fn fc):=by simp [go_sem]
    have B3:=hid (HB2.out.alloc HB2.out.size (.cells #[.int .u8 85, .string N, .slice fa fn fc] 78))
    have hl3 : w2.heap.size < (w2.alloc (.cells #[.int .u8 85, .string N, .slice fa fn fc] 78)).heap.size:=by simp
    obtain ⟨W3,hW3⟩ : ∃ W3,w2.alloc (.cells #[.int .u8 85, .string N, .slice fa fn fc] 78) = W3:=⟨_,rfl⟩
    rw [hW3] at c0 z0 z1 z2 B3 hl3
    rw [hW3]
    clear hW3 r0
    have hlw3 : w.heap.size < W3.heap.size:=by omega
    have ha0 : ∀ o,(W3.alloc o).cell? ⟨w.heap.size,0,none⟩ = some v:=fun o => (World.cell?_alloc_lt W3 o ⟨w.heap.size,0,none⟩ hlw3).trans c0
    have ha1 : ∀ o,(W3.alloc o).cell? ⟨w2.heap.size,0,none⟩ = some (.int .u8 85):=fun o => (World.cell?_alloc_lt W3 o ⟨w2.heap.size,0,none⟩ hl3).trans z0
    have ha2 : ∀ o,(W3.alloc o).cell? ⟨w2.heap.size,1,none⟩ = some (.string N):=fun o => (World.cell?_alloc_lt W3 o ⟨w2.heap.size,1,none⟩ hl3).trans z1
    have ha3 : ∀ o,(W3.alloc o).cell? ⟨w2.heap.size,2,none⟩ = some (.slice fa fn fc):=fun o => (World.cell?_alloc_lt W3 o ⟨w2.heap.size,2,none⟩ hl3).trans z2
    go_cut [16,17,18] (fun sa sb sc wx => ∃ (b : Nat) (gm : Int) (gA gB gC : ByteArray),sa = ptr b ∧ sb = .string Q ∧ sc = .bool false ∧ Hid (FBk W3 wx b gm gA gB gC))
    case first =>
      go_region_law (first | ((try go_simp);go_at_call 55;refine (HTAG.out fb fa fc _ HROW.out (by first | exact B3.out.drew | exact (B3.out.alloc B3.out.size _).drew | exact B3.out.drew.alloc B3.out.size _)).mono ?_;rintro e w7 ⟨ho,hb7⟩;obtain ⟨gm,gA,gB,gC,rfl⟩:=HO.out _ ho;have u0:=(hb7.cell (p:=⟨W3.heap.size,0,none⟩) (by simp)).trans (by simp [go_sem] : _ = some (.int .i64 0));have u1:=(hb7.cell (p:=⟨W3.heap.size,1,none⟩) (by simp)).trans (by simp [go_sem] : _ = some (.string ⟨#[]⟩));have u2:=(hb7.cell (p:=⟨W3.heap.size,2,none⟩) (by simp)).trans (by simp [go_sem] : _ = some (.string ⟨#[]⟩));have u3:=(hb7.cell (p:=⟨W3.heap.size,3,none⟩) (by simp)).trans (by simp [go_sem] : _ = some (.string ⟨#[]⟩));have v0:=(hb7.frozen (p:=⟨W3.heap.size,0,none⟩) (by simp)).trans (by simp [go_sem] : _ = false);have v1:=(hb7.frozen (p:=⟨W3.heap.size,1,none⟩) (by simp)).trans (by simp [go_sem] : _ = false);have v2:=(hb7.frozen (p:=⟨W3.heap.size,2,none⟩) (by simp)).trans (by simp [go_sem] : _ = false);have hs7 : W3.heap.size < w7.heap.size:=Nat.lt_of_lt_of_le (by simp) hb7.size;have v3:=(hb7.frozen (p:=⟨W3.heap.size,3,none⟩) (by simp)).trans (by simp [go_sem] : _ = false);have HB7:=hid (show Below W3.heap.size W3 w7 from (by first | exact (((Below.refl W3.heap.size W3).alloc (Nat.le_refl _) _).drew).trans (hb7.mono (by simp)) | exact (((Below.refl W3.heap.size W3).drew.alloc (Nat.le_refl _) _)).trans (hb7.mono (by simp))));clear ho hb7) | ((try go_simp);go_at_call 55;refine (HTAG.out fb fa fc _ HROW.out (by first | exact B3.out.drew)).mono ?_;rintro e w7 ⟨ho,hb7⟩;obtain ⟨gm,gA,gB,gC,rfl⟩:=HO.out _ ho;have HB7:=hid (Below.drew (Below.refl W3.heap.size W3) |>.trans hb7);clear ho hb7))
      all_goals (go_wp2_with fail;go_meet)
      all_goals first | exact ⟨_,_,_,_,_,rfl,rfl,rfl,hid (FBk.after HB7.out)⟩ | exact ⟨_,_,_,_,_,rfl,rfl,rfl,hid (FBk.before HB7.out hs7 u0 u1 u2 u3)⟩
    case rest =>
      obtain ⟨fb8,gm,gA,gB,gC,rfl,rfl,rfl,hc8⟩:=hcut
      obtain ⟨W8,hW8⟩ : ∃ W8,W8 = wc:=⟨_,rfl⟩
      subst hW8
      go_wp2_with fail
      all_goals exact bodyPost_ret (v:=.tuple #[.pointer none, .string S, .bool false]) (by simp [results,Try.results46,go_sem, *]) rfl ⟨LrOut.no HRES.out ⟨_,_,rfl⟩,B3.out.trans (hc8.out.bl.mono B3.out.size)⟩
  | some f =>
    have hfm:=tagF_mem htf
    have h69 : t.sort ≠ 69:=by rw [h85];decide
    obtain ⟨G,hG⟩ : ∃ G,f.tag = G:=⟨_,rfl⟩
    obtain ⟨FN,hFN⟩ : ∃ FN : ByteArray,(⟨f.name.toArray⟩ : ByteArray) = FN:=⟨_,rfl⟩
    obtain ⟨FK,hFK⟩ : ∃ FK : ByteArray,(⟨f.kind.text.toArray⟩ : ByteArray) = FK:=⟨_,rfl⟩
    obtain ⟨FG,hFG⟩ : ∃ FG : ByteArray,(⟨f.given.toArray⟩ : ByteArray) = FG:=⟨_,rfl⟩
    have HO:=hid fun (e : Ending) (h : TagOut t R.data.toList e) => (by unfold TagOut at h;rw [htf] at h;dsimp only at h;rw [if_neg h69,hG] at h;simp only [tx,hFN,hFK,hFG,hQ] at h;exact h : e = .returned (.tuple #[.agg #[.int .i64 G, .string FN, .string FK, .string FG], .string Q, .bool true]))
    have HRD:=hid fun (Q : ByteArray) (wz : World) (h1 : Q.size ≤ 1048576) (h2 : Below W.heap.size W wz) => (by
      have h:=HIH.out f hfm Q wz h1 h2
      simp only [tx,hFK] at h
      exact h : Calls Try.prog 31 #[.agg #[v], .string Q, .string FK, .int .i64 n] wz fun e w' => LrOut (Wf.parse x n f.kind Q.data.toList) wz e w' ∧ Below wz.heap.size wz w')
    have HQQ:=hid (show Q.data.toList = R.data.toList.dropWhile Wf.isDig by rw [← hQ])
    have HTF:=hid htf
    have HGG:=hid hG
    have HF:=hid hf
    have H85:=hid h85
    have hgR:=str_guard Q
    clear htf hQ hFN hFK hFG hG h69 hf h85 hfm
    go_enter Try.func46,Try.ntmps46
    go_wp2_with (go_at_call 52;refine (HREF.out _ ((Below.refl _ _).alloc (Nat.le_refl _) _)).mono ?_;rintro e w2 ⟨⟨fb,fa,fc,rfl,hrow⟩,hb2⟩;have HROW:=hid hrow;have HB2:=hid (below_join ((Below.refl w.heap.size w).alloc (Nat.le_refl _) _) hb2);have r0:=hb2.cell (p:=⟨w.heap.size,0,none⟩) (by simp);have hlw2:=Nat.lt_of_lt_of_le (show w.heap.size < (w.alloc (.cells #[v] 65)).heap.size by simp) hb2.size;clear hrow hb2)
    have c0 : (w2.alloc (.cells #[.int .u8 85, .string N, .slice fa fn fc] 78)).cell? ⟨w.heap.size,0,none⟩ = some v:=by
      rw [World.cell?_alloc_lt w2 _ ⟨w.heap.size,0,none⟩ hlw2,r0];simp [go_sem]
    have z0 : (w2.alloc (.cells #[.int .u8 85, .string N, .slice fa fn fc] 78)).cell? ⟨w2.heap.size,0,none⟩ = some (.int .u8 85):=by simp [go_sem]
    have z1 : (w2.alloc (.cells #[.int .u8 85, .string N, .slice fa fn fc] 78)).cell? ⟨w2.heap.size,1,none⟩ = some (.string N):=by simp [go_sem]
    have z2 : (w2.alloc (.cells #[.int .u8 85, .string N, .slice fa fn fc] 78)).cell? ⟨w2.heap.size,2,none⟩ = some (.slice fa fn fc):=by simp [go_sem]
    have B3:=hid (HB2.out.alloc HB2.out.size (.cells #[.int .u8 85, .string N, .slice fa fn fc] 78))
    have hl3 : w2.heap.size < (w2.alloc (.cells #[.int .u8 85, .string N, .slice fa fn fc] 78)).heap.size:=by simp
    obtain ⟨W3,hW3⟩ : ∃ W3,w2.alloc (.cells #[.int .u8 85, .string N, .slice fa fn fc] 78) = W3:=⟨_,rfl⟩
    rw [hW3] at c0 z0 z1 z2 B3 hl3
    rw [hW3]
    clear hW3 r0
    have hlw3 : w.heap.size < W3.heap.size:=by omega
    have ha0 : ∀ o,(W3.alloc o).cell? ⟨w.heap.size,0,none⟩ = some v:=fun o => (World.cell?_alloc_lt W3 o ⟨w.heap.size,0,none⟩ hlw3).trans c0
    have ha1 : ∀ o,(W3.alloc o).cell? ⟨w2.heap.size,0,none⟩ = some (.int .u8 85):=fun o => (World.cell?_alloc_lt W3 o ⟨w2.heap.size,0,none⟩ hl3).trans z0
    have ha2 : ∀ o,(W3.alloc o).cell? ⟨w2.heap.size,1,none⟩ = some (.string N):=fun o => (World.cell?_alloc_lt W3 o ⟨w2.heap.size,1,none⟩ hl3).trans z1
    have ha3 : ∀ o,(W3.alloc o).cell? ⟨w2.heap.size,2,none⟩ = some (.slice fa fn fc):=fun o => (World.cell?_alloc_lt W3 o ⟨w2.heap.size,2,none⟩ hl3).trans z2
    go_cut [16,17,18] (fun sa sb sc wx => ∃ (b : Nat) (gm : Int) (gA gB gC : ByteArray),sa = ptr b ∧ sb = .string Q ∧ sc = .bool true ∧ Hid (FBk W3 wx b gm gA gB gC ∧ gm = G ∧ gB = FK))
    case first =>
      go_region_law (first | ((try go_simp);go_at_call 55;refine (HTAG.out fb fa fc _ HROW.out (by first | exact B3.out.drew | exact (B3.out.alloc B3.out.size _).drew | exact B3.out.drew.alloc B3.out.size _)).mono ?_;rintro e w7 ⟨ho,hb7⟩;obtain rfl:=HO.out _ ho;have u0:=(hb7.cell (p:=⟨W3.heap.size,0,none⟩) (by simp)).trans (by simp [go_sem] : _ = some (.int .i64 0));have u1:=(hb7.cell (p:=⟨W3.heap.size,1,none⟩) (by simp)).trans (by simp [go_sem] : _ = some (.string ⟨#[]⟩));have u2:=(hb7.cell (p:=⟨W3.heap.size,2,none⟩) (by simp)).trans (by simp [go_sem] : _ = some (.string ⟨#[]⟩));have u3:=(hb7.cell (p:=⟨W3.heap.size,3,none⟩) (by simp)).trans (by simp [go_sem] : _ = some (.string ⟨#[]⟩));have v0:=(hb7.frozen (p:=⟨W3.heap.size,0,none⟩) (by simp)).trans (by simp [go_sem] : _ = false);have v1:=(hb7.frozen (p:=⟨W3.heap.size,1,none⟩) (by simp)).trans (by simp [go_sem] : _ = false);have v2:=(hb7.frozen (p:=⟨W3.heap.size,2,none⟩) (by simp)).trans (by simp [go_sem] : _ = false);have hs7 : W3.heap.size < w7.heap.size:=Nat.lt_of_lt_of_le (by simp) hb7.size;have v3:=(hb7.frozen (p:=⟨W3.heap.size,3,none⟩) (by simp)).trans (by simp [go_sem] : _ = false);have HB7:=hid (show Below W3.heap.size W3 w7 from (by first | exact (((Below.refl W3.heap.size W3).alloc (Nat.le_refl _) _).drew).trans (hb7.mono (by simp)) | exact (((Below.refl W3.heap.size W3).drew.alloc (Nat.le_refl _) _)).trans (hb7.mono (by simp))));clear ho hb7) | ((try go_simp);go_at_call 55;refine (HTAG.out fb fa fc _ HROW.out (by first | exact B3.out.drew)).mono ?_;rintro e w7 ⟨ho,hb7⟩;obtain rfl:=HO.out _ ho;have HB7:=hid (Below.drew (Below.refl W3.heap.size W3) |>.trans hb7);clear ho hb7))
      all_goals (go_wp2_with fail;go_meet)
      all_goals first | exact ⟨_,_,_,_,_,rfl,rfl,rfl,hid ⟨(FBk.after HB7.out),rfl,rfl⟩⟩ | exact ⟨_,_,_,_,_,rfl,rfl,rfl,hid ⟨(FBk.before HB7.out hs7 u0 u1 u2 u3),rfl,rfl⟩⟩
    case rest =>
      obtain ⟨fb8,gm,gA,gB,gC,rfl,rfl,rfl,hc8⟩:=hcut
      obtain ⟨W8,hW8⟩ : ∃ W8,W8 = wc:=⟨_,rfl⟩
      subst hW8
      obtain ⟨hfb,rfl,rfl⟩:=hc8.out
      have FB8:=hid hfb
      clear hfb hc8
      have B8:=hid (B3.out.trans (FB8.out.bl.mono B3.out.size))
      have y0:=FB8.out.f0
      have y2:=FB8.out.f2
      have hl8 : fb8 < W8.heap.size:=FB8.out.lt
      have hlw8 : w.heap.size < W8.heap.size:=Nat.lt_of_lt_of_le hlw3 FB8.out.bl.size
      have d0:=(FB8.out.bl.cell (p:=⟨w.heap.size,0,none⟩) hlw3).trans c0
      have BW8:=hid (HW.out.trans (B8.out.mono HW.out.size))
      clear c0 z0 z1 z2 ha0 ha1 ha2 ha3
      rcases hgR with ⟨hl1,f1,f2⟩ | ⟨c1,q1,hl1,f1,f2,f3,f4,f5⟩
      · have HRES:=hid (BAD.out (tok_eq (by rw [← HQQ.out,hl1];simp)))
        clear hl1
        go_wp2_with fail
        all_goals exact bodyPost_ret (v:=.tuple #[.pointer none, .string S, .bool false]) (by simp [results,Try.results46,go_sem, *]) rfl ⟨LrOut.no HRES.out ⟨_,_,rfl⟩,B8.out⟩
      · obtain ⟨b1,hb1⟩ : ∃ b1,c1.toNat = b1:=⟨_,rfl⟩
        rw [hb1] at f4
        by_cases h61 : b1 = 61
        · subst h61
          have hc1 : c1 = 61:=UInt8.toNat_inj.1 hb1
          obtain ⟨Q1,hQ1⟩ : ∃ Q1 : ByteArray,(⟨q1.toArray⟩ : ByteArray) = Q1:=⟨_,rfl⟩
          have kq : ∀ wz,(Instr.slice 9 (.string Q) (some (.int .i64 1)) none none).run Try.prog wz = .ok (.string Q1) wz:=fun wz => by
            have h:=sl_suf Q 1 f3 wz
            rw [f5,hQ1] at h
            exact h
          have HQ1:=hid (show Q1.data.toList = q1 by rw [← hQ1])
          have hq1s : Q1.size < Q.size:=by rw [← size_list,← size_list,HQ1.out,hl1];simp
          have HTOK:=hid (show Wf.fieldTok t (fun k' s' => Wf.parse x n k' s') R.data.toList = (Wf.parse x n f.kind q1).map fun y => (f,y.1,y.2) from tok_yes HTF.out (by rw [← HQQ.out,hl1,hc1]))
          clear hl1 hQ1 hb1 hc1 f5
          go_wp2_with fail
          go_cut [19,20,21] (fun sa sb sc wx => ∃ (p : Option Addr) (r : ByteArray) (b : Bool),sa = .pointer p ∧ sb = .string r ∧ sc = .bool b ∧ Hid (LrOut (Wf.parse x n f.kind Q1.data.toList) W8 (.returned (.tuple #[.pointer p, .string r, .bool b])) wx ∧ Below W8.heap.size W8 wx))
          case first =>
            go_region_held3 (fun w' => w'.cell? ⟨w.heap.size,0,none⟩ = some v ∧ w'.cell? ⟨fb8,0,none⟩ = some (.int .i64 G) ∧ w'.cell? ⟨fb8,2,none⟩ = some (.string gB)) (first | exact ⟨j0,j1,j2⟩ | go_keep) ((go_at_call 31;refine (HRD.out Q1 W8.drew (by omega) BW8.out.drew).mono ?_;rintro e w9 ⟨ho,hb9⟩;obtain ⟨p,r,b,rfl,hlr⟩:=ho.form;have HLR:=hid hlr;have HB9:=hid (Below.drew (Below.refl W8.heap.size W8) |>.trans hb9);have j0:=(HB9.out.cell (p:=⟨w.heap.size,0,none⟩) hlw8).trans d0;have j1:=(HB9.out.cell (p:=⟨fb8,0,none⟩) hl8).trans y0;have j2:=(HB9.out.cell (p:=⟨fb8,2,none⟩) hl8).trans y2;clear ho hb9 hlr))
            all_goals (go_wp2_with fail;go_meet)
            all_goals exact ⟨_,_,_,rfl,rfl,rfl,hid ⟨HLR.out,HB9.out⟩⟩
          case rest =>
            obtain ⟨p,r,b,rfl,rfl,rfl,hc9⟩:=hcut
            obtain ⟨W9,hW9⟩ : ∃ W9,W9 = wc:=⟨_,rfl⟩
            subst hW9
            have y09:=(hc9.out.2.cell (p:=⟨fb8,0,none⟩) hl8).trans y0
            have hl9 : fb8 < W9.heap.size:=Nat.lt_of_lt_of_le hl8 hc9.out.2.size
            have B9:=hid (B8.out.trans (hc9.out.2.mono B8.out.size))
            cases hp : Wf.parse x n f.kind q1 with
            | none =>
              have HRES:=hid (BAD.out (by rw [HTOK.out,hp];rfl))
              obtain ⟨p3,r3,he⟩ : ∃ (p3 : Option Addr) (r3 : ByteArray),Ending.returned (.tuple #[.pointer p, .string r, .bool b]) = .returned (.tuple #[.pointer p3, .string r3, .bool false]):=by
                have h:=hc9.out.1
                rw [HQ1.out,hp] at h
                exact h
              obtain ⟨_,_,e2⟩:=three he
              injection e2 with e2
              subst e2
              clear hp he
              go_wp2_with fail
              all_goals exact bodyPost_ret (v:=.tuple #[.pointer none, .string S, .bool false]) (by simp [results,Try.results46,go_sem, *]) rfl ⟨LrOut.no HRES.out ⟨_,_,rfl⟩,B9.out⟩
            | some y =>
              obtain ⟨u,rr⟩:=y
              obtain ⟨pb,he,hlv⟩ : ∃ pb,Ending.returned (.tuple #[.pointer p, .string r, .bool b]) = .returned (.tuple #[ptr pb,tx rr, .bool true]) ∧ LV W9 (fun z => W8.heap.size ≤ z) u pb:=by
                have h:=hc9.out.1
                rw [HQ1.out,hp] at h
                exact h
              have HLV:=hid hlv
              obtain ⟨e0,e1',e2⟩:=three he
              injection e0 with e0
              injection e1' with e1'
              injection e2 with e2
              subst e0 e2
              have HRR:=hid (show r.data.toList = rr by rw [e1'])
              have HTOK2:=hid (show Wf.fieldTok t (fun k' s' => Wf.parse x n k' s') R.data.toList = some (f,u,rr) by rw [HTOK.out,hp];rfl)
              have hgR:=str_guard r
              rw [HRR.out] at hgR
              have OPEN:=hid fun (h : rr.head? ≠ some 62) => Wf.parse_uni_open x n HF.out H85.out HTOK2.out h
              clear hp he hlv e1'
              rcases hgR with ⟨hl2,g1,g2⟩ | ⟨c3,q3,hl2,g1,g2,g3,g4,g5⟩
              · have HRES:=hid (OPEN.out (by rw [hl2];simp))
                clear hl2
                go_wp2_with fail
                all_goals exact bodyPost_ret (v:=.tuple #[.pointer none, .string S, .bool false]) (by simp [results,Try.results46,go_sem, *]) rfl ⟨LrOut.no HRES.out ⟨_,_,rfl⟩,B9.out⟩
              · obtain ⟨b3,hb3⟩ : ∃ b3,c3.toNat = b3:=⟨_,rfl⟩
                rw [hb3] at g4
                by_cases h62 : b3 = 62
                · subst h62
                  have hc3 : c3 = 62:=UInt8.toNat_inj.1 hb3
                  obtain ⟨Q3,hQ3⟩ : ∃ Q3 : ByteArray,(⟨q3.toArray⟩ : ByteArray) = Q3:=⟨_,rfl⟩
                  have kr : ∀ wz,(Instr.slice 9 (.string r) (some (.int .i64 1)) none none).run Try.prog wz = .ok (.string Q3) wz:=fun wz => by
                    have h:=sl_suf r 1 g3 wz
                    rw [g5,hQ3] at h
                    exact h
                  have HRES:=hid (show Wf.parse x (n + 1) (.ref nm) (60 :: R.data.toList) = some (.mk 85 [] G [u],q3) by rw [← HGG.out];exact Wf.parse_uni_some x n HF.out H85.out (q:=q3) (f:=f) (v:=u) (by rw [HTOK2.out,hl2,hc3]))
                  have HQ3:=hid hQ3
                  have ha9 : ∀ o,(W9.alloc o).cell? ⟨fb8,0,none⟩ = some (.int .i64 G):=fun o => (World.cell?_alloc_lt W9 o ⟨fb8,0,none⟩ hl9).trans y09
                  clear hl2 hb3 hc3 g5 hQ3
                  go_wp2_with fail
                  go_region
                  all_goals (go_wp2_with fail)
                  all_goals exact bodyPost_ret (v:=.tuple #[ptr (W9.heap.size + 1 + 1), .string Q3, .bool true]) (by simp [results,Try.results46,go_sem, *]) rfl (by
                    have hs9:=B9.out.size
                    have hs8:=B8.out.size
                    have hb3 : ∀ o1 o2 o3,Below W9.heap.size W9 ((((W9.alloc o1).alloc o2).alloc o3).drew):=fun o1 o2 o3 => ((((Below.refl _ _).alloc (Nat.le_refl _) _).alloc (by simp) _).alloc (by first | (simp;done) | (simp;omega)) _).drew
                    have hP : ∀ z,W9.heap.size ≤ z → w.heap.size ≤ z:=fun z hz => Nat.le_trans hs9 hz
                    refine ⟨LrOut.yes HRES.out ⟨W9.heap.size + 1 + 1,by rw [tx,HQ3.out], ?_⟩,B9.out.trans ((hb3 _ _ _).mono hs9)⟩
                    first
                    | (refine LV.uni (tb:=W9.heap.size) (kb:=W9.heap.size + 1) (u:=pb) (KT:=KT) (hP _ (by omega)) (hP _ (by omega)) (hP _ (by omega)) ?_ ?_ ?_ HKH.out ?_ ?_ (by simp [go_sem];done) (by simp [go_sem];done) ?_ ?_ ?_ ?_ (LV.mono (LV.below HLV.out (hb3 _ _ _)) (fun z hz _ => Nat.le_trans hs8 hz)) <;> first | (simp [go_sem];done) | (simp;omega))
                    | (refine LV.uni (tb:=W9.heap.size + 1) (kb:=W9.heap.size) (u:=pb) (KT:=KT) (hP _ (by omega)) (hP _ (by omega)) (hP _ (by omega)) ?_ ?_ ?_ HKH.out ?_ ?_ (by simp [go_sem];done) (by simp [go_sem];done) ?_ ?_ ?_ ?_ (LV.mono (LV.below HLV.out (hb3 _ _ _)) (fun z hz _ => Nat.le_trans hs8 hz)) <;> first | (simp [go_sem];done) | (simp;omega)))
                · have m1 : ((b3 : Int) != 62) = true:=by rw [bne_iff_ne];omega
                  have HRES:=hid (OPEN.out (by rw [hl2];intro h;simp at h;exact h62 (by rw [← hb3,h];rfl)))
                  clear hl2 hb3 h62 g5
                  go_wp2_with fail
                  all_goals exact bodyPost_ret (v:=.tuple #[.pointer none, .string S, .bool false]) (by simp [results,Try.results46,go_sem, *]) rfl ⟨LrOut.no HRES.out ⟨_,_,rfl⟩,B9.out⟩
        · have m1 : ((b1 : Int) != 61) = true:=by rw [bne_iff_ne];omega
          have HRES:=hid (BAD.out (tok_eq (by rw [← HQQ.out,hl1];intro h;simp at h;exact h61 (by rw [← hb1,h];rfl))))
          clear hl1 hb1 h61 f5
          go_wp2_with fail
          all_goals exact bodyPost_ret (v:=.tuple #[.pointer none, .string S, .bool false]) (by simp [results,Try.results46,go_sem, *]) rfl ⟨LrOut.no HRES.out ⟨_,_,rfl⟩,B8.out⟩
end
end Go.Proofs.Ytidjpalnmnehmaa
