/- Packed by pack.py: Xn. -/
import Derived.Shelf.Strings.SlTrimAscii
import Derived.Shelf.Strings.Prefix
import Derived.Shelf.Strings.Cut
import Derived.Shelf.Strings.Search3
import Derived.Shelf.Strings.Split
import Derived.Shelf.Strings.SplitShaped
import Derived.Shelf.Strings.Shaped
import Derived.Shelf.Small.Wraps
import Derived.Shelf.Strings.OnBuilder
import Derived.Test.YtidjpalnmnehmaaF26
namespace Go.Proofs.Ytidjpalnmnehmaa
open Go.ChangeShapes Go.WideShapes Go.ChangeAt Go.RowKit Go.Lib
set_option linter.unusedVariables false
set_option linter.unusedSimpArgs false
theorem tagF_tok {t : Wf.Ty} {s : List UInt8} {f : Wf.Fd} (h : tagF t s = some f) : Wf.numTok 200 s = some (f.tag,s.dropWhile Wf.isDig) ∧ t.field f.tag = some f:=by
  unfold tagF at h
  cases hp : Wf.plainN (s.takeWhile Wf.isDig) 200 with
  | none => rw [hp] at h;cases h
  | some g =>
    rw [hp] at h
    have hg : t.field g = some f:=h
    have:=(Wf.field_mem hg).2
    exact ⟨by rw [Wf.numTok,hp,this];rfl,by rw [this];exact hg⟩
theorem parse_enm_tagF (x : Wf.Sc) (n : Nat) {nm : List UInt8} {t : Wf.Ty} (h : x.find nm = some t) (h69 : t.sort = 69) (r : List UInt8) : Wf.parse x (n + 1) (.ref nm) (35 :: r) = (tagF t r).map fun f => (.mk 69 [] f.tag [],r.dropWhile Wf.isDig):=by
  cases ht : tagF t r with
  | some f =>
    obtain ⟨h1,h2⟩:=tagF_tok ht
    rw [Wf.parse_enm_tag x n h h69 h1,h2]
    rfl
  | none =>
    unfold tagF at ht
    cases hp : Wf.plainN (r.takeWhile Wf.isDig) 200 with
    | none => exact Wf.parse_enm_num x n h h69 (by rw [Wf.numTok,hp];rfl)
    | some g =>
      rw [hp] at ht
      have hg : t.field g = none:=ht
      rw [Wf.parse_enm_tag x n h h69 (g:=g) (q:=r.dropWhile Wf.isDig) (by rw [Wf.numTok,hp];rfl),hg]
      rfl
theorem LV.enm {W : World} {P : Nat → Prop} {b tb g : Nat} {KT : ByteArray} (hp : P b) (htp : P tb) (hb : b < W.heap.size) (htb : tb < W.heap.size) (hk : KT.data.toList.head? = some 64)
    (c0 : W.cell? ⟨b,0,none⟩ = some (.string KT)) (c1 : W.cell? ⟨b,1,none⟩ = some (.string ⟨#[69]⟩)) (c2 : W.cell? ⟨b,2,none⟩ = some (.slice (some ⟨tb,0,none⟩) 1 1)) (c3 : W.cell? ⟨b,3,none⟩ = some (.slice none 0 0)) (ct : W.cell? ⟨tb,0,none⟩ = some (.int .i64 g)) (ft : W.frozen? ⟨tb,0,none⟩ = false) : LV W P (.mk 69 [] g []) b :=
  LV.mk (kd:=KT.data.toList) (t:=[69]) (bs:=[]) (tb:=tb) (kb:=0) (by decide) hp hb c0 c1 c2 c3 (row_one htb ct ft) (.inr htp) (row_nil _ _) (.inl rfl) ⟨hk,rfl⟩ (by simp only [LVs])
theorem LV.uni {W : World} {P : Nat → Prop} {b tb kb u g : Nat} {y : Wf.V} {KT : ByteArray} (hp : P b) (htp : P tb) (hkp : P kb) (hb : b < W.heap.size) (htb : tb < W.heap.size) (hkb : kb < W.heap.size) (hk : KT.data.toList.head? = some 64)
    (c0 : W.cell? ⟨b,0,none⟩ = some (.string KT)) (c1 : W.cell? ⟨b,1,none⟩ = some (.string ⟨#[85]⟩)) (c2 : W.cell? ⟨b,2,none⟩ = some (.slice (some ⟨tb,0,none⟩) 1 1)) (c3 : W.cell? ⟨b,3,none⟩ = some (.slice (some ⟨kb,0,none⟩) 1 1)) (ct : W.cell? ⟨tb,0,none⟩ = some (.int .i64 g)) (ft : W.frozen? ⟨tb,0,none⟩ = false) (ck : W.cell? ⟨kb,0,none⟩ = some (ptr u)) (fk : W.frozen? ⟨kb,0,none⟩ = false) (hu : LV W P y u) : LV W P (.mk 85 [] g [y]) b :=
  LV.mk (kd:=KT.data.toList) (t:=[85]) (bs:=[u]) (tb:=tb) (kb:=kb) (by decide) hp hb c0 c1 c2 c3 (row_one htb ct ft) (.inr htp) (row_one hkb ck fk) (.inr hkp) ⟨hk,rfl⟩ (by simp only [LVs];exact ⟨u,[],rfl,hu,rfl⟩)
theorem LV.opt1 {W : World} {P : Nat → Prop} {b kb u : Nat} {y : Wf.V} {KT : ByteArray} (hp : P b) (hkp : P kb) (hb : b < W.heap.size) (hkb : kb < W.heap.size) (hk : KT.data.toList.head? = some 63)
    (c0 : W.cell? ⟨b,0,none⟩ = some (.string KT)) (c1 : W.cell? ⟨b,1,none⟩ = some (.string ⟨#[]⟩)) (c2 : W.cell? ⟨b,2,none⟩ = some (.slice none 0 0)) (c3 : W.cell? ⟨b,3,none⟩ = some (.slice (some ⟨kb,0,none⟩) 1 1)) (ck : W.cell? ⟨kb,0,none⟩ = some (ptr u)) (fk : W.frozen? ⟨kb,0,none⟩ = false) (hu : LV W P y u) : LV W P (.mk 63 [] 0 [y]) b :=
  LV.mk (kd:=KT.data.toList) (t:=[]) (bs:=[u]) (tb:=0) (kb:=kb) (by decide) hp hb c0 c1 c2 c3 (row_nil _ _) (.inl rfl) (row_one hkb ck fk) (.inr hkp) ⟨hk,rfl⟩ (by simp only [LVs];exact ⟨u,[],rfl,hu,rfl⟩)
structure FBk (W3 wx : World) (b : Nat) (g : Int) (A B C : ByteArray) : Prop where
  lt : b < wx.heap.size
  le : W3.heap.size ≤ b
  bl : Below W3.heap.size W3 wx
  f0 : wx.cell? ⟨b,0,none⟩ = some (.int .i64 g)
  f1 : wx.cell? ⟨b,1,none⟩ = some (.string A)
  f2 : wx.cell? ⟨b,2,none⟩ = some (.string B)
  f3 : wx.cell? ⟨b,3,none⟩ = some (.string C)
theorem FBk.after {W3 w7 : World} {g : Int} {A B C : ByteArray} (h : Below W3.heap.size W3 w7) : FBk W3 (w7.alloc (.cells #[.int .i64 g, .string A, .string B, .string C] 85)) w7.heap.size g A B C :=
  ⟨by simp,h.size,h.alloc h.size _,by simp [go_sem],by simp [go_sem],by simp [go_sem],by simp [go_sem]⟩
theorem FBk.before {W3 w7 : World} {g : Int} {A B C : ByteArray} (h : Below W3.heap.size W3 w7) (hlt : W3.heap.size < w7.heap.size) {a0 a1 a2 a3 : Value} (u0 : w7.cell? ⟨W3.heap.size,0,none⟩ = some a0) (u1 : w7.cell? ⟨W3.heap.size,1,none⟩ = some a1) (u2 : w7.cell? ⟨W3.heap.size,2,none⟩ = some a2) (u3 : w7.cell? ⟨W3.heap.size,3,none⟩ = some a3) : FBk W3 ((((w7.setCell ⟨W3.heap.size,0,none⟩ (.int .i64 g)).setCell ⟨W3.heap.size,1,none⟩ (.string A)).setCell ⟨W3.heap.size,2,none⟩ (.string B)).setCell ⟨W3.heap.size,3,none⟩ (.string C)) W3.heap.size g A B C :=
  ⟨by simpa using hlt,Nat.le_refl _,(((h.setCell (Nat.le_refl _) _).setCell (Nat.le_refl _) _).setCell (Nat.le_refl _) _).setCell (Nat.le_refl _) _,by simp [go_sem,u0,u1,u2,u3],by simp [go_sem,u0,u1,u2,u3],by simp [go_sem,u0,u1,u2,u3],by simp [go_sem,u0,u1,u2,u3]⟩
theorem three {p : Option Addr} {r : ByteArray} {b : Bool} {p' r' b' : Value} (h : Ending.returned (.tuple #[.pointer p, .string r, .bool b]) = .returned (.tuple #[p',r',b'])) : Value.pointer p = p' ∧ Value.string r = r' ∧ Value.bool b = b':=by
  injection h with h
  injection h with h
  have:=congrArg Array.toList h
  simpa using this
section
variable (x : Wf.Sc) (v : Value) (W : World) (n : Nat) (t : Wf.Ty) (nm : List UInt8) (S : ByteArray) (D : Int) (w : World)
set_option maxRecDepth 20000 in
set_option maxHeartbeats 8000000 in
theorem nm_enm (KT N R : ByteArray) (fn : Nat) (h0 : 1 ≤ S.size) (hk : KT.data.toList.head? = some 64) (e1 : ∀ h,(S[0]'h).toNat = 35) (hR : S.extract 1 S.size = R) (h69 : t.sort = 69)
    (href : ∀ wz,Below w.heap.size w wz → Calls Try.prog 52 #[v, .string KT] wz fun e w' => (∃ fb fa fc,e = .returned (.tuple #[.agg #[.int .u8 69, .string N, .slice fa fn fc], .bool true]) ∧ RowK W fb (.slice fa fn fc) 4 (t.fields.map (fdS t.sort))) ∧ Below wz.heap.size wz w')
    (htag : ∀ fb fa fc wz,RowK W fb (.slice fa fn fc) 4 (t.fields.map (fdS t.sort)) → Below w.heap.size w wz → Calls Try.prog 55 #[.agg #[v], .string R, .agg #[.int .u8 69, .string N, .slice fa fn fc]] wz fun e w' => TagOut t R.data.toList e ∧ Below wz.heap.size wz w')
    : Calls Try.prog 46 #[.agg #[v], .string S, .string KT, .int .i64 D] w fun e w' => LrOut ((tagF t R.data.toList).map fun f => (.mk 69 [] f.tag [],R.data.toList.dropWhile Wf.isDig)) w e w' ∧ Below w.heap.size w w':=by
  have HREF:=hid href
  have HTAG:=hid htag
  have HKH:=hid hk
  have h00 : 0 < S.size:=h0
  have kx : ∀ wz,(Instr.slice 9 (.string S) (some (.int .i64 1)) none none).run Try.prog wz = .ok (.string R) wz:=fun wz => by
    have h:=sl_suf S 1 h0 wz
    rw [hR] at h
    exact h
  clear href htag hR hk
  obtain ⟨Q,hQ⟩ : ∃ Q : ByteArray,(⟨(R.data.toList.dropWhile Wf.isDig).toArray⟩ : ByteArray) = Q:=⟨_,rfl⟩
  cases htf : tagF t R.data.toList with
  | none =>
    have HO:=hid fun (e : Ending) (h : TagOut t R.data.toList e) => (by unfold TagOut at h;rw [htf,tx,hQ] at h;exact h : ∃ (m : Int) (a b c : ByteArray),e = .returned (.tuple #[.agg #[.int .i64 m, .string a, .string b, .string c], .string Q, .bool false]))
    clear htf hQ
    go_enter Try.func46,Try.ntmps46
    go_wp2_with (go_at_call 52;refine (HREF.out _ ((Below.refl _ _).alloc (Nat.le_refl _) _)).mono ?_;rintro e w2 ⟨⟨fb,fa,fc,rfl,hrow⟩,hb2⟩;have HROW:=hid hrow;have HB2:=hid (below_join ((Below.refl w.heap.size w).alloc (Nat.le_refl _) _) hb2);have r0:=hb2.cell (p:=⟨w.heap.size,0,none⟩) (by simp);have hlw2:=Nat.lt_of_lt_of_le (show w.heap.size < (w.alloc (.cells #[v] 65)).heap.size by simp) hb2.size;clear hrow hb2)
    have c0 : (w2.alloc (.cells #[.int .u8 69, .string N, .slice fa fn fc] 78)).cell? ⟨w.heap.size,0,none⟩ = some v:=by
      rw [World.cell?_alloc_lt w2 _ ⟨w.heap.size,0,none⟩ hlw2,r0];simp [go_sem]
    have z0 : (w2.alloc (.cells #[.int .u8 69, .string N, .slice fa fn fc] 78)).cell? ⟨w2.heap.size,0,none⟩ = some (.int .u8 69):=by simp [go_sem]
    have z1 : (w2.alloc (.cells #[.int .u8 69, .string N, .slice fa fn fc] 78)).cell? ⟨w2.heap.size,1,none⟩ = some (.string N):=by simp [go_sem]
    have z2 : (w2.alloc (.cells #[.int .u8 69, .string N, .slice fa fn fc] 78)).cell? ⟨w2.heap.size,2,none⟩ = some (.slice fa fn fc):=by simp [go_sem]
    have B3:=hid (HB2.out.alloc HB2.out.size (.cells #[.int .u8 69, .string N, .slice fa fn fc] 78))
    have hl3 : w2.heap.size < (w2.alloc (.cells #[.int .u8 69, .string N, .slice fa fn fc] 78)).heap.size:=by simp
    obtain ⟨W3,hW3⟩ : ∃ W3,w2.alloc (.cells #[.int .u8 69, .string N, .slice fa fn fc] 78) = W3:=⟨_,rfl⟩
    rw [hW3] at c0 z0 z1 z2 B3 hl3
    rw [hW3]
    clear hW3 r0
    have hlw3 : w.heap.size < W3.heap.size:=by omega
    have ha0 : ∀ o,(W3.alloc o).cell? ⟨w.heap.size,0,none⟩ = some v:=fun o => (World.cell?_alloc_lt W3 o ⟨w.heap.size,0,none⟩ hlw3).trans c0
    have ha1 : ∀ o,(W3.alloc o).cell? ⟨w2.heap.size,0,none⟩ = some (.int .u8 69):=fun o => (World.cell?_alloc_lt W3 o ⟨w2.heap.size,0,none⟩ hl3).trans z0
    have ha2 : ∀ o,(W3.alloc o).cell? ⟨w2.heap.size,1,none⟩ = some (.string N):=fun o => (World.cell?_alloc_lt W3 o ⟨w2.heap.size,1,none⟩ hl3).trans z1
    have ha3 : ∀ o,(W3.alloc o).cell? ⟨w2.heap.size,2,none⟩ = some (.slice fa fn fc):=fun o => (World.cell?_alloc_lt W3 o ⟨w2.heap.size,2,none⟩ hl3).trans z2
    go_cut [13,14,15] (fun sa sb sc wx => ∃ (b : Nat) (gm : Int) (gA gB gC : ByteArray),sa = ptr b ∧ sb = .string Q ∧ sc = .bool false ∧ Hid (FBk W3 wx b gm gA gB gC))
    case first =>
      go_region_law (first | ((try go_simp);go_at_call 55;refine (HTAG.out fb fa fc _ HROW.out (by first | exact B3.out.drew | exact (B3.out.alloc B3.out.size _).drew | exact B3.out.drew.alloc B3.out.size _)).mono ?_;rintro e w7 ⟨ho,hb7⟩;obtain ⟨gm,gA,gB,gC,rfl⟩:=HO.out _ ho;have u0:=(hb7.cell (p:=⟨W3.heap.size,0,none⟩) (by simp)).trans (by simp [go_sem] : _ = some (.int .i64 0));have u1:=(hb7.cell (p:=⟨W3.heap.size,1,none⟩) (by simp)).trans (by simp [go_sem] : _ = some (.string ⟨#[]⟩));have u2:=(hb7.cell (p:=⟨W3.heap.size,2,none⟩) (by simp)).trans (by simp [go_sem] : _ = some (.string ⟨#[]⟩));have u3:=(hb7.cell (p:=⟨W3.heap.size,3,none⟩) (by simp)).trans (by simp [go_sem] : _ = some (.string ⟨#[]⟩));have v0:=(hb7.frozen (p:=⟨W3.heap.size,0,none⟩) (by simp)).trans (by simp [go_sem] : _ = false);have v1:=(hb7.frozen (p:=⟨W3.heap.size,1,none⟩) (by simp)).trans (by simp [go_sem] : _ = false);have v2:=(hb7.frozen (p:=⟨W3.heap.size,2,none⟩) (by simp)).trans (by simp [go_sem] : _ = false);have hs7 : W3.heap.size < w7.heap.size:=Nat.lt_of_lt_of_le (by simp) hb7.size;have v3:=(hb7.frozen (p:=⟨W3.heap.size,3,none⟩) (by simp)).trans (by simp [go_sem] : _ = false);have HB7:=hid (show Below W3.heap.size W3 w7 from (by first | exact (((Below.refl W3.heap.size W3).alloc (Nat.le_refl _) _).drew).trans (hb7.mono (by simp)) | exact (((Below.refl W3.heap.size W3).drew.alloc (Nat.le_refl _) _)).trans (hb7.mono (by simp))));clear ho hb7) | ((try go_simp);go_at_call 55;refine (HTAG.out fb fa fc _ HROW.out (by first | exact B3.out.drew)).mono ?_;rintro e w7 ⟨ho,hb7⟩;obtain ⟨gm,gA,gB,gC,rfl⟩:=HO.out _ ho;have HB7:=hid (Below.drew (Below.refl W3.heap.size W3) |>.trans hb7);clear ho hb7))
      all_goals (go_wp2_with fail;go_meet)
      all_goals first | exact ⟨_,_,_,_,_,rfl,rfl,rfl,hid (FBk.after HB7.out)⟩ | exact ⟨_,_,_,_,_,rfl,rfl,rfl,hid (FBk.before HB7.out hs7 u0 u1 u2 u3)⟩
    case rest =>
      obtain ⟨fb8,gm,gA,gB,gC,rfl,rfl,rfl,hc8⟩:=hcut
      obtain ⟨W8,hW8⟩ : ∃ W8,W8 = wc:=⟨_,rfl⟩
      subst hW8
      have y0:=hc8.out.f0
      have hl8 : fb8 < W8.heap.size:=hc8.out.lt
      have B8:=hid (B3.out.trans (hc8.out.bl.mono B3.out.size))
      have hs8:=B8.out.size
      go_wp2_with fail
      all_goals exact bodyPost_ret (v:=.tuple #[ptr (W8.heap.size + 1), .string Q, .bool false]) (by simp [results,Try.results46,go_sem, *]) rfl ⟨⟨_,_,rfl⟩,(B8.out.alloc hs8 _).alloc (by simp;omega) _⟩
  | some f =>
    obtain ⟨G,hG⟩ : ∃ G,f.tag = G:=⟨_,rfl⟩
    obtain ⟨FN,hFN⟩ : ∃ FN : ByteArray,(⟨f.name.toArray⟩ : ByteArray) = FN:=⟨_,rfl⟩
    obtain ⟨FG,hFG⟩ : ∃ FG : ByteArray,(⟨f.given.toArray⟩ : ByteArray) = FG:=⟨_,rfl⟩
    have HO:=hid fun (e : Ending) (h : TagOut t R.data.toList e) => (by unfold TagOut at h;rw [htf] at h;dsimp only at h;rw [if_pos h69,hG] at h;simp only [tx,hFN,hFG,hQ] at h;exact h : e = .returned (.tuple #[.agg #[.int .i64 G, .string FN, .string ⟨#[]⟩, .string FG], .string Q, .bool true]))
    have HQQ:=hid hQ
    clear htf hQ hFN hFG
    simp only [Option.map_some,hG]
    go_enter Try.func46,Try.ntmps46
    go_wp2_with (go_at_call 52;refine (HREF.out _ ((Below.refl _ _).alloc (Nat.le_refl _) _)).mono ?_;rintro e w2 ⟨⟨fb,fa,fc,rfl,hrow⟩,hb2⟩;have HROW:=hid hrow;have HB2:=hid (below_join ((Below.refl w.heap.size w).alloc (Nat.le_refl _) _) hb2);have r0:=hb2.cell (p:=⟨w.heap.size,0,none⟩) (by simp);have hlw2:=Nat.lt_of_lt_of_le (show w.heap.size < (w.alloc (.cells #[v] 65)).heap.size by simp) hb2.size;clear hrow hb2)
    have c0 : (w2.alloc (.cells #[.int .u8 69, .string N, .slice fa fn fc] 78)).cell? ⟨w.heap.size,0,none⟩ = some v:=by
      rw [World.cell?_alloc_lt w2 _ ⟨w.heap.size,0,none⟩ hlw2,r0];simp [go_sem]
    have z0 : (w2.alloc (.cells #[.int .u8 69, .string N, .slice fa fn fc] 78)).cell? ⟨w2.heap.size,0,none⟩ = some (.int .u8 69):=by simp [go_sem]
    have z1 : (w2.alloc (.cells #[.int .u8 69, .string N, .slice fa fn fc] 78)).cell? ⟨w2.heap.size,1,none⟩ = some (.string N):=by simp [go_sem]
    have z2 : (w2.alloc (.cells #[.int .u8 69, .string N, .slice fa fn fc] 78)).cell? ⟨w2.heap.size,2,none⟩ = some (.slice fa fn fc):=by simp [go_sem]
    have B3:=hid (HB2.out.alloc HB2.out.size (.cells #[.int .u8 69, .string N, .slice fa fn fc] 78))
    have hl3 : w2.heap.size < (w2.alloc (.cells #[.int .u8 69, .string N, .slice fa fn fc] 78)).heap.size:=by simp
    obtain ⟨W3,hW3⟩ : ∃ W3,w2.alloc (.cells #[.int .u8 69, .string N, .slice fa fn fc] 78) = W3:=⟨_,rfl⟩
    rw [hW3] at c0 z0 z1 z2 B3 hl3
    rw [hW3]
    clear hW3 r0
    have hlw3 : w.heap.size < W3.heap.size:=by omega
    have ha0 : ∀ o,(W3.alloc o).cell? ⟨w.heap.size,0,none⟩ = some v:=fun o => (World.cell?_alloc_lt W3 o ⟨w.heap.size,0,none⟩ hlw3).trans c0
    have ha1 : ∀ o,(W3.alloc o).cell? ⟨w2.heap.size,0,none⟩ = some (.int .u8 69):=fun o => (World.cell?_alloc_lt W3 o ⟨w2.heap.size,0,none⟩ hl3).trans z0
    have ha2 : ∀ o,(W3.alloc o).cell? ⟨w2.heap.size,1,none⟩ = some (.string N):=fun o => (World.cell?_alloc_lt W3 o ⟨w2.heap.size,1,none⟩ hl3).trans z1
    have ha3 : ∀ o,(W3.alloc o).cell? ⟨w2.heap.size,2,none⟩ = some (.slice fa fn fc):=fun o => (World.cell?_alloc_lt W3 o ⟨w2.heap.size,2,none⟩ hl3).trans z2
    go_cut [13,14,15] (fun sa sb sc wx => ∃ (b : Nat) (gm : Int) (gA gB gC : ByteArray),sa = ptr b ∧ sb = .string Q ∧ sc = .bool true ∧ Hid (FBk W3 wx b gm gA gB gC ∧ gm = G))
    case first =>
      go_region_law (first | ((try go_simp);go_at_call 55;refine (HTAG.out fb fa fc _ HROW.out (by first | exact B3.out.drew | exact (B3.out.alloc B3.out.size _).drew | exact B3.out.drew.alloc B3.out.size _)).mono ?_;rintro e w7 ⟨ho,hb7⟩;obtain rfl:=HO.out _ ho;have u0:=(hb7.cell (p:=⟨W3.heap.size,0,none⟩) (by simp)).trans (by simp [go_sem] : _ = some (.int .i64 0));have u1:=(hb7.cell (p:=⟨W3.heap.size,1,none⟩) (by simp)).trans (by simp [go_sem] : _ = some (.string ⟨#[]⟩));have u2:=(hb7.cell (p:=⟨W3.heap.size,2,none⟩) (by simp)).trans (by simp [go_sem] : _ = some (.string ⟨#[]⟩));have u3:=(hb7.cell (p:=⟨W3.heap.size,3,none⟩) (by simp)).trans (by simp [go_sem] : _ = some (.string ⟨#[]⟩));have v0:=(hb7.frozen (p:=⟨W3.heap.size,0,none⟩) (by simp)).trans (by simp [go_sem] : _ = false);have v1:=(hb7.frozen (p:=⟨W3.heap.size,1,none⟩) (by simp)).trans (by simp [go_sem] : _ = false);have v2:=(hb7.frozen (p:=⟨W3.heap.size,2,none⟩) (by simp)).trans (by simp [go_sem] : _ = false);have hs7 : W3.heap.size < w7.heap.size:=Nat.lt_of_lt_of_le (by simp) hb7.size;have v3:=(hb7.frozen (p:=⟨W3.heap.size,3,none⟩) (by simp)).trans (by simp [go_sem] : _ = false);have HB7:=hid (show Below W3.heap.size W3 w7 from (by first | exact (((Below.refl W3.heap.size W3).alloc (Nat.le_refl _) _).drew).trans (hb7.mono (by simp)) | exact (((Below.refl W3.heap.size W3).drew.alloc (Nat.le_refl _) _)).trans (hb7.mono (by simp))));clear ho hb7) | ((try go_simp);go_at_call 55;refine (HTAG.out fb fa fc _ HROW.out (by first | exact B3.out.drew)).mono ?_;rintro e w7 ⟨ho,hb7⟩;obtain rfl:=HO.out _ ho;have HB7:=hid (Below.drew (Below.refl W3.heap.size W3) |>.trans hb7);clear ho hb7))
      all_goals (go_wp2_with fail;go_meet)
      all_goals first | exact ⟨_,_,_,_,_,rfl,rfl,rfl,hid ⟨(FBk.after HB7.out),rfl⟩⟩ | exact ⟨_,_,_,_,_,rfl,rfl,rfl,hid ⟨(FBk.before HB7.out hs7 u0 u1 u2 u3),rfl⟩⟩
    case rest =>
      obtain ⟨fb8,gm,gA,gB,gC,rfl,rfl,rfl,hc8⟩:=hcut
      obtain ⟨W8,hW8⟩ : ∃ W8,W8 = wc:=⟨_,rfl⟩
      subst hW8
      obtain ⟨hfb,rfl⟩:=hc8.out
      have y0:=hfb.f0
      have hl8 : fb8 < W8.heap.size:=hfb.lt
      have B8:=hid (B3.out.trans (hfb.bl.mono B3.out.size))
      have hs8:=B8.out.size
      clear hfb
      go_wp2_with fail
      all_goals exact bodyPost_ret (v:=.tuple #[ptr (W8.heap.size + 1), .string Q, .bool true]) (by simp [results,Try.results46,go_sem, *]) rfl (by
        refine ⟨LrOut.yes rfl ⟨W8.heap.size + 1,by rw [tx,HQQ.out],LV.enm (tb:=W8.heap.size) (KT:=KT) (by omega) (by omega) (by first | (simp;done) | (simp;omega)) (by first | (simp;done) | (simp;omega)) HKH.out ?_ ?_ ?_ ?_ ?_ ?_⟩,(B8.out.alloc hs8 _).alloc (by simp;omega) _⟩
        all_goals (simp [go_sem];done))
end
end Go.Proofs.Ytidjpalnmnehmaa
