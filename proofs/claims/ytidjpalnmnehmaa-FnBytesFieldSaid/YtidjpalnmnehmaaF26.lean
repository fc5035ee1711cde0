/- Packed by pack.py: Xm. -/
import Derived.Shelf.Strings.SlTrimAscii
import Derived.Shelf.Strings.Prefix
import Derived.Shelf.Strings.Cut
import Derived.Shelf.Strings.Search3
import Derived.Shelf.Strings.Split
import Derived.Shelf.Strings.SplitShaped
import Derived.Shelf.Strings.Shaped
import Derived.Shelf.Small.Wraps
import Derived.Shelf.Strings.OnBuilder
import Derived.Test.YtidjpalnmnehmaaF25
namespace Go.Proofs.Ytidjpalnmnehmaa
open Go.ChangeShapes Go.WideShapes Go.ChangeAt Go.RowKit Go.Lib
set_option linter.unusedVariables false
set_option linter.unusedSimpArgs false
theorem LrOut.mono {o : Option (Wf.V × List UInt8)} {w wz w' : World} {e : Ending} (h : LrOut o wz e w') (hs : w.heap.size ≤ wz.heap.size) : LrOut o w e w':=by
  cases o with
  | none => exact h
  | some y =>
    obtain ⟨b,h1,h2⟩:=h
    exact ⟨b,h1,LV.mono h2 fun z h3 _ => Nat.le_trans hs h3⟩
theorem LrOut.below {o : Option (Wf.V × List UInt8)} {w w1 w' : World} {e : Ending} (h : LrOut o w e w1) (hb : Below w1.heap.size w1 w') : LrOut o w e w':=by
  cases o with
  | none => exact h
  | some y =>
    obtain ⟨b,h1,h2⟩:=h
    exact ⟨b,h1,LV.below h2 hb⟩
theorem LrOut.form {o : Option (Wf.V × List UInt8)} {w w' : World} {e : Ending} (h : LrOut o w e w') : ∃ (p : Option Addr) (r : ByteArray) (b : Bool),e = .returned (.tuple #[.pointer p, .string r, .bool b]) ∧ LrOut o w (.returned (.tuple #[.pointer p, .string r, .bool b])) w':=by
  cases o with
  | none =>
    obtain ⟨p,r,rfl⟩:=h
    exact ⟨p,r,false,rfl,p,r,rfl⟩
  | some y =>
    obtain ⟨b,rfl,h2⟩:=h
    exact ⟨_,_,_,rfl,b,rfl,h2⟩
theorem row_one {W : World} {tb : Nat} {u : Value} (hlt : tb < W.heap.size) (c : W.cell? ⟨tb,0,none⟩ = some u) (f : W.frozen? ⟨tb,0,none⟩ = false) : RowAt W tb (.slice (some ⟨tb,0,none⟩) 1 1) [u] :=
  ⟨_,1,rfl,Nat.le_refl _,by unfold maxLen;omega, .inr ⟨0,rfl,hlt,fun i hi => by
    simp at hi
    subst hi
    exact ⟨c,f⟩⟩⟩
section
variable (x : Wf.Sc) (v : Value) (W : World) (n : Nat) (t : Wf.Ty) (nm : List UInt8) (S : ByteArray) (D : Int) (w : World)
set_option maxRecDepth 20000 in
set_option maxHeartbeats 1000000 in
theorem l4rec_nil (q : List UInt8) (hf : x.find nm = some t) (h82 : t.sort = 82) (fn fc : Nat) (fa : Option Addr) (N : ByteArray) (hS : S.data.toList = 125 :: q) : Calls Try.prog 54 #[.agg #[v], .string S,tx (Wf.K.ref nm).text, .agg #[.int .u8 82, .string N, .slice fa fn fc], .int .i64 D] w fun e w' => LrOut (Wf.parse x (n + 1) (.ref nm) (123 :: S.data.toList)) w e w' ∧ Below w.heap.size w w':=by
  have HP:=hid (show Wf.parse x (n + 1) (.ref nm) (123 :: S.data.toList) = some (.mk 82 [] 0 [],q) by rw [hS];exact Wf.parse_rec_nil x n hf h82 q)
  obtain ⟨KT,hKT⟩ : ∃ KT : ByteArray,(⟨(Wf.K.ref nm).text.toArray⟩ : ByteArray) = KT:=⟨_,rfl⟩
  have HKH:=hid (show KT.data.toList.head? = some 64 by rw [← hKT];rfl)
  have hss : 1 ≤ S.size:=by rw [← size_list,hS];simp
  have hs0 : 0 < S.size:=hss
  obtain ⟨Q1,hQ1⟩ : ∃ Q1 : ByteArray,(⟨q.toArray⟩ : ByteArray) = Q1:=⟨_,rfl⟩
  have kx : ∀ wz,(Instr.slice 9 (.string S) (some (.int .i64 1)) none none).run Try.prog wz = .ok (.string Q1) wz:=fun wz => by
    have h:=sl_suf S 1 hss wz
    have he : S.extract 1 S.size = Q1:=by rw [← hQ1,eq_list,suf_list,hS];rfl
    rw [he] at h
    exact h
  have HQ1:=hid hQ1
  have e1 : ∀ h,(S[0]'h).toNat = 125:=fun h => by
    obtain ⟨c,hc,e⟩:=byte_at S 0 hs0
    rw [hS] at hc
    simp at hc
    rw [e h,← hc]
    rfl
  have hse : S.toList.isEmpty = false:=by rw [ByteArray.toList_eq,hS];rfl
  have hse2 : S.toList ≠ []:=by rw [ByteArray.toList_eq,hS];exact List.cons_ne_nil _ _
  have ST:=hid fun W1 h => start_lrec w v 82 fn fc N KT fa W1 h
  rw [tx,hKT]
  clear hKT hQ1 hS hf h82
  go_enter Try.func54,Try.ntmps54
  go_wp2_with fail
  obtain ⟨vb0,kb0,t20⟩:=ST.out _ rfl
  have VB0:=hid vb0
  have KB0:=hid kb0
  clear vb0 kb0 t20
  go_quiet (fail)
  all_goals (go_wp2_with fail)
  all_goals exact bodyPost_ret (v:=.tuple #[ptr (w.heap.size + 1 + 1), .string Q1, .bool true]) (by simp [results,Try.results54,go_sem, *]) rfl ⟨LrOut.yes HP.out ⟨w.heap.size + 1 + 1,by rw [← HQ1.out],LV.below (KB0.out.record rfl VB0.out HKH.out) ⟨rfl,rfl,rfl,Nat.le_refl _,fun _ _ => rfl⟩⟩,VB0.out.bl.trans ⟨rfl,rfl,rfl,Nat.le_refl _,fun _ _ => rfl⟩⟩
theorem l4record (hx : Wf.ScOk x) (lo bsc : Nat) (hsp : ScSp W lo bsc v x) (htx : t ∈ x) (hf : x.find nm = some t) (fb fc : Nat) (fa : Option Addr) (hrow : RowK W fb (.slice fa t.fields.length fc) 4 (t.fields.map (fdS t.sort))) (h82 : t.sort = 82) (hS : S.size ≤ 1048576) (hD : D = (n : Int) + 1) (hn : n ≤ 1000) (IH : ∀ f ∈ t.fields,LR x v W n f.kind) (hW : Below W.heap.size W w) : Calls Try.prog 54 #[.agg #[v], .string S,tx (Wf.K.ref nm).text, .agg #[.int .u8 82,tx t.name, .slice fa t.fields.length fc], .int .i64 D] w fun e w' => LrOut (Wf.parse x (n + 1) (.ref nm) (123 :: S.data.toList)) w e w' ∧ Below w.heap.size w w':=by
  by_cases h : S.data.toList.head? = some 125
  · cases hl : S.data.toList with
    | nil => rw [hl] at h;simp at h
    | cons a q =>
      rw [hl] at h
      simp at h
      subst h
      have:=l4rec_nil x v n t nm S D w q hf h82 t.fields.length fc fa ⟨t.name.toArray⟩ hl
      rw [hl] at this
      exact this
  · exact l4rec_items x v W n t nm S D w hx lo bsc hsp htx hf fb fc fa hrow h82 hS hD hn h IH hW
theorem ref_found (hx : Wf.ScOk x) (lo bsc : Nat) (hsp : ScSp W lo bsc v x) (hf : x.find nm = some t) (hnm : (Wf.K.ref nm).text.length ≤ 1000000) (wz : World) (hz : Below W.heap.size W wz) : Calls Try.prog 52 #[v,tx (Wf.K.ref nm).text] wz fun e w' => (∃ fb fa fc,e = .returned (.tuple #[.agg #[.int .u8 t.sort.toNat,tx t.name, .slice fa t.fields.length fc], .bool true]) ∧ RowK W fb (.slice fa t.fields.length fc) 4 (t.fields.map (fdS t.sort))) ∧ Below wz.heap.size wz w':=by
  refine (l3ref x lo bsc v (.ref nm) hnm W wz hz (by have:=hx.len;omega) hsp).mono fun e w' ⟨h1,h2⟩ => ⟨?_,h2⟩
  unfold TyFound at h1
  simp only [refT,hf] at h1
  obtain ⟨fb,a,c,h3,_,h5⟩:=h1
  exact ⟨fb,a,c,h3,h5⟩
set_option maxRecDepth 20000 in
set_option maxHeartbeats 1000000 in
theorem nm_no (q b0 : Nat) (KT N : ByteArray) (fn : Nat) (h0 : 0 < S.size) (e1 : ∀ h,(S[0]'h).toNat = b0) (hq : (q = 82 ∧ ((b0 : Int) == 123) = false) ∨ (q = 69 ∧ ((b0 : Int) == 35) = false) ∨ (q = 85 ∧ ((b0 : Int) == 60) = false))
    (href : ∀ wz,Below w.heap.size w wz → Calls Try.prog 52 #[v, .string KT] wz fun e w' => (∃ fa fc,e = .returned (.tuple #[.agg #[.int .u8 q, .string N, .slice fa fn fc], .bool true])) ∧ Below wz.heap.size wz w') (o : Option (Wf.V × List UInt8)) (ho : o = none) : Calls Try.prog 46 #[.agg #[v], .string S, .string KT, .int .i64 D] w fun e w' => LrOut o w e w' ∧ Below w.heap.size w w':=by
  have HREF:=hid href
  have HO:=hid ho
  clear href ho
  rcases hq with ⟨rfl,hq1⟩ | ⟨rfl,hq1⟩ | ⟨rfl,hq1⟩
  all_goals
    go_enter Try.func46,Try.ntmps46
    go_wp2_with (go_at_call 52;refine (HREF.out _ ((Below.refl _ _).alloc (Nat.le_refl _) _)).mono ?_;rintro e w2 ⟨⟨fa,fc,rfl⟩,hb2⟩;have HB2:=hid (below_join ((Below.refl w.heap.size w).alloc (Nat.le_refl _) _) hb2);clear hb2)
    all_goals exact bodyPost_ret (v:=.tuple #[.pointer none, .string S, .bool false]) (by simp [results,Try.results46,go_sem, *]) rfl ⟨LrOut.no HO.out ⟨_,_,rfl⟩,HB2.out.alloc HB2.out.size _⟩
set_option maxRecDepth 20000 in
set_option maxHeartbeats 1000000 in
theorem nm_rec (KT N R : ByteArray) (fn : Nat) (h0 : 1 ≤ S.size) (e1 : ∀ h,(S[0]'h).toNat = 123) (hR : S.extract 1 S.size = R) (o : Option (Wf.V × List UInt8))
    (href : ∀ wz,Below w.heap.size w wz → Calls Try.prog 52 #[v, .string KT] wz fun e w' => (∃ fb fa fc,e = .returned (.tuple #[.agg #[.int .u8 82, .string N, .slice fa fn fc], .bool true]) ∧ RowK W fb (.slice fa fn fc) 4 (t.fields.map (fdS t.sort))) ∧ Below wz.heap.size wz w')
    (hrec : ∀ fb fa fc wz,RowK W fb (.slice fa fn fc) 4 (t.fields.map (fdS t.sort)) → Below w.heap.size w wz → Calls Try.prog 54 #[.agg #[v], .string R, .string KT, .agg #[.int .u8 82, .string N, .slice fa fn fc], .int .i64 D] wz fun e w' => LrOut o wz e w' ∧ Below wz.heap.size wz w') :
    Calls Try.prog 46 #[.agg #[v], .string S, .string KT, .int .i64 D] w fun e w' => LrOut o w e w' ∧ Below w.heap.size w w':=by
  have HREF:=hid href
  have HREC:=hid hrec
  have h00 : 0 < S.size:=h0
  have kx : ∀ wz,(Instr.slice 9 (.string S) (some (.int .i64 1)) none none).run Try.prog wz = .ok (.string R) wz:=fun wz => by
    have h:=sl_suf S 1 h0 wz
    rw [hR] at h
    exact h
  clear href hrec hR
  go_enter Try.func46,Try.ntmps46
  go_wp2_with (go_at_call 52;refine (HREF.out _ ((Below.refl _ _).alloc (Nat.le_refl _) _)).mono ?_;rintro e w2 ⟨⟨fb,fa,fc,rfl,hrow⟩,hb2⟩;have HROW:=hid hrow;have HB2:=hid (below_join ((Below.refl w.heap.size w).alloc (Nat.le_refl _) _) hb2);have r0:=hb2.cell (p:=⟨w.heap.size,0,none⟩) (by simp);have hlw2:=Nat.lt_of_lt_of_le (show w.heap.size < (w.alloc (.cells #[v] 65)).heap.size by simp) hb2.size;clear hrow hb2)
  have c0 : (w2.alloc (.cells #[.int .u8 82, .string N, .slice fa fn fc] 78)).cell? ⟨w.heap.size,0,none⟩ = some v:=by
    rw [World.cell?_alloc_lt w2 _ ⟨w.heap.size,0,none⟩ hlw2,r0];simp [go_sem]
  have z0 : (w2.alloc (.cells #[.int .u8 82, .string N, .slice fa fn fc] 78)).cell? ⟨w2.heap.size,0,none⟩ = some (.int .u8 82):=by simp [go_sem]
  have z1 : (w2.alloc (.cells #[.int .u8 82, .string N, .slice fa fn fc] 78)).cell? ⟨w2.heap.size,1,none⟩ = some (.string N):=by simp [go_sem]
  have z2 : (w2.alloc (.cells #[.int .u8 82, .string N, .slice fa fn fc] 78)).cell? ⟨w2.heap.size,2,none⟩ = some (.slice fa fn fc):=by simp [go_sem]
  have B3:=hid (HB2.out.alloc HB2.out.size (.cells #[.int .u8 82, .string N, .slice fa fn fc] 78))
  have hl3 : w2.heap.size < (w2.alloc (.cells #[.int .u8 82, .string N, .slice fa fn fc] 78)).heap.size:=by simp
  obtain ⟨W3,hW3⟩ : ∃ W3,w2.alloc (.cells #[.int .u8 82, .string N, .slice fa fn fc] 78) = W3:=⟨_,rfl⟩
  rw [hW3] at c0 z0 z1 z2 B3 hl3
  rw [hW3]
  clear hW3 r0
  have hlw3 : w.heap.size < W3.heap.size:=by omega
  go_region_held3 (fun w' => w'.cell? ⟨w.heap.size,0,none⟩ = some v ∧ w'.cell? ⟨w2.heap.size,0,none⟩ = some (.int .u8 82) ∧ w'.cell? ⟨w2.heap.size,1,none⟩ = some (.string N) ∧ w'.cell? ⟨w2.heap.size,2,none⟩ = some (.slice fa fn fc)) (first | exact ⟨j0,j1,j2,j3⟩ | go_keep) ((go_at_call 54;refine (HREC.out fb fa fc W3.drew HROW.out B3.out.drew).mono ?_;rintro e w7 ⟨ho,hb7⟩;obtain ⟨p,r,b,rfl,hlr⟩:=ho.form;have HLR:=hid hlr;have HB7:=hid (Below.drew (Below.refl W3.heap.size W3) |>.trans hb7);have j0:=(HB7.out.cell (p:=⟨w.heap.size,0,none⟩) hlw3).trans c0;have j1:=(HB7.out.cell (p:=⟨w2.heap.size,0,none⟩) hl3).trans z0;have j2:=(HB7.out.cell (p:=⟨w2.heap.size,1,none⟩) hl3).trans z1;have j3:=(HB7.out.cell (p:=⟨w2.heap.size,2,none⟩) hl3).trans z2;clear ho hb7 hlr))
  all_goals (go_wp2_with fail)
  all_goals exact bodyPost_ret (v:=.tuple #[.pointer p, .string r, .bool b]) (by simp [results,Try.results46,go_sem, *]) rfl ⟨HLR.out.mono B3.out.size,B3.out.trans (HB7.out.mono B3.out.size)⟩
end
end Go.Proofs.Ytidjpalnmnehmaa
