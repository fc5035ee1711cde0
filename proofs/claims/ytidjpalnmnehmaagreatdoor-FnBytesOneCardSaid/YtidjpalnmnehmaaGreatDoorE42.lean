/- Packed by pack.py: Xo Xp Xr Hg Hd He. -/
import Derived.Test.YtidjpalnmnehmaaGreatDoorE41
import Derived.Test.YtidjpalnmnehmaaGreatDoorE33
import Derived.Test.YtidjpalnmnehmaaGreatDoorE2
import Derived.Test.YtidjpalnmnehmaaGreatDoorE1
import Derived.Test.YtidjpalnmnehmaaGreatDoorE21
import Derived.Test.YtidjpalnmnehmaaGreatDoorE3
import Derived.Test.YtidjpalnmnehmaaGreatDoorE35
import Derived.Test.YtidjpalnmnehmaaGreatDoorE7
import Derived.Test.YtidjpalnmnehmaaGreatDoorE8
import Derived.Deep.RegionHeld3
import Derived.Deep.RegionWith
namespace Go.Proofs.YtidjpalnmnehmaaGreatDoor
open Go.ChangeShapes Go.WideShapes Go.ChangeAt Go.RowKit Go.Lib
set_option linter.unusedVariables false
set_option linter.unusedSimpArgs false
theorem str_ne {S:ByteArray} {c:UInt8} {q:List UInt8} (h:S.data.toList=c::q):S.toList.isEmpty=false∧S.toList≠[]∧0<S.size∧1≤S.size∧(∀ h,(S[0]'h).toNat=c.toNat)∧(S.extract 1 S.size).data.toList=q:=by
 rcases str_guard S with⟨h1,_⟩|⟨c',q',h1,h2,h3,h4,h5,h6⟩
 ·rw[h] at h1;cases h1
 ·rw[h] at h1
  cases h1
  exact⟨h2,h3,h4,h4,h5,by rw[h6]⟩
section
variable (x:Wf.Sc) (v:Value) (W:World) (n:Nat) (S KT:ByteArray) (D:Int) (w:World) (o:Option (Wf.V × List UInt8))
set_option maxRecDepth 20000 in
theorem read_no (h:S.toList.isEmpty=true∨(S.toList.isEmpty=false∧decide (D<1)=true)) (ho:o=none):Calls Tryz.prog 51 #[.agg #[v], .string S, .string KT, .int .i64 D] w fun e w'=>LrOut o w e w'∧Below w.heap.size w w':=by
 have HO:=hid ho
 clear ho
 rcases h with h|⟨h,h2⟩
 all_goals
  go_enter Tryz.func51,Tryz.ntmps51
  go_wp2_with fail
  all_goals exact bodyPost_ret (v:=.tuple #[.pointer none, .string S, .bool false]) (by simp[results,Tryz.results51,go_sem, *]) rfl ⟨LrOut.no HO.out ⟨_,_,rfl⟩,(Below.refl _ _).alloc (Nat.le_refl _) _⟩
set_option maxRecDepth 20000 in
theorem read_plain (hS:S.toList.isEmpty=false) (hD:decide (D<1)=false) (q:Nat) (hk0:0<KT.size) (ek:∀ h,(KT[0]'h).toNat=q) (hq:q=110∨q=116∨q=102)
  (hp:∀ wz,Calls Tryz.prog 88 #[.agg #[v], .string S, .string KT] wz fun e w'=>LrOut o wz e w'∧Below wz.heap.size wz w') :
  Calls Tryz.prog 51 #[.agg #[v], .string S, .string KT, .int .i64 D] w fun e w'=>LrOut o w e w'∧Below w.heap.size w w':=by
 have HP:=hid hp
 clear hp
 rcases hq with rfl|rfl|rfl
 all_goals
  go_enter Tryz.func51,Tryz.ntmps51
  go_wp2_with (go_at_call 88;refine(HP.out _).mono ?_;rintro e w7 ⟨ho,hb7⟩;obtain⟨p,r,b,rfl,hlr⟩:=ho.form;have HLR:=hid hlr;have HB7:=hid (below_join ((Below.refl w.heap.size w).alloc (Nat.le_refl _) _) hb7);clear ho hb7 hlr)
  all_goals exact bodyPost_ret (v:=.tuple #[.pointer p, .string r, .bool b]) (by simp[results,Tryz.results51,go_sem, *]) rfl ⟨HLR.out.mono (by simp),HB7.out⟩
set_option maxRecDepth 20000 in
theorem read_ref (hS:S.toList.isEmpty=false) (hD:decide (D<1)=false) (hk0:0<KT.size) (ek:∀ h,(KT[0]'h).toNat=64)
  (hp:∀ wz,Below w.heap.size w wz→Calls Tryz.prog 87 #[.agg #[v], .string S, .string KT, .int .i64 D] wz fun e w'=>LrOut o wz e w'∧Below wz.heap.size wz w') :
  Calls Tryz.prog 51 #[.agg #[v], .string S, .string KT, .int .i64 D] w fun e w'=>LrOut o w e w'∧Below w.heap.size w w':=by
 have HP:=hid hp
 clear hp
 go_enter Tryz.func51,Tryz.ntmps51
 go_wp2_with (go_at_call 87;refine(HP.out _ ((Below.refl _ _).alloc (Nat.le_refl _) _)).mono ?_;rintro e w7 ⟨ho,hb7⟩;obtain⟨p,r,b,rfl,hlr⟩:=ho.form;have HLR:=hid hlr;have HB7:=hid (below_join ((Below.refl w.heap.size w).alloc (Nat.le_refl _) _) hb7);clear ho hb7 hlr)
 all_goals exact bodyPost_ret (v:=.tuple #[.pointer p, .string r, .bool b]) (by simp[results,Tryz.results51,go_sem, *]) rfl ⟨HLR.out.mono (by simp),HB7.out⟩
set_option maxRecDepth 20000 in
theorem read_list_no (hS:S.toList.isEmpty=false) (h0:0<S.size) (hD:decide (D<1)=false) (hk0:0<KT.size) (ek:∀ h,(KT[0]'h).toNat=91) (b0:Nat) (e1:∀ h,(S[0]'h).toNat=b0) (m1:((b0:Int) != 91)=true) (ho:o=none) :
  Calls Tryz.prog 51 #[.agg #[v], .string S, .string KT, .int .i64 D] w fun e w'=>LrOut o w e w'∧Below w.heap.size w w':=by
 have HO:=hid ho
 clear ho
 go_enter Tryz.func51,Tryz.ntmps51
 go_wp2_with fail
 all_goals exact bodyPost_ret (v:=.tuple #[.pointer none, .string S, .bool false]) (by simp[results,Tryz.results51,go_sem, *]) rfl ⟨LrOut.no HO.out ⟨_,_,rfl⟩,(Below.refl _ _).alloc (Nat.le_refl _) _⟩
set_option maxRecDepth 20000 in
theorem read_list (R:ByteArray) (hS:S.toList.isEmpty=false) (h0:0<S.size) (h1:1≤S.size) (hR:S.extract 1 S.size=R) (hD:decide (D<1)=false) (hk0:0<KT.size) (ek:∀ h,(KT[0]'h).toNat=91) (e1:∀ h,(S[0]'h).toNat=91)
  (hp:∀ wz,Below w.heap.size w wz→Calls Tryz.prog 86 #[.agg #[v], .string R, .string KT, .int .i64 D] wz fun e w'=>LrOut o wz e w'∧Below wz.heap.size wz w') :
  Calls Tryz.prog 51 #[.agg #[v], .string S, .string KT, .int .i64 D] w fun e w'=>LrOut o w e w'∧Below w.heap.size w w':=by
 have HP:=hid hp
 have kx:∀ wz,(Instr.slice 9 (.string S) (some (.int .i64 1)) none none).run Tryz.prog wz=.ok (.string R) wz:=fun wz=>by
  have h:=sl_suf S 1 h1 wz
  rw[hR] at h
  exact h
 clear hp hR
 have c0:(w.alloc (.cells #[v] 99)).cell? ⟨w.heap.size,0,none⟩=some v:=by simp[go_sem]
 have B3:=hid ((Below.refl w.heap.size w).alloc (Nat.le_refl _) (.cells #[v] 99))
 have hl3:w.heap.size<(w.alloc (.cells #[v] 99)).heap.size:=by simp
 go_enter Tryz.func51,Tryz.ntmps51
 go_wp2_with fail
 obtain⟨W3,hW3⟩:∃ W3,w.alloc (.cells #[v] 99)=W3:=⟨_,rfl⟩
 rw[hW3] at c0 B3 hl3
 rw[hW3]
 clear hW3
 go_region_held3 (fun w'=>w'.cell? ⟨w.heap.size,0,none⟩=some v) (first|exact j0|go_keep) ((go_at_call 86;refine(HP.out W3.drew B3.out.drew).mono ?_;rintro e w7 ⟨ho,hb7⟩;obtain⟨p,r,b,rfl,hlr⟩:=ho.form;have HLR:=hid hlr;have HB7:=hid (Below.drew (Below.refl W3.heap.size W3) |>.trans hb7);have j0:=(HB7.out.cell (p:=⟨w.heap.size,0,none⟩) hl3).trans c0;clear ho hb7 hlr))
 all_goals (go_wp2_with fail)
 all_goals exact bodyPost_ret (v:=.tuple #[.pointer p, .string r, .bool b]) (by simp[results,Tryz.results51,go_sem, *]) rfl ⟨HLR.out.mono B3.out.size,B3.out.trans (HB7.out.mono B3.out.size)⟩
set_option maxRecDepth 20000 in
theorem read_opt_no (hS:S.toList.isEmpty=false) (h0:0<S.size) (hD:decide (D<1)=false) (hk0:0<KT.size) (ek:∀ h,(KT[0]'h).toNat=63) (b0:Nat) (e1:∀ h,(S[0]'h).toNat=b0) (m0:((b0:Int)==45)=false) (m1:((b0:Int) != 43)=true) (ho:o=none) :
  Calls Tryz.prog 51 #[.agg #[v], .string S, .string KT, .int .i64 D] w fun e w'=>LrOut o w e w'∧Below w.heap.size w w':=by
 have HO:=hid ho
 clear ho
 go_enter Tryz.func51,Tryz.ntmps51
 go_wp2_with fail
 all_goals exact bodyPost_ret (v:=.tuple #[.pointer none, .string S, .bool false]) (by simp[results,Tryz.results51,go_sem, *]) rfl ⟨LrOut.no HO.out ⟨_,_,rfl⟩,(Below.refl _ _).alloc (Nat.le_refl _) _⟩
set_option maxRecDepth 20000 in
set_option maxHeartbeats 2000000 in
theorem read_opt_none (R:ByteArray) (hS:S.toList.isEmpty=false) (h0:0<S.size) (h1:1≤S.size) (hR:S.extract 1 S.size=R) (hD:decide (D<1)=false) (hk0:0<KT.size) (ek:∀ h,(KT[0]'h).toNat=63) (hk:KT.data.toList.head? = some 63) (e1:∀ h,(S[0]'h).toNat=45) (ho:o=some (.mk 63 [] 0 [],R.data.toList)) :
  Calls Tryz.prog 51 #[.agg #[v], .string S, .string KT, .int .i64 D] w fun e w'=>LrOut o w e w'∧Below w.heap.size w w':=by
 have HO:=hid ho
 have HKH:=hid hk
 have kx:∀ wz,(Instr.slice 9 (.string S) (some (.int .i64 1)) none none).run Tryz.prog wz=.ok (.string R) wz:=fun wz=>by
  have h:=sl_suf S 1 h1 wz
  rw[hR] at h
  exact h
 clear ho hR hk
 go_enter Tryz.func51,Tryz.ntmps51
 go_wp2_with fail
 go_region
 all_goals (go_wp2_with fail)
 all_goals exact bodyPost_ret (v:=.tuple #[ptr (w.heap.size+1), .string R, .bool true]) (by simp[results,Tryz.results51,go_sem, *]) rfl (by
  have hR:∀ W3:World,W3.heap.size=w.heap.size+1→Below w.heap.size w W3→(LrOut o w (.returned (.tuple #[ptr (w.heap.size+1), .string R, .bool true])) (W3.alloc (.cells #[.string KT, .string ⟨#[]⟩, .slice none 0 0, .slice none 0 0] 103))∧Below w.heap.size w (W3.alloc (.cells #[.string KT, .string ⟨#[]⟩, .slice none 0 0, .slice none 0 0] 103))):=fun W3 h1 h2=>by
   refine⟨LrOut.yes HO.out ⟨w.heap.size+1,rfl, ?_⟩,h2.alloc h2.size _⟩
   rw[← h1]
   exact LV.new (kd:=KT.data.toList) (t:=[]) (by decide) ⟨HKH.out,rfl⟩ rfl h2.size (by simp) (by first|(simp[go_sem];done)|(simp[go_sem];rfl)) (by first|(simp[go_sem];done)|(simp[go_sem];rfl)) (by simp[go_sem]) (by simp[go_sem])
  have hb:=(Below.refl w.heap.size w).alloc (Nat.le_refl _) (.cells #[v] 99)
  first|exact hR _ (by simp) hb|exact hR _ (by simp) hb.drew)
set_option maxRecDepth 20000 in
set_option maxHeartbeats 2000000 in
theorem read_opt_some (k:Wf.K) (R K1:ByteArray) (hS:S.toList.isEmpty=false) (h0:0<S.size) (h1:1≤S.size) (hR:S.extract 1 S.size=R) (hD:decide (D<1)=false) (hk0:0<KT.size) (hk1:1≤KT.size) (hK1:KT.extract 1 KT.size=K1) (ek:∀ h,(KT[0]'h).toNat=63) (hk:KT.data.toList.head? = some 63) (e1:∀ h,(S[0]'h).toNat=43) (kd:IntKind.i64.wrap (D-1)=(n:Int)) (o1:Option (Wf.V × List UInt8)) (ho:o=o1.map fun y=>(.mk 63 [] 0 [y.1],y.2))
  (hp:∀ wz,Below w.heap.size w wz→Calls Tryz.prog 51 #[.agg #[v], .string R, .string K1, .int .i64 n] wz fun e w'=>LrOut o1 wz e w'∧Below wz.heap.size wz w') :
  Calls Tryz.prog 51 #[.agg #[v], .string S, .string KT, .int .i64 D] w fun e w'=>LrOut o w e w'∧Below w.heap.size w w':=by
 have HP:=hid hp
 have HKH:=hid hk
 have HO:=hid ho
 have kx:∀ wz,(Instr.slice 9 (.string S) (some (.int .i64 1)) none none).run Tryz.prog wz=.ok (.string R) wz:=fun wz=>by
  have h:=sl_suf S 1 h1 wz
  rw[hR] at h
  exact h
 have ky:∀ wz,(Instr.slice 9 (.string KT) (some (.int .i64 1)) none none).run Tryz.prog wz=.ok (.string K1) wz:=fun wz=>by
  have h:=sl_suf KT 1 hk1 wz
  rw[hK1] at h
  exact h
 clear hp hR hK1 hk ho
 have c0:(w.alloc (.cells #[v] 99)).cell? ⟨w.heap.size,0,none⟩=some v:=by simp[go_sem]
 have B3:=hid ((Below.refl w.heap.size w).alloc (Nat.le_refl _) (.cells #[v] 99))
 have hl3:w.heap.size<(w.alloc (.cells #[v] 99)).heap.size:=by simp
 go_enter Tryz.func51,Tryz.ntmps51
 go_wp2_with fail
 obtain⟨W3,hW3⟩:∃ W3,w.alloc (.cells #[v] 99)=W3:=⟨_,rfl⟩
 rw[hW3] at c0 B3 hl3
 rw[hW3]
 clear hW3
 go_region_held3 (fun w'=>w'.cell? ⟨w.heap.size,0,none⟩=some v) (first|exact j0|go_keep) ((go_at_call 51;refine(HP.out W3.drew B3.out.drew).mono ?_;rintro e w7 ⟨ho,hb7⟩;obtain⟨p,r,b,rfl,hlr⟩:=ho.form;have HLR:=hid hlr;have HB7:=hid (Below.drew (Below.refl W3.heap.size W3) |>.trans hb7);have j0:=(HB7.out.cell (p:=⟨w.heap.size,0,none⟩) hl3).trans c0;clear ho hb7 hlr))
 all_goals (go_wp2_with fail)
 all_goals exact bodyPost_ret (v:=.tuple #[ptr (w7.heap.size+1), .string r, .bool b]) (by simp[results,Tryz.results51,go_sem, *]) rfl (by
  have hle:=Nat.le_trans B3.out.size HB7.out.size
  have h7:=B3.out.trans (HB7.out.mono B3.out.size)
  refine⟨?_,(h7.alloc hle _).alloc (by simp;omega) _⟩
  have hl:=HLR.out
  cases ho1:o1 with
  | none =>
   rw[ho1] at hl
   obtain⟨p',r',he⟩:=hl
   obtain⟨_,_,e2⟩:=three he
   injection e2 with e2
   subst e2
   exact LrOut.no (by rw[HO.out,ho1];rfl) ⟨_,_,rfl⟩
  | some y =>
   rw[ho1] at hl
   obtain⟨b',he,hlv⟩:=hl
   obtain⟨e0,e1,e2⟩:=three he
   injection e0 with e0
   injection e1 with e1
   injection e2 with e2
   subst e0 e1 e2
   refine LrOut.yes (v:=.mk 63 [] 0 [y.1]) (r:=y.2) (by rw[HO.out,ho1];rfl) ⟨w7.heap.size+1,rfl,LV.opt1 (kb:=w7.heap.size) (u:=b') (KT:=KT) (by omega) hle (by first|(simp;done)|(simp;omega)) (by first|(simp;done)|(simp;omega)) HKH.out ?_ ?_ ?_ ?_ ?_ ?_ (LV.mono (LV.below (LV.below hlv ((Below.refl _ _).alloc (Nat.le_refl _) _)) ((Below.refl _ _).alloc (Nat.le_refl _) _)) fun z hz _=>by have:=B3.out.size;have:W3.drew.heap.size=W3.heap.size:=rfl;omega)⟩
   all_goals (simp[go_sem];done))
end

theorem ref_at {x:Wf.Sc} {v:Value} {W:World} (hx:Wf.ScOk x) (lo bsc:Nat) (hsp:ScSp W lo bsc v x) {nm:List UInt8} {t:Wf.Ty} (hf:x.find nm=some t) (hnm:(Wf.K.ref nm).text.length≤1000000) (q:Nat) (hq:t.sort.toNat=q) (wz:World) (hz:Below W.heap.size W wz):Calls Tryz.prog 122 #[v,tx (Wf.K.ref nm).text] wz fun e w'=>(∃ fb fa fc,e=.returned (.tuple #[.agg #[.int .u8 q, .string ⟨t.name.toArray⟩, .slice fa t.fields.length fc], .bool true])∧RowK W fb (.slice fa t.fields.length fc) 4 (t.fields.map (fdS t.sort)))∧Below wz.heap.size wz w':=by
 rw[← hq]
 exact ref_found x v W t nm hx lo bsc hsp hf hnm wz hz
theorem l4read (x:Wf.Sc) (hx:Wf.ScOk x) (v:Value) (lo bsc:Nat) (W:World) (hsp:ScSp W lo bsc v x):∀ (n:Nat),n≤1000→∀ (k:Wf.K),KOk x k→LR x v W n k:=by
 intro n
 induction n with
 | zero =>
  intro _ k hk S w hS hW
  refine read_no v S ⟨k.text.toArray⟩ (0:Nat) w _ ?_ (Wf.parse_zero x k _)
  by_cases h:S.toList.isEmpty=true
  ·exact .inl h
  ·exact .inr ⟨by simpa using h,by decide⟩
 | succ n ih =>
  intro hn k hk S w hS hW
  have hD:decide (((n+1:Nat):Int)<1)=false:=decide_eq_false (by omega)
  have hDe:((n+1:Nat):Int)=(n:Int)+1:=by omega
  have kd:IntKind.i64.wrap (((n+1:Nat):Int)-1)=(n:Int):=by rw[hDe,Int.add_sub_cancel];exact IntWalk.i64_in _ (by omega)
  cases hl:S.data.toList with
  | nil =>
   refine read_no v S ⟨k.text.toArray⟩ _ w _ (.inl ?_) (Wf.parse_nil x (n+1) k)
   rw[ByteArray.toList_eq,hl];rfl
  | cons c q =>
   obtain⟨e1,e2,e3,e4,e5,e6⟩:=str_ne hl
   have hRs:(S.extract 1 S.size).size≤1048576:=by rw[ByteArray.size_extract];omega
   rw[← hl]
   cases k with
   | num=>exact read_plain v S ⟨(Wf.K.text .num).toArray⟩ _ w _ e1 hD 110 (by decide) (fun _=>rfl) (.inl rfl) (fun wz=>plain_num x n v S hS wz)
   | txt=>exact read_plain v S ⟨(Wf.K.text .txt).toArray⟩ _ w _ e1 hD 116 (by decide) (fun _=>rfl) (.inr (.inl rfl)) (fun wz=>plain_txt x n v S hS wz)
   | flag=>exact read_plain v S ⟨(Wf.K.text .flag).toArray⟩ _ w _ e1 hD 102 (by decide) (fun _=>rfl) (.inr (.inr rfl)) (fun wz=>plain_flag x n v S hS wz)
   | list k =>
    obtain⟨hk0,ek⟩:=kd_first (kd:=(Wf.K.list k).text) (c:=91) rfl
    by_cases hc:c=91
    ·subst hc
     rw[hl]
     have h:=fun wz (hz:Below w.heap.size w wz)=>l4list x v W n k (S.extract 1 S.size) ((n+1:Nat):Int) wz hRs hDe (by omega) (ih (by omega) k hk.list) (hW.trans (hz.mono hW.size))
     rw[e6] at h
     exact read_list v S _ _ w _ _ e1 e3 e4 rfl hD hk0 ek e5 h
    ·refine read_list_no v S _ _ w _ e1 e3 hD hk0 ek c.toNat e5 ?_ (Wf.parse_list_no x n k (by rw[hl];simpa using hc))
     rw[bne_iff_ne]
     intro h
     exact hc (UInt8.toNat_inj.1 (by show c.toNat=91;omega))
   | opt k =>
    obtain⟨hk0,ek⟩:=kd_first (kd:=(Wf.K.opt k).text) (c:=63) rfl
    have hK1:(⟨(Wf.K.opt k).text.toArray⟩:ByteArray).extract 1 (⟨(Wf.K.opt k).text.toArray⟩:ByteArray).size=⟨k.text.toArray⟩:=by rw[eq_list,suf_list];rfl
    by_cases h45:c=45
    ·subst h45
     exact read_opt_none v S _ _ w _ _ e1 e3 e4 rfl hD hk0 ek rfl e5 (by rw[e6,hl];exact Wf.parse_opt_none x n k q)
    ·by_cases h43:c=43
     ·subst h43
      refine read_opt_some v n S _ _ w _ k _ _ e1 e3 e4 rfl hD hk0 (by simp[ByteArray.size,Wf.K.text]) hK1 ek rfl e5 kd (Wf.parse x n k (S.extract 1 S.size).data.toList) (by rw[hl,e6];exact Wf.parse_opt_some x n k q) (fun wz hz=>ih (by omega) k hk.opt _ wz hRs (hW.trans (hz.mono hW.size)))
     ·refine read_opt_no v S _ _ w _ e1 e3 hD hk0 ek c.toNat e5 ?_ ?_ (Wf.parse_opt_no x n k (by rw[hl];simpa using h45) (by rw[hl];simpa using h43))
      ·rw[beq_eq_false_iff_ne]
       intro h
       exact h45 (UInt8.toNat_inj.1 (by show c.toNat=45;omega))
      ·rw[bne_iff_ne]
       intro h
       exact h43 (UInt8.toNat_inj.1 (by show c.toNat=43;omega))
   | ref nm =>
    obtain⟨hk0,ek⟩:=kd_first (kd:=(Wf.K.ref nm).text) (c:=64) rfl
    obtain⟨t,hf⟩:=Wf.hasRef_ref hk.ref
    have htx:=(Wf.find_mem hf).1
    have hto:=hx.tys t htx
    have hnm:(Wf.K.ref nm).text.length≤1000000:=by have:=hk.len;omega
    have htl:t.fields.length≤1000:=by have:=hto.len;omega
    have hR:=fun(h69:t.sort≠69) f hfm=>ih (by omega) f.kind (KOk.fld hx htx h69 (f:=f) hfm)
    refine read_ref v S _ _ w _ e1 hD hk0 ek fun wz hz => ?_
    have hWz:=hW.trans (hz.mono hW.size)
    rcases hto.sort with hs|hs|hs
    ·have hr:=fun wy (hy:Below wz.heap.size wz wy)=>ref_at hx lo bsc hsp hf hnm 82 (by rw[hs];rfl) wy (hWz.trans (hy.mono hWz.size))
     by_cases hc:c=123
     ·subst hc
      rw[hl]
      have h:=fun fb fa fc wy (hrow:RowK W fb (.slice fa t.fields.length fc) 4 (t.fields.map (fdS t.sort))) (hy:Below wz.heap.size wz wy)=>l4record x v W n t nm (S.extract 1 S.size) ((n+1:Nat):Int) wy hx lo bsc hsp htx hf fb fc fa hrow hs hRs hDe (by omega) (hR (by rw[hs];decide)) (hWz.trans (hy.mono hWz.size))
      rw[e6] at h
      exact nm_rec v W t S _ wz _ _ _ _ e4 e5 rfl _ hr h
     ·refine nm_no v S _ wz 82 c.toNat _ _ t.fields.length e3 e5 (.inl ⟨rfl, ?_⟩) (fun wy hy=>(hr wy hy).mono fun e w' ⟨⟨fb,fa,fc,h1,_⟩,h2⟩=>⟨⟨fa,fc,h1⟩,h2⟩) _ (Wf.parse_rec_no x n hf hs (by rw[hl];simpa using hc))
      rw[beq_eq_false_iff_ne]
      intro h
      exact hc (UInt8.toNat_inj.1 (by show c.toNat=123;omega))
    ·have hr:=fun wy (hy:Below wz.heap.size wz wy)=>ref_at hx lo bsc hsp hf hnm 85 (by rw[hs];rfl) wy (hWz.trans (hy.mono hWz.size))
     by_cases hc:c=60
     ·subst hc
      rw[hl]
      have h:=nm_uni x v W n t nm S ((n+1:Nat):Int) wz ⟨(Wf.K.ref nm).text.toArray⟩ ⟨t.name.toArray⟩ (S.extract 1 S.size) t.fields.length hx htx hf e4 hRs rfl e5 rfl hs hDe (by omega) hWz (hR (by rw[hs];decide)) hr (fun fb fa fc wy hrow hy=>by
       have h:=l4tag t htl v (S.extract 1 S.size) hRs fb fc fa W wy (hWz.trans (hy.mono hWz.size)) hrow
       rw[hs] at h
       exact h)
      rw[e6] at h
      exact h
     ·refine nm_no v S _ wz 85 c.toNat _ _ t.fields.length e3 e5 (.inr (.inr ⟨rfl, ?_⟩)) (fun wy hy=>(hr wy hy).mono fun e w' ⟨⟨fb,fa,fc,h1,_⟩,h2⟩=>⟨⟨fa,fc,h1⟩,h2⟩) _ (Wf.parse_uni_no x n hf hs (by rw[hl];simpa using hc))
      rw[beq_eq_false_iff_ne]
      intro h
      exact hc (UInt8.toNat_inj.1 (by show c.toNat=60;omega))
    ·have hr:=fun wy (hy:Below wz.heap.size wz wy)=>ref_at hx lo bsc hsp hf hnm 69 (by rw[hs];rfl) wy (hWz.trans (hy.mono hWz.size))
     by_cases hc:c=35
     ·subst hc
      rw[hl,parse_enm_tagF x n hf hs q]
      have h:=nm_enm v W t S ((n+1:Nat):Int) wz ⟨(Wf.K.ref nm).text.toArray⟩ ⟨t.name.toArray⟩ (S.extract 1 S.size) t.fields.length e4 rfl e5 rfl hs hr (fun fb fa fc wy hrow hy=>by
       have h:=l4tag t htl v (S.extract 1 S.size) hRs fb fc fa W wy (hWz.trans (hy.mono hWz.size)) hrow
       rw[hs] at h
       exact h)
      rw[e6] at h
      exact h
     ·refine nm_no v S _ wz 69 c.toNat _ _ t.fields.length e3 e5 (.inr (.inl ⟨rfl, ?_⟩)) (fun wy hy=>(hr wy hy).mono fun e w' ⟨⟨fb,fa,fc,h1,_⟩,h2⟩=>⟨⟨fa,fc,h1⟩,h2⟩) _ (Wf.parse_enm_no x n hf hs (by rw[hl];simpa using hc))
      rw[beq_eq_false_iff_ne]
      intro h
      exact hc (UInt8.toNat_inj.1 (by show c.toNat=35;omega))
def LoOut (l kt s:List UInt8) (lo:Nat) (e:Ending) (w':World):Prop:=match valOf l kt s with
 | some y=>∃ b a c p,e=.returned (.tuple #[.slice a y.1.1.length c,ptr p, .bool true])∧ScSp w' lo b (.slice a y.1.1.length c) y.1.1∧LV w' (fun z=>lo≤z) y.2 p
 | none=>∃ a n c p,e=.returned (.tuple #[.slice a n c, .pointer p, .bool false])
theorem LoOut.no {l kt s:List UInt8} {lo:Nat} {e:Ending} {w':World} (h:valOf l kt s=none) (he:∃ a n c p,e=.returned (.tuple #[.slice a n c, .pointer p, .bool false])):LoOut l kt s lo e w':=by
 unfold LoOut;rw[h];exact he
theorem LoOut.yes {l kt s:List UInt8} {lo:Nat} {e:Ending} {w':World} {y:(Wf.Sc × Wf.K) × Wf.V} (h:valOf l kt s=some y) (he:∃ b a c p,e=.returned (.tuple #[.slice a y.1.1.length c,ptr p, .bool true])∧ScSp w' lo b (.slice a y.1.1.length c) y.1.1∧LV w' (fun z=>lo≤z) y.2 p):LoOut l kt s lo e w':=by
 unfold LoOut;rw[h];exact he
set_option maxRecDepth 20000 in
set_option maxHeartbeats 2000000 in
theorem l4Of (s kt v:ByteArray) (w:World) (hs:s.size≤1048576) (hv:v.size≤1048576):Calls Tryz.prog 29 #[.string s, .string kt, .string v] w fun e w'=>LoOut s.data.toList kt.data.toList v.data.toList w.heap.size e w'∧Below w.heap.size w w':=by
 have HLK:=hid (l3Kind s kt w hs)
 cases hty:kindOf s.data.toList kt.data.toList with
 | none =>
  have HO:=hid fun lo e wz (h:LkOut s.data.toList kt.data.toList lo e wz)=>(by unfold LkOut at h;rw[hty] at h;exact h:∃ a n c,e=.returned (.tuple #[.slice a n c, .bool false]))
  have HF:=hid (show valOf s.data.toList kt.data.toList v.data.toList=none by unfold valOf;rw[hty])
  clear hty
  go_enter Tryz.func29,Tryz.ntmps29
  go_wp2_with (go_at_call 50;refine HLK.out.mono ?_;rintro e w2 ⟨ho,hb2⟩;obtain⟨a,n,c,rfl⟩:=HO.out _ _ _ ho;have HB2:=hid hb2;clear ho hb2)
  all_goals exact bodyPost_ret (v:=.tuple #[.slice none 0 0, .pointer none, .bool false]) (by simp[results,Tryz.results29,go_sem, *]) rfl ⟨LoOut.no HF.out ⟨_,_,_,_,rfl⟩,HB2.out⟩
 | some y =>
  obtain⟨x,k⟩:=y
  obtain⟨hsc,hpk,hhas,hkt,hkl⟩:=kindOf_text hty
  have hx:=Wf.schemaOf_ok hsc
  have hk:KOk x k:=⟨by rw[hkt];exact hkl,hhas⟩
  have HO:=hid fun lo e wz (h:LkOut s.data.toList kt.data.toList lo e wz)=>(by unfold LkOut at h;rw[hty] at h;exact h:∃ b a c,e=.returned (.tuple #[.slice a x.length c, .bool true])∧ScSp wz lo b (.slice a x.length c) x)
  obtain⟨xn,hxn⟩:∃ xn,x.length=xn:=⟨_,rfl⟩
  rw[hxn] at HO
  have hkk:tx k.text=.string kt:=by rw[tx,show k.text=kt.data.toList from hkt]
  by_cases h400:v.size≤400
  ·have HRD:=hid fun(wz:World) (vv:Value) (lo b:Nat) (hsp:ScSp wz lo b vv x)=>(by
    have h:=l4read x hx vv lo b wz hsp 12 (by omega) k hk v wz hv (Below.refl _ _)
    rw[hkk] at h
    exact h:Calls Tryz.prog 51 #[.agg #[vv], .string v, .string kt, .int .i64 12] wz fun e w'=>LrOut (Wf.parse x 12 k v.data.toList) wz e w'∧Below wz.heap.size wz w')
   have HV:=hid (show valOf s.data.toList kt.data.toList v.data.toList=match (match Wf.parse x 12 k v.data.toList with|some (u,[])=>some u|_=>none) with|some u=>some ((x,k),u)|none=>none by
    unfold valOf
    rw[hty]
    dsimp only
    rw[Wf.valIn,if_pos (by rw[size_list];exact h400)]
    rfl)
   have hd:decide ((400:Int)<(v.size:Int))=false:=decide_eq_false (by omega)
   clear hty hsc hpk hhas hkt hkl hkk
   cases hp:Wf.parse x 12 k v.data.toList with
   | none =>
    have HF:=hid (show valOf s.data.toList kt.data.toList v.data.toList=none by rw[HV.out,hp])
    have HO2:=hid fun(e:Ending) (w w':World) (h:LrOut (Wf.parse x 12 k v.data.toList) w e w')=>(by rw[hp] at h;exact h:∃ (p:Option Addr) (r:ByteArray),e=.returned (.tuple #[.pointer p, .string r, .bool false]))
    clear hp
    go_enter Tryz.func29,Tryz.ntmps29
    go_wp2_with (first|(go_at_call 51;refine(HRD.out _ _ _ _ HSP.out).mono ?_;rintro e w3 ⟨ho,hb3⟩;obtain⟨p,r,rfl⟩:=HO2.out _ _ _ ho;have HB3:=hid (below_join HB2.out hb3);clear ho hb3)|(go_at_call 50;refine HLK.out.mono ?_;rintro e w2 ⟨ho,hb2⟩;obtain⟨b,a,c,rfl,hsp⟩:=HO.out _ _ _ ho;have HSP:=hid hsp;have HB2:=hid hb2;clear ho hb2 hsp))
    all_goals exact bodyPost_ret (v:=.tuple #[.slice a xn c, .pointer p, .bool false]) (by simp[results,Tryz.results29,go_sem, *]) rfl ⟨LoOut.no HF.out ⟨_,_,_,_,rfl⟩,HB3.out⟩
   | some y =>
    obtain⟨u,rr⟩:=y
    obtain⟨RR,hRR⟩:∃ RR:ByteArray,(⟨rr.toArray⟩:ByteArray)=RR:=⟨_,rfl⟩
    have HO2:=hid fun(e:Ending) (w w':World) (h:LrOut (Wf.parse x 12 k v.data.toList) w e w')=>(by unfold LrOut at h;rw[hp] at h;dsimp only at h;rw[tx,hRR] at h;exact h:∃ b,e=.returned (.tuple #[ptr b, .string RR, .bool true])∧LV w' (fun z=>w.heap.size≤z) u b)
    cases rr with
    | nil =>
     have HF:=hid (show valOf s.data.toList kt.data.toList v.data.toList=some ((x,k),u) by rw[HV.out,hp])
     have hre:RR.toList.isEmpty=true:=by rw[← hRR,ByteArray.toList_eq];rfl
     have hre2:RR.toList=[]:=List.isEmpty_iff.1 hre
     have HXN:=hid hxn
     clear hp hRR hxn
     go_enter Tryz.func29,Tryz.ntmps29
     go_wp2_with (first|(go_at_call 51;refine(HRD.out _ _ _ _ HSP.out).mono ?_;rintro e w3 ⟨ho,hb3⟩;obtain⟨pb,rfl,hlv⟩:=HO2.out _ _ _ ho;have HLV:=hid hlv;have HB3:=hid (below_join HB2.out hb3);have HSP3:=hid (HSP.out.below hb3);clear ho hb3 hlv)|(go_at_call 50;refine HLK.out.mono ?_;rintro e w2 ⟨ho,hb2⟩;obtain⟨b,a,c,rfl,hsp⟩:=HO.out _ _ _ ho;have HSP:=hid hsp;have HB2:=hid hb2;clear ho hb2 hsp))
     all_goals exact bodyPost_ret (v:=.tuple #[.slice a xn c,ptr pb, .bool true]) (by simp[results,Tryz.results29,go_sem, *]) rfl ⟨LoOut.yes HF.out ⟨b,a,c,pb,by rw[HXN.out],by rw[HXN.out];exact HSP3.out,LV.mono HLV.out fun z hz _=>Nat.le_trans HB2.out.size hz⟩,HB3.out⟩
    | cons c0 q0 =>
     have HF:=hid (show valOf s.data.toList kt.data.toList v.data.toList=none by rw[HV.out,hp])
     have hre:RR.toList.isEmpty=false:=by rw[← hRR,ByteArray.toList_eq];rfl
     have hre2:RR.toList≠[]:=by rw[← hRR,ByteArray.toList_eq];exact List.cons_ne_nil _ _
     clear hp hRR
     go_enter Tryz.func29,Tryz.ntmps29
     go_wp2_with (first|(go_at_call 51;refine(HRD.out _ _ _ _ HSP.out).mono ?_;rintro e w3 ⟨ho,hb3⟩;obtain⟨pb,rfl,hlv⟩:=HO2.out _ _ _ ho;have HB3:=hid (below_join HB2.out hb3);clear ho hb3 hlv)|(go_at_call 50;refine HLK.out.mono ?_;rintro e w2 ⟨ho,hb2⟩;obtain⟨b,a,c,rfl,hsp⟩:=HO.out _ _ _ ho;have HSP:=hid hsp;have HB2:=hid hb2;clear ho hb2 hsp))
     all_goals exact bodyPost_ret (v:=.tuple #[.slice a xn c,ptr pb, .bool false]) (by simp[results,Tryz.results29,go_sem, *]) rfl ⟨LoOut.no HF.out ⟨_,_,_,_,rfl⟩,HB3.out⟩
  ·have HF:=hid (show valOf s.data.toList kt.data.toList v.data.toList=none by
    unfold valOf
    rw[hty]
    dsimp only
    rw[Wf.valIn_long (by rw[size_list];exact h400)])
   have hd:decide ((400:Int)<(v.size:Int))=true:=decide_eq_true (by omega)
   clear hty hsc hpk hhas hkt hkl hkk
   go_enter Tryz.func29,Tryz.ntmps29
   go_wp2_with (go_at_call 50;refine HLK.out.mono ?_;rintro e w2 ⟨ho,hb2⟩;obtain⟨b,a,c,rfl,hsp⟩:=HO.out _ _ _ ho;have HB2:=hid hb2;clear ho hb2 hsp)
   all_goals exact bodyPost_ret (v:=.tuple #[.slice none 0 0, .pointer none, .bool false]) (by simp[results,Tryz.results29,go_sem, *]) rfl ⟨LoOut.no HF.out ⟨_,_,_,_,rfl⟩,HB2.out⟩
theorem LoOut.form {l kt s:List UInt8} {lo:Nat} {e:Ending} {w':World} (h:LoOut l kt s lo e w'):∃ (a:Option Addr) (n c:Nat) (p:Option Addr),e=.returned (.tuple #[.slice a n c, .pointer p, .bool (vOkB l kt s)]):=by
 unfold LoOut at h
 unfold vOkB
 cases hv:valOf l kt s with
 | none =>
  rw[hv] at h
  exact h
 | some y =>
  rw[hv] at h
  obtain⟨b,a,c,p,rfl,_⟩:=h
  exact⟨_,_,_,_,rfl⟩

def vfV:Option (List UInt8)→Value
 | some b=>.tuple #[tx b, .bool true]
 | none=>.tuple #[tx [], .bool false]

def bytesVal (l kt s:List UInt8):Option (List UInt8):=(valOf l kt s).map fun y=>y.2.bytes
theorem bytesVal_len {l kt s b:List UInt8} (h:bytesVal l kt s=some b):b.length≤400:=by
 unfold bytesVal at h
 cases hv:valOf l kt s with
 | none=>rw[hv] at h;cases h
 | some y =>
  rw[hv] at h
  simp only[Option.map_some,Option.some.injEq] at h
  subst h
  obtain⟨_,h2⟩:=valOf_some hv
  obtain⟨ht,hs,hl⟩:=Wf.valIn_some h2
  have:=Wf.bytes_len 12 _ _ ht (by rw[← hs];omega)
  rw[← hs] at this
  exact Nat.le_trans this hl

set_option maxRecDepth 20000 in
set_option maxHeartbeats 1000000 in
theorem toBytes_i (v:Wf.V) (hok:Wf.BOk v) (P:Nat→Prop) (q g n c:Nat) (T:ByteArray) (sa:Option Addr) (W w:World) (hv:VC W P v [.int .u8 q, .string T, .int .i64 g, .slice sa n c]) (hb:Below W.heap.size W w) (hl:v.bytes.length≤400) :
  Calls Tryz.prog 28 #[.agg #[.int .u8 q, .string T, .int .i64 g, .slice sa n c]] w fun e w'=>e=.returned (vfV (some v.bytes))∧Below w.heap.size w w':=by
 have HB:=hid fun(w2:World) (h2:Below W.heap.size W w2)=>bytesI v hok P _ W w2 hv h2 (by omega)
 obtain⟨B,hB⟩:∃ B:ByteArray,(⟨v.bytes.toArray⟩:ByteArray)=B:=⟨_,rfl⟩
 have hBs:B.size≤400:=by rw[← hB];exact hl
 have HF:=hid (show vfV (some v.bytes)=.tuple #[.string B, .bool true] by rw[← hB];rfl)
 have HW:=hid hb
 simp only[tx,hB] at HB
 clear hv hb hok hl hB
 go_enter Tryz.func28,Tryz.ntmps28
 go_wp2_with (go_at_call 49;refine(HB.out _ (HW.out.alloc HW.out.size _)).mono ?_;rintro e w2 ⟨rfl,hb2⟩;have B2:=hid (below_join ((Below.refl w.heap.size w).alloc (Nat.le_refl _) _) hb2);clear hb2)
 go_ret2
 exact⟨by rw[HF.out];rfl,B2.out⟩
set_option maxRecDepth 20000 in
set_option maxHeartbeats 1000000 in
theorem bytesPut_i (s kt v:ByteArray) (m:Int) (w:World) (hm:ML m w) (hs:s.size≤1048576) (hkt:kt.size≤1048576) (hv:v.size≤1048576):Calls Tryz.prog 11 #[.string s, .string kt, .string v] w fun e w'=>e=.returned (vfV (bytesVal s.data.toList kt.data.toList v.data.toList))∧Below w.heap.size w w':=by
 have HG:=hid (given s kt v m w hm hs hkt hv)
 clear hm
 cases hvo:valOf s.data.toList kt.data.toList v.data.toList with
 | none =>
  have HO:=hid fun lo e w' (h:GivOut s.data.toList kt.data.toList v.data.toList lo e w')=>(by unfold GivOut at h;rw[hvo] at h;exact h:∃ p a b c,e=.returned (.tuple #[.pointer p, .agg #[.string a, .string b, .string c], .agg #[.int .u8 0, .string ⟨#[]⟩, .int .i64 0, .slice none 0 0], .bool false]))
  have HD:=hid (show vfV (bytesVal s.data.toList kt.data.toList v.data.toList)=.tuple #[.string ⟨#[]⟩, .bool false] by unfold bytesVal;rw[hvo];rfl)
  clear hvo
  go_enter Tryz.func11,Tryz.ntmps11
  go_wp2_with (go_at_call 27;refine HG.out.mono ?_;rintro e w2 ⟨ho,hb2⟩;obtain⟨p,a,b,c,rfl⟩:=HO.out _ _ _ ho;have HB2:=hid hb2;clear ho hb2)
  go_ret2
  exact⟨by rw[HD.out];rfl,by have B:=HB2.out;have hB:=B.size;repeat (first|with_reducible exact B|with_reducible refine Below.drew ?_|with_reducible refine Below.setCell ?_ (by simp) _|with_reducible refine Below.alloc ?_ (by first|exact B.size|(simp;omega)) _)⟩
 | some y =>
  have HO:=hid fun lo e w' (h:GivOut s.data.toList kt.data.toList v.data.toList lo e w')=>(by unfold GivOut at h;rw[hvo] at h;exact h:∃ sb cs,e=.returned (.tuple #[ptr sb,kV y.1.2, .agg cs.toArray, .bool true])∧ScL w' lo sb y.1.1∧VC w' (fun b=>lo≤b) y.2 cs)
  have hbv:bytesVal s.data.toList kt.data.toList v.data.toList=some y.2.bytes:=by unfold bytesVal;rw[hvo];rfl
  have hl:=bytesVal_len hbv
  have hok:=Wf.typed_bok 12 _ _ (Wf.valIn_some (valOf_some hvo).2).1
  have HTB:=hid fun(P:Nat→Prop) (q g n c:Nat) (T:ByteArray) (sa:Option Addr) (W2 w2:World) (hv:VC W2 P y.2 [.int .u8 q, .string T, .int .i64 g, .slice sa n c]) (hb:Below W2.heap.size W2 w2)=>toBytes_i y.2 hok P q g n c T sa W2 w2 hv hb hl
  obtain⟨R,hR⟩:∃ R:ByteArray,(⟨y.2.bytes.toArray⟩:ByteArray)=R:=⟨_,rfl⟩
  have HD:=hid (show vfV (bytesVal s.data.toList kt.data.toList v.data.toList)=.tuple #[.string R, .bool true] by rw[hbv,← hR];rfl)
  rw[show vfV (some y.2.bytes)=.tuple #[.string R, .bool true] by rw[← hR];rfl] at HTB
  obtain⟨SG,hSG⟩:∃ SG:ByteArray,(⟨y.1.2.signs.toArray⟩:ByteArray)=SG:=⟨_,rfl⟩
  obtain⟨BS,hBS⟩:∃ BS:ByteArray,(⟨y.1.2.base.toArray⟩:ByteArray)=BS:=⟨_,rfl⟩
  obtain⟨NM,hNM⟩:∃ NM:ByteArray,(⟨y.1.2.name.toArray⟩:ByteArray)=NM:=⟨_,rfl⟩
  have hkv:kV y.1.2=.agg #[.string SG, .string BS, .string NM]:=by simp only[kV,tx,hSG,hBS,hNM]
  rw[hkv] at HO
  clear hvo hbv hl hok hR hSG hBS hNM hkv
  go_enter Tryz.func11,Tryz.ntmps11
  go_wp2_with (first|(go_at_call 28;have _u:=HVC;refine(HTB.out _ q g n d T sa w2 _ HVC.out (((Below.refl _ _).alloc (Nat.le_refl _) _).alloc (by simp) _)).mono ?_;rintro e w3 ⟨rfl,hb3⟩;have B3:=hid (below_join (((Below.refl w2.heap.size w2).alloc (Nat.le_refl _) _).alloc (by simp) _) hb3);clear hb3)|(go_at_call 27;refine HG.out.mono ?_;rintro e w2 ⟨ho,hb2⟩;obtain⟨sb,cs,rfl,_,hvc⟩:=HO.out _ _ _ ho;obtain⟨q,g,n,d,T,sa,rfl⟩:=hvc.cells4;have HVC:=hid hvc;have HB2:=hid hb2;clear ho hb2 hvc))
  go_ret2
  exact⟨by rw[HD.out];rfl,HB2.out.trans (B3.out.mono HB2.out.size)⟩

theorem l1Put (n:Nat) (hn:n≤999999) (w:World):Calls Tryz.prog 53 #[.int .i64 n] w fun e w'=>e=.returned (tx (Wf.putN n))∧Below w.heap.size w w':=by
 have:=l1Put_any n n w (Int.le_refl _) (by omega) (by omega)
 simpa using this
set_option maxRecDepth 20000 in
theorem l5Len (s:ByteArray) (hs:s.size≤999999) (w:World):Calls Tryz.prog 54 #[.string s] w fun e w'=>e=.returned (tx (Wf.putN s.data.toList.length++s.data.toList))∧Below w.heap.size w w':=by
 have HP:=hid fun wz=>l1Put s.size hs wz
 obtain⟨B,hB⟩:∃ B:ByteArray,(⟨(Wf.putN s.size).toArray⟩:ByteArray)=B:=⟨_,rfl⟩
 have hBs:B.size≤3:=by rw[← hB];exact(Wf.putN_len s.size hs).2
 have HF:=hid (show(⟨(Wf.putN s.data.toList.length++s.data.toList).toArray⟩:ByteArray)=B++s from
  ((eq_list (B++s) _).2 (by rw[ByteArray.data_append,Array.toList_append,← hB,size_list])).symm)
 have a1:=fun wz=>run_string_add_sum (P:=Tryz.prog) (w:=wz) B s (by omega)
 simp only[tx,hB] at HP
 clear hB
 go_enter Tryz.func54,Tryz.ntmps54
 go_wp2_with (go_at_call 53;refine(HP.out _).mono ?_;rintro e w2 ⟨rfl,hb2⟩;have HB2:=hid hb2;clear hb2)
 go_ret
 exact⟨by rw[tx,HF.out];rfl,HB2.out⟩
section
variable (b:Nat) (KD:ByteArray) (w:World)
set_option maxRecDepth 20000 in
set_option maxHeartbeats 2000000 in
theorem lb_num (T:ByteArray) (m:Nat) (hm:m≤999999) (hT:T.data.toList=Wf.dec m) (hlt:b<w.heap.size) (hs:0<KD.size) (e0:∀ h,(KD[0]'h).toNat=110) (c0:w.cell? ⟨b,0,none⟩=some (.string KD)) (c1:w.cell? ⟨b,1,none⟩=some (.string T)) :
  Calls Tryz.prog 30 #[ptr b] w fun e w'=>e=.returned (tx (Wf.putN m))∧Below w.heap.size w w':=by
 have hTs:T.size≤6:=by rw[← size_list,hT];exact Wf.dec_len6 hm
 have HN:=hid fun wz=>(l3Num T 999999 (Nat.le_refl _) wz (by omega)).mono (R':=fun e w'=>e=.returned (.tuple #[.int .i64 m, .bool true])∧Below wz.heap.size wz w') fun e w' ⟨h1,h2⟩=>⟨by unfold NumOut at h1;rw[hT,Wf.plainN_dec hm hm] at h1;exact h1,h2⟩
 have HP:=hid fun wz=>l1Put m hm wz
 obtain⟨B,hB⟩:∃ B:ByteArray,(⟨(Wf.putN m).toArray⟩:ByteArray)=B:=⟨_,rfl⟩
 simp only[tx,hB] at HP ⊢
 clear hT hB
 go_enter Tryz.func30,Tryz.ntmps30
 go_wp2_with (first|(go_at_call 53;refine(HP.out _).mono ?_;rintro e w3 ⟨rfl,hb3⟩;have B3:=hid (below_join HB2.out hb3);clear hb3)|(go_at_call 52;refine(HN.out _).mono ?_;rintro e w2 ⟨rfl,hb2⟩;have HB2:=hid hb2;clear hb2))
 go_ret
 exact⟨rfl,B3.out⟩
set_option maxRecDepth 20000 in
set_option maxHeartbeats 2000000 in
theorem lb_txt (T X:ByteArray) (hX:T.data.toList=39::(X.data.toList++[39])) (hXs:X.size≤12) (hlt:b<w.heap.size) (hs:0<KD.size) (e0:∀ h,(KD[0]'h).toNat=116) (c0:w.cell? ⟨b,0,none⟩=some (.string KD)) (c1:w.cell? ⟨b,1,none⟩=some (.string T)) :
  Calls Tryz.prog 30 #[ptr b] w fun e w'=>e=.returned (tx (Wf.putN X.data.toList.length++X.data.toList))∧Below w.heap.size w w':=by
 have hTs:T.size=X.size+2:=by rw[← size_list,hX,← size_list];simp
 have HL:=hid fun wz=>l5Len X (by omega) wz
 obtain⟨B,hB⟩:∃ B:ByteArray,(⟨(Wf.putN X.data.toList.length++X.data.toList).toArray⟩:ByteArray)=B:=⟨_,rfl⟩
 simp only[tx,hB] at HL ⊢
 have hx:T.extract 1 (T.size-1)=X:=by
  have h1:(T.extract 1 (T.size-1)).data.toList=X.data.toList:=by
   rw[ext_list,hX,hTs,show X.size+2-1-1=X.size by omega,List.drop_succ_cons,List.drop_zero,← size_list,List.take_left]
  rw[eq_arr _ _ h1]
 have kw:IntKind.i64.wrap ((T.size:Int)-1)=(T.size:Int)-1:=IntWalk.i64_in _ (by omega)
 have ks:∀ wz,(Instr.slice 9 (.string T) (some (.int .i64 1)) (some (.int .i64 ((T.size:Int)-1))) none).run Tryz.prog wz=.ok (.string X) wz:=fun wz=>by
  have h:=run_slice_string (P:=Tryz.prog) (w:=wz) 9 T .i64 .i64 1 ((T.size:Int)-1) Tryz.underlying9 (by omega) (by omega) (by omega)
  rw[h,show(1:Int).toNat=1 from rfl,show((T.size:Int)-1).toNat=T.size-1 by omega,hx]
 have ht2:(2:Int)≤(T.size:Int):=by omega
 have ht3:(T.size:Int)≤14:=by omega
 clear hX hB hx hTs
 go_enter Tryz.func30,Tryz.ntmps30
 go_wp2_with fail
 go_region_held3 (fun w'=>w'.cell? ⟨b,1,none⟩=some (.string T)) (first|exact j1|go_keep) ((go_at_call 54;refine(HL.out _).mono ?_;rintro e w3 ⟨rfl,hb3⟩;have TD:=hid (show Below w.heap.size w w3 by refine Below.trans (b:=_) ?_ hb3;repeat (first|with_reducible exact Below.refl _ _|with_reducible refine Below.drew ?_));have j1:=(TD.out.cell (p:=⟨b,1,none⟩) hlt).trans c1;clear hb3))
 all_goals go_wp2_with fail
 all_goals go_ret
 all_goals exact⟨rfl,TD.out⟩
set_option maxRecDepth 20000 in
set_option maxHeartbeats 2000000 in
theorem lb_flag (y:Bool) (hlt:b<w.heap.size) (hs:0<KD.size) (e0:∀ h,(KD[0]'h).toNat=102) (c0:w.cell? ⟨b,0,none⟩=some (.string KD)) (c1:w.cell? ⟨b,1,none⟩=some (tx (if y then [121,101,115] else [110,111]))) :
  Calls Tryz.prog 30 #[ptr b] w fun e w'=>e=.returned (tx (if y then [1] else [0]))∧Below w.heap.size w w':=by
 have hcv:=run_convert_lit (P:=Tryz.prog) 22 9 5 Tryz.underlying22 Tryz.underlying5 Tryz.underlying9
 cases y
 ·rw[if_neg (by simp)] at c1 ⊢
  obtain⟨T,hT⟩:∃ T:ByteArray,(⟨#[110,111]⟩:ByteArray)=T:=⟨_,rfl⟩
  have c1:w.cell? ⟨b,1,none⟩=some (.string T):=by rw[← hT];exact c1
  have hTs:(T.size:Int)=2:=by rw[← hT];rfl
  clear hT
  go_enter Tryz.func30,Tryz.ntmps30
  go_wp2_with fail
  go_ret
  exact⟨rfl,(Below.refl _ _).alloc (Nat.le_refl _) _⟩
 ·rw[if_pos rfl] at c1 ⊢
  obtain⟨T,hT⟩:∃ T:ByteArray,(⟨#[121,101,115]⟩:ByteArray)=T:=⟨_,rfl⟩
  have c1:w.cell? ⟨b,1,none⟩=some (.string T):=by rw[← hT];exact c1
  have hTs:(T.size:Int)=3:=by rw[← hT];rfl
  clear hT
  go_enter Tryz.func30,Tryz.ntmps30
  go_wp2_with fail
  go_ret
  exact⟨rfl,(Below.refl _ _).alloc (Nat.le_refl _) _⟩
set_option maxRecDepth 20000 in
set_option maxHeartbeats 2000000 in
theorem lb_none (c:Nat) (a:Option Addr) (hlt:b<w.heap.size) (hs:0<KD.size) (e0:∀ h,(KD[0]'h).toNat=63) (c0:w.cell? ⟨b,0,none⟩=some (.string KD)) (c3:w.cell? ⟨b,3,none⟩=some (.slice a 0 c)) :
  Calls Tryz.prog 30 #[ptr b] w fun e w'=>e=.returned (tx [0])∧Below w.heap.size w w':=by
 have hcv:=run_convert_lit (P:=Tryz.prog) 22 9 5 Tryz.underlying22 Tryz.underlying5 Tryz.underlying9
 go_enter Tryz.func30,Tryz.ntmps30
 go_wp2_with fail
 go_ret
 exact⟨rfl,(Below.refl _ _).alloc (Nat.le_refl _) _⟩
set_option maxRecDepth 20000 in
set_option maxHeartbeats 4000000 in
theorem lb_some (kb o u c:Nat) (T:ByteArray) (hlt:b<w.heap.size) (hs:0<KD.size) (e0:∀ h,(KD[0]'h).toNat=63) (c0:w.cell? ⟨b,0,none⟩=some (.string KD)) (c3:w.cell? ⟨b,3,none⟩=some (.slice (some ⟨kb,o,none⟩) 1 c)) (hkb:kb<w.heap.size) (ck:w.cell? ⟨kb,o,none⟩=some (ptr u)) (h1:1≤c) (hc:c≤maxLen) (hT:T.size≤2000000)
  (hk:∀ wz,Below w.heap.size w wz→Calls Tryz.prog 30 #[ptr u] wz fun e w'=>e=.returned (.string T)∧Below wz.heap.size wz w') :
  Calls Tryz.prog 30 #[ptr b] w fun e w'=>e=.returned (tx (1::T.data.toList))∧Below w.heap.size w w':=by
 have HK:=hid hk
 have HO:=hid (show(⟨#[1]⟩:ByteArray)++T=⟨(1::T.data.toList).toArray⟩ by rw[eq_list];simp)
 have hc1:=fun W a c=>run_convert_one (P:=Tryz.prog) 22 9 5 Tryz.underlying22 Tryz.underlying5 Tryz.underlying9 W a c 1
 have a1:=fun wz=>run_string_add_sum (P:=Tryz.prog) (w:=wz) ⟨#[1]⟩ T (by show 1+T.size≤_;omega)
 unfold maxLen at hc
 have F:=hid fun(wz:World) (hz:Below w.heap.size w wz)=>(show wz.cell? ⟨b,3,none⟩=some (.slice (some ⟨kb,o,none⟩) 1 c)∧wz.cell? ⟨kb,o,none⟩=some (ptr u) from⟨(hz.cell (p:=⟨b,3,none⟩) hlt).trans c3,(hz.cell (p:=⟨kb,o,none⟩) hkb).trans ck⟩)
 clear hk
 go_enter Tryz.func30,Tryz.ntmps30
 go_wp2_with fail
 go_region_with (go_at_call 30;refine(HK.out _ (by repeat (first|with_reducible exact Below.refl _ _|with_reducible refine Below.drew ?_|with_reducible refine Below.alloc ?_ (by simp) _))).mono ?_;rintro e w2 ⟨rfl,hb2⟩;have TD:=hid (show Below w.heap.size w w2 by refine Below.trans (b:=_) ?_ (hb2.mono (by simp));repeat (first|with_reducible exact Below.refl _ _|with_reducible refine Below.drew ?_|with_reducible refine Below.alloc ?_ (by simp) _));have hc:=(bcell hb2).1;clear hb2)
 all_goals go_wp2_with fail
 all_goals go_ret
 all_goals first|exact⟨ret_str HO.out,TD.out⟩|exact⟨ret_str HO.out,TD.out.alloc TD.out.size _⟩
set_option maxRecDepth 20000 in
set_option maxHeartbeats 2000000 in
theorem lb_list (kb:Nat) (kv:Value) (bs:List Nat) (ps:List (List UInt8)) (hlt:b<w.heap.size) (hs:0<KD.size) (e0:∀ h,(KD[0]'h).toNat=91) (c0:w.cell? ⟨b,0,none⟩=some (.string KD)) (c3:w.cell? ⟨b,3,none⟩=some kv) (hrow:RowAt w kb kv (bs.map ptr)) (hl:bs.length=ps.length) (hn:ps.length≤1000) (hsz:ps.flatten.length≤2000000)
  (hk:∀ i (h1:i<bs.length) (h2:i<ps.length) wz,Below w.heap.size w wz→Calls Tryz.prog 30 #[ptr bs[i]] wz fun e w'=>e=.returned (tx ps[i])∧Below wz.heap.size wz w') :
  Calls Tryz.prog 30 #[ptr b] w fun e w'=>e=.returned (tx (Wf.putN ps.length++ps.flatten))∧Below w.heap.size w w':=by
 obtain⟨a,c,rfl,hnc,hcm⟩:=hrow.form
 obtain⟨m,hm⟩:∃ m,(bs.map ptr).length=m:=⟨_,rfl⟩
 have hbm:bs.length=m:=by rw[← hm,List.length_map]
 have hpm:ps.length=m:=by omega
 have hm6:m≤1000:=by omega
 rw[hpm]
 obtain⟨B,hB⟩:∃ B:ByteArray,(⟨(Wf.putN m).toArray⟩:ByteArray)=B:=⟨_,rfl⟩
 have hBs:B.size≤3:=by rw[← hB];exact(Wf.putN_len m (by omega)).2
 have HBL:=hid (show B.data.toList=Wf.putN m by rw[← hB])
 have HP:=hid fun wz=>l1Put m (by omega) wz
 simp only[tx,hB] at HP
 have HBM:=hid hbm
 have HPM:=hid hpm
 have HMM:=hid hm
 rw[hm] at c3 hrow hnc
 have HROW:=hid hrow
 have HK:=hid hk
 have HSZ:=hid hsz
 have HFT:=hid fun(i:Nat) (hi:i<ps.length)=>(show(ps.take (i+1)).flatten=(ps.take i).flatten++ps[i] by
  have e:ps.take (i+1)=ps.take i++[ps[i]]:=by rw[List.take_add_one,List.getElem?_eq_getElem hi];rfl
  rw[e,List.flatten_append,List.flatten_cons,List.flatten_nil,List.append_nil])
 have HFL:=hid fun(i:Nat)=>(show(ps.take i).flatten.length≤2000000 by
  refine Nat.le_trans ?_ hsz
  conv=>rhs;rw[← List.take_append_drop i ps,List.flatten_append,List.length_append]
  omega)
 unfold maxLen at hcm
 clear hrow hk hl hsz hm hbm hpm hB
 go_enter Tryz.func30,Tryz.ntmps30
 go_wp2_with (go_at_call 53;refine(HP.out _).mono ?_;rintro e w2 ⟨rfl,hb2⟩;have HB2:=hid hb2;clear hb2)
 go_loopw [5,6] (fun s5 s6 wr=>∃ (i:Nat) (S:ByteArray),s5=.string S∧s6=.int .i64 i∧i≤m∧S.size≤2000003∧Hid (S.data.toList=Wf.putN m++(ps.take i).flatten∧Below w.heap.size w wr)) (fun _ s6 _=>m-(RowKit.intOf s6).toNat)
 case atStart=>exact⟨0,B,rfl,rfl,Nat.zero_le _,by omega,hid ⟨by rw[HBL.out];simp,HB2.out⟩⟩
 case round =>
  obtain⟨i,S,rfl,rfl,hi,hS,hh⟩:=hrel
  have hbw:b<wr.heap.size:=Nat.lt_of_lt_of_le hlt hh.out.2.size
  have y3:=(hh.out.2.cell (p:=⟨b,3,none⟩) hlt).trans c3
  by_cases hlt2:i<m
  ·have hib:i<bs.length:=by rw[HBM.out];exact hlt2
   have hip:i<ps.length:=by rw[HPM.out];exact hlt2
   obtain⟨o,rfl,hkb,_,_,ck⟩:=HROW.out.get (i:=i) (by rw[HMM.out];exact hlt2)
   rw[List.getElem_map] at ck
   obtain⟨u,hu⟩:∃ u,bs[i]=u:=⟨_,rfl⟩
   obtain⟨T,hT⟩:∃ T:ByteArray,(⟨(ps[i]).toArray⟩:ByteArray)=T:=⟨_,rfl⟩
   rw[hu] at ck
   have hkw:kb<wr.heap.size:=Nat.lt_of_lt_of_le hkb hh.out.2.size
   have yk:=(hh.out.2.cell (p:=⟨kb,o+i,none⟩) hkb).trans ck
   have HC:=hid (show Calls Tryz.prog 30 #[ptr u] wr fun e w'=>e=.returned (.string T)∧Below wr.heap.size wr w' by
    have:=HK.out i hib hip wr hh.out.2
    rw[hu] at this
    simp only[tx,hT] at this
    exact this)
   have hft:=HFT.out i hip
   have hfl:=HFL.out (i+1)
   have hpl:(Wf.putN m).length≤3:=(Wf.putN_len m (by omega)).2
   have HE:=hid (show(S++T).data.toList=Wf.putN m++(ps.take (i+1)).flatten by
    rw[hft,ByteArray.data_append,Array.toList_append,hh.out.1,← hT,List.append_assoc])
   have hST:(S++T).size≤2000003:=by
    rw[← size_list,HE.out,List.length_append]
    omega
   have hTs:S.size+T.size≤2000003:=by rw[← ByteArray.size_append];exact hST
   clear hu hT ck hft hfl
   go_wp2_with (go_at_call 30;refine HC.out.mono ?_;rintro e w2 ⟨rfl,hb2⟩;have HB3:=hid hb2;clear hb2)
   go_roundw
   case rel=>exact⟨i+1,S++T,by rfl,by go_num,by omega,hST,hid ⟨HE.out,hh.out.2.trans (HB3.out.mono hh.out.2.size)⟩⟩
   case measure=>simp[RowKit.intOf];omega
  ·have him:i=m:=by omega
   subst him
   have HE:=hid (show S=⟨(Wf.putN i++ps.flatten).toArray⟩ by
    rw[eq_list,hh.out.1,List.take_of_length_le (by rw[HPM.out];exact Nat.le_refl _)])
   go_wp2_with fail
   go_ret
   exact⟨ret_str HE.out,hh.out.2⟩
set_option maxRecDepth 20000 in
set_option maxHeartbeats 4000000 in
theorem lb_named (T O:ByteArray) (y:Bool) (hy:(T.toList==[82])=y) (tb kb:Nat) (tv kv:Value) (gs bs:List Nat) (ps Q:List (List UInt8)) (hlt:b<w.heap.size) (hs:0<KD.size) (e0:∀ h,(KD[0]'h).toNat=64) (c0:w.cell? ⟨b,0,none⟩=some (.string KD)) (c1:w.cell? ⟨b,1,none⟩=some (.string T)) (c2:w.cell? ⟨b,2,none⟩=some tv) (c3:w.cell? ⟨b,3,none⟩=some kv) (hrt:RowAt w tb tv (gs.map ix)) (hrow:RowAt w kb kv (bs.map ptr)) (hlp:bs.length=ps.length) (hgl:Q.length=gs.length) (hn:gs.length≤1000)
  (hg:∀ g∈gs,g≤999999) (hsz:Q.flatten.length≤2000000) (hO:O.data.toList=Q.flatten++(if y then [0] else []))
  (hQ:∀ i (h1:i<Q.length) (h2:i<gs.length),(∃ h3:i<ps.length,ps[i].length≤999999∧Q[i]=Wf.putN gs[i]++(Wf.putN ps[i].length++ps[i]))∨(ps.length≤i∧Q[i]=Wf.putN gs[i]))
  (hk:∀ i (h1:i<bs.length) (h2:i<ps.length) wz,Below w.heap.size w wz→Calls Tryz.prog 30 #[ptr bs[i]] wz fun e w'=>e=.returned (tx ps[i])∧Below wz.heap.size wz w') :
  Calls Tryz.prog 30 #[ptr b] w fun e w'=>e=.returned (.string O)∧Below w.heap.size w w':=by
 obtain⟨a,c,rfl,hnc,hcm⟩:=hrow.form
 obtain⟨ta,tc,rfl,htc,htm⟩:=hrt.form
 obtain⟨k,hkk⟩:∃ k,(bs.map ptr).length=k:=⟨_,rfl⟩
 obtain⟨m,hm⟩:∃ m,(gs.map ix).length=m:=⟨_,rfl⟩
 have hbk:bs.length=k:=by rw[← hkk,List.length_map]
 have hpk:ps.length=k:=by omega
 have hgm:gs.length=m:=by rw[← hm,List.length_map]
 have hqm:Q.length=m:=by omega
 have hm6:m≤1000:=by omega
 have HKK:=hid hkk
 have HMM:=hid hm
 have HBK:=hid hbk
 have HPK:=hid hpk
 have HGM:=hid hgm
 have HQM:=hid hqm
 rw[hkk] at c3 hrow hnc
 rw[hm] at c2 hrt htc
 have HROW:=hid hrow
 have HRT:=hid hrt
 have HK:=hid hk
 have HG:=hid hg
 have HQ:=hid hQ
 have HO:=hid hO
 have HFT:=hid fun(i:Nat) (hi:i<Q.length)=>(show(Q.take (i+1)).flatten=(Q.take i).flatten++Q[i] by
  have e:Q.take (i+1)=Q.take i++[Q[i]]:=by rw[List.take_add_one,List.getElem?_eq_getElem hi];rfl
  rw[e,List.flatten_append,List.flatten_cons,List.flatten_nil,List.append_nil])
 have HFL:=hid fun(i:Nat)=>(show(Q.take i).flatten.length≤2000000 by
  refine Nat.le_trans ?_ hsz
  conv=>rhs;rw[← List.take_append_drop i Q,List.flatten_append,List.length_append]
  omega)
 have hcv:=run_convert_lit (P:=Tryz.prog) 22 9 5 Tryz.underlying22 Tryz.underlying5 Tryz.underlying9
 have HCV:=hid hcv
 unfold maxLen at hcm htm
 clear hrow hk hlp hsz hm hkk hbk hpk hrt hg hgm hqm hQ hgl hO hcv
 go_enter Tryz.func30,Tryz.ntmps30
 go_wp2_with fail
 go_loopw [7,8] (fun s7 s8 wr=>∃ (i:Nat) (S:ByteArray),s7=.string S∧s8=.int .i64 i∧i≤m∧S.size≤2000000∧Hid (S.data.toList=(Q.take i).flatten∧Below w.heap.size w wr)) (fun _ s8 _=>m-(RowKit.intOf s8).toNat)
 case atStart=>exact⟨0,⟨#[]⟩,rfl,rfl,Nat.zero_le _,by decide,hid ⟨rfl,Below.refl _ _⟩⟩
 case round =>
  obtain⟨i,S,rfl,rfl,hi,hS,hh⟩:=hrel
  have hbw:b<wr.heap.size:=Nat.lt_of_lt_of_le hlt hh.out.2.size
  have y2:=(hh.out.2.cell (p:=⟨b,2,none⟩) hlt).trans c2
  by_cases hlt2:i<m
  ·have hig:i<gs.length:=by rw[HGM.out];exact hlt2
   have hiq:i<Q.length:=by rw[HQM.out];exact hlt2
   obtain⟨p,rfl,htb,_,_,ct⟩:=HRT.out.get (i:=i) (by rw[HMM.out];exact hlt2)
   rw[List.getElem_map] at ct
   obtain⟨g,hgi⟩:∃ g,gs[i]=g:=⟨_,rfl⟩
   have hg6:g≤999999:=by rw[← hgi];exact HG.out _ (List.getElem_mem hig)
   rw[hgi] at ct
   have hct:ix g=.int .i64 g:=rfl
   rw[hct] at ct
   have htw:tb<wr.heap.size:=Nat.lt_of_lt_of_le htb hh.out.2.size
   have yt:=(hh.out.2.cell (p:=⟨tb,p+i,none⟩) htb).trans ct
   have HD:=hid fun wz=>l1Put g hg6 wz
   obtain⟨D,hD⟩:∃ D:ByteArray,(⟨(Wf.putN g).toArray⟩:ByteArray)=D:=⟨_,rfl⟩
   have hDl:D.data.toList=Wf.putN g:=by rw[← hD]
   have hDs:D.size≤3:=by rw[← hD];exact(Wf.putN_len g hg6).2
   simp only[tx,hD] at HD
   have hft:=HFT.out i hiq
   have hfl:=HFL.out (i+1)
   have a1:=fun wz=>run_string_add_sum (P:=Tryz.prog) (w:=wz) S D (by omega)
   have n1:(0:Int)≤(i:Int):=by omega
   have n2:(i:Int)<(m:Int):=by omega
   have hq:=HQ.out i hiq hig
   rw[hgi] at hq
   clear hct ct hgi hD
   rcases hq with⟨hip,hpl,hqe⟩|⟨hip,hqe⟩
   ·have hik:i<k:=by rw[← HPK.out];exact hip
    have hib:i<bs.length:=by rw[HBK.out];exact hik
    have n3:(i:Int)<(k:Int):=by omega
    have y3:=(hh.out.2.cell (p:=⟨b,3,none⟩) hlt).trans c3
    obtain⟨o,rfl,hkb,_,_,ck⟩:=HROW.out.get (i:=i) (by rw[HKK.out];exact hik)
    rw[List.getElem_map] at ck
    obtain⟨u,hu⟩:∃ u,bs[i]=u:=⟨_,rfl⟩
    obtain⟨X,hX⟩:∃ X:ByteArray,(⟨(ps[i]).toArray⟩:ByteArray)=X:=⟨_,rfl⟩
    have hXl:X.data.toList=ps[i]:=by rw[← hX]
    have hXs:X.size=ps[i].length:=by rw[← hX];rfl
    rw[hu] at ck
    have hkw:kb<wr.heap.size:=Nat.lt_of_lt_of_le hkb hh.out.2.size
    have yk:=(hh.out.2.cell (p:=⟨kb,o+i,none⟩) hkb).trans ck
    have HC:=hid fun(wz:World) (hz:Below wr.heap.size wr wz)=>(show Calls Tryz.prog 30 #[ptr u] wz fun e w'=>e=.returned (.string X)∧Below wz.heap.size wz w' by
     have:=HK.out i hib hip wz (hh.out.2.trans (hz.mono hh.out.2.size))
     rw[hu] at this
     simp only[tx,hX] at this
     exact this)
    have HL:=hid fun wz=>l5Len X (by omega) wz
    obtain⟨Z,hZ⟩:∃ Z:ByteArray,(⟨(Wf.putN X.data.toList.length++X.data.toList).toArray⟩:ByteArray)=Z:=⟨_,rfl⟩
    have hZl:Z.data.toList=Wf.putN ps[i].length++ps[i]:=by rw[← hZ,← hXl]
    simp only[tx,hZ] at HL
    have HE:=hid (show(S++D++Z).data.toList=(Q.take (i+1)).flatten by
     rw[hft,hqe,ByteArray.data_append,ByteArray.data_append,Array.toList_append,Array.toList_append,hh.out.1,hDl,hZl,List.append_assoc])
    have hSZ:(S++D++Z).size≤2000000:=by rw[← size_list,HE.out];exact hfl
    have a2:=fun wz=>run_string_add_sum (P:=Tryz.prog) (w:=wz) (S++D) Z (by rw[← ByteArray.size_append];omega)
    clear hu hX ck hZ hZl hXl hXs hft hfl hqe hpl hDl
    go_wp2_with (first|(go_at_call 54;have _u:=HB3;refine(HL.out _).mono ?_;rintro e w4 ⟨rfl,hb4⟩;have HB4:=hid (HB3.out.trans (hb4.mono HB3.out.size));clear hb4)|(go_at_call 30;have _u:=HB2;refine(HC.out _ HB2.out).mono ?_;rintro e w3 ⟨rfl,hb3⟩;have HB3:=hid (HB2.out.trans (hb3.mono HB2.out.size));clear hb3)|(go_at_call 53;refine(HD.out _).mono ?_;rintro e w2 ⟨rfl,hb2⟩;have HB2:=hid hb2;have z3:=(hb2.cell (p:=⟨b,3,none⟩) hbw).trans y3;have zk:=(hb2.cell (p:=⟨kb,o+i,none⟩) hkw).trans yk;have zl1:=Nat.lt_of_lt_of_le hbw hb2.size;have zl2:=Nat.lt_of_lt_of_le hkw hb2.size;clear hb2))
    go_roundw
    case rel=>exact⟨i+1,S++D++Z,by rfl,by go_num,by omega,hSZ,hid ⟨HE.out,hh.out.2.trans (HB4.out.mono hh.out.2.size)⟩⟩
    case measure=>simp[RowKit.intOf];omega
   ·have hik:k≤i:=by rw[← HPK.out];exact hip
    have n3:¬ (i:Int)<(k:Int):=by omega
    have y3:=(hh.out.2.cell (p:=⟨b,3,none⟩) hlt).trans c3
    have HE:=hid (show(S++D).data.toList=(Q.take (i+1)).flatten by
     rw[hft,hqe,ByteArray.data_append,Array.toList_append,hh.out.1,hDl])
    have hSZ:(S++D).size≤2000000:=by rw[← size_list,HE.out];exact hfl
    clear hft hfl hqe hDl
    go_wp2_with (go_at_call 53;refine(HD.out _).mono ?_;rintro e w2 ⟨rfl,hb2⟩;have HB2:=hid hb2;have z3:=(hb2.cell (p:=⟨b,3,none⟩) hbw).trans y3;have zl1:=Nat.lt_of_lt_of_le hbw hb2.size;clear hb2)
    go_roundw
    case rel=>exact⟨i+1,S++D,by rfl,by go_num,by omega,hSZ,hid ⟨HE.out,hh.out.2.trans (HB2.out.mono hh.out.2.size)⟩⟩
    case measure=>simp[RowKit.intOf];omega
  ·have him:i=m:=by omega
   subst him
   have y1:=(hh.out.2.cell (p:=⟨b,1,none⟩) hlt).trans c1
   have hSl:=hh.out.1
   rw[List.take_of_length_le (by rw[HQM.out];exact Nat.le_refl _)] at hSl
   have hcv:=HCV.out
   cases y with
   | true =>
    have HE:=hid (show S++(⟨#[0]⟩:ByteArray)=O from by
     have h1:(S++(⟨#[0]⟩:ByteArray)).data.toList=O.data.toList:=by
      rw[HO.out,if_pos rfl,ByteArray.data_append,Array.toList_append,hSl]
     rw[eq_arr _ _ h1])
    clear hSl
    go_wp2_with fail
    go_ret
    exact⟨ret_str HE.out,hh.out.2.alloc hh.out.2.size _⟩
   | false =>
    have HE:=hid (show S=O from by
     have h1:S.data.toList=O.data.toList:=by rw[HO.out,if_neg (by simp),List.append_nil,hSl]
     rw[eq_arr _ _ h1])
    clear hSl hcv
    go_wp2_with fail
    go_ret
    exact⟨ret_str HE.out,hh.out.2⟩
end
end Go.Proofs.YtidjpalnmnehmaaGreatDoor
