/- Packed by pack.py: Xo Xp Xr Wc. -/
import Derived.Test.YtmdacedmjbiekaaGreatDoorQ45
import Derived.Test.YtmdacedmjbiekaaGreatDoorQ37
import Derived.Test.YtmdacedmjbiekaaGreatDoorQ31
namespace Go.Proofs.YtmdacedmjbiekaaGreatDoor
open Go.ChangeShapes Go.WideShapes Go.ChangeAt Go.RowKit Go.Lib
set_option linter.unusedVariables false
set_option linter.unusedSimpArgs false
theorem str_ne {S:ByteArray} {c:UInt8} {q:List UInt8} (h:S.data.toList=c::q):S.toList.isEmpty=false∧S.toList≠[]∧0<S.size∧1≤S.size∧(∀ h,(S[0]'h).toNat=c.toNat)∧(S.extract 1 S.size).data.toList=q:=by
 rcases str_guard S with⟨h1,_⟩|⟨c',q',h1,h2,h3,h4,h5,h6⟩
 ·rw[h] at h1;cases h1
 ·rw[h] at h1
  cases h1
  exact⟨h2,h3,h4,h4,h5,by rw[h6]⟩
section
variable (x:Wf.Sc) (v:Value) (W:World) (n:Nat) (S KT:ByteArray) (D:Int) (w:World) (o:Option (Wf.V × List UInt8))
set_option maxRecDepth 20000 in
theorem read_no (h:S.toList.isEmpty=true∨(S.toList.isEmpty=false∧decide (D<1)=true)) (ho:o=none):Calls Tryz.prog 63 #[.agg #[v], .string S, .string KT, .int .i64 D] w fun e w'=>LrOut o w e w'∧Below w.heap.size w w':=by
 have HO:=hid ho
 clear ho
 rcases h with h|⟨h,h2⟩
 all_goals
  go_enter Tryz.func63,Tryz.ntmps63
  go_wp2_with fail
  all_goals exact bodyPost_ret (v:=.tuple #[.pointer none, .string S, .bool false]) (by simp[results,Tryz.results63,go_sem, *]) rfl ⟨LrOut.no HO.out ⟨_,_,rfl⟩,(Below.refl _ _).alloc (Nat.le_refl _) _⟩
set_option maxRecDepth 20000 in
theorem read_plain (hS:S.toList.isEmpty=false) (hD:decide (D<1)=false) (q:Nat) (hk0:0<KT.size) (ek:∀ h,(KT[0]'h).toNat=q) (hq:q=110∨q=116∨q=102)
  (hp:∀ wz,Calls Tryz.prog 97 #[.agg #[v], .string S, .string KT] wz fun e w'=>LrOut o wz e w'∧Below wz.heap.size wz w') :
  Calls Tryz.prog 63 #[.agg #[v], .string S, .string KT, .int .i64 D] w fun e w'=>LrOut o w e w'∧Below w.heap.size w w':=by
 have HP:=hid hp
 clear hp
 rcases hq with rfl|rfl|rfl
 all_goals
  go_enter Tryz.func63,Tryz.ntmps63
  go_wp2_with (go_at_call 97;refine(HP.out _).mono ?_;rintro e w7 ⟨ho,hb7⟩;obtain⟨p,r,b,rfl,hlr⟩:=ho.form;have HLR:=hid hlr;have HB7:=hid (below_join ((Below.refl w.heap.size w).alloc (Nat.le_refl _) _) hb7);clear ho hb7 hlr)
  all_goals exact bodyPost_ret (v:=.tuple #[.pointer p, .string r, .bool b]) (by simp[results,Tryz.results63,go_sem, *]) rfl ⟨HLR.out.mono (by simp),HB7.out⟩
set_option maxRecDepth 20000 in
theorem read_ref (hS:S.toList.isEmpty=false) (hD:decide (D<1)=false) (hk0:0<KT.size) (ek:∀ h,(KT[0]'h).toNat=64)
  (hp:∀ wz,Below w.heap.size w wz→Calls Tryz.prog 96 #[.agg #[v], .string S, .string KT, .int .i64 D] wz fun e w'=>LrOut o wz e w'∧Below wz.heap.size wz w') :
  Calls Tryz.prog 63 #[.agg #[v], .string S, .string KT, .int .i64 D] w fun e w'=>LrOut o w e w'∧Below w.heap.size w w':=by
 have HP:=hid hp
 clear hp
 go_enter Tryz.func63,Tryz.ntmps63
 go_wp2_with (go_at_call 96;refine(HP.out _ ((Below.refl _ _).alloc (Nat.le_refl _) _)).mono ?_;rintro e w7 ⟨ho,hb7⟩;obtain⟨p,r,b,rfl,hlr⟩:=ho.form;have HLR:=hid hlr;have HB7:=hid (below_join ((Below.refl w.heap.size w).alloc (Nat.le_refl _) _) hb7);clear ho hb7 hlr)
 all_goals exact bodyPost_ret (v:=.tuple #[.pointer p, .string r, .bool b]) (by simp[results,Tryz.results63,go_sem, *]) rfl ⟨HLR.out.mono (by simp),HB7.out⟩
set_option maxRecDepth 20000 in
theorem read_list_no (hS:S.toList.isEmpty=false) (h0:0<S.size) (hD:decide (D<1)=false) (hk0:0<KT.size) (ek:∀ h,(KT[0]'h).toNat=91) (b0:Nat) (e1:∀ h,(S[0]'h).toNat=b0) (m1:((b0:Int) != 91)=true) (ho:o=none) :
  Calls Tryz.prog 63 #[.agg #[v], .string S, .string KT, .int .i64 D] w fun e w'=>LrOut o w e w'∧Below w.heap.size w w':=by
 have HO:=hid ho
 clear ho
 go_enter Tryz.func63,Tryz.ntmps63
 go_wp2_with fail
 all_goals exact bodyPost_ret (v:=.tuple #[.pointer none, .string S, .bool false]) (by simp[results,Tryz.results63,go_sem, *]) rfl ⟨LrOut.no HO.out ⟨_,_,rfl⟩,(Below.refl _ _).alloc (Nat.le_refl _) _⟩
set_option maxRecDepth 20000 in
theorem read_list (R:ByteArray) (hS:S.toList.isEmpty=false) (h0:0<S.size) (h1:1≤S.size) (hR:S.extract 1 S.size=R) (hD:decide (D<1)=false) (hk0:0<KT.size) (ek:∀ h,(KT[0]'h).toNat=91) (e1:∀ h,(S[0]'h).toNat=91)
  (hp:∀ wz,Below w.heap.size w wz→Calls Tryz.prog 95 #[.agg #[v], .string R, .string KT, .int .i64 D] wz fun e w'=>LrOut o wz e w'∧Below wz.heap.size wz w') :
  Calls Tryz.prog 63 #[.agg #[v], .string S, .string KT, .int .i64 D] w fun e w'=>LrOut o w e w'∧Below w.heap.size w w':=by
 have HP:=hid hp
 have kx:∀ wz,(Instr.slice 9 (.string S) (some (.int .i64 1)) none none).run Tryz.prog wz=.ok (.string R) wz:=fun wz=>by
  have h:=sl_suf S 1 h1 wz
  rw[hR] at h
  exact h
 clear hp hR
 have c0:(w.alloc (.cells #[v] 109)).cell? ⟨w.heap.size,0,none⟩=some v:=by simp[go_sem]
 have B3:=hid ((Below.refl w.heap.size w).alloc (Nat.le_refl _) (.cells #[v] 109))
 have hl3:w.heap.size<(w.alloc (.cells #[v] 109)).heap.size:=by simp
 go_enter Tryz.func63,Tryz.ntmps63
 go_wp2_with fail
 obtain⟨W3,hW3⟩:∃ W3,w.alloc (.cells #[v] 109)=W3:=⟨_,rfl⟩
 rw[hW3] at c0 B3 hl3
 rw[hW3]
 clear hW3
 go_region_held3 (fun w'=>w'.cell? ⟨w.heap.size,0,none⟩=some v) (first|exact j0|go_keep) ((go_at_call 95;refine(HP.out W3.drew B3.out.drew).mono ?_;rintro e w7 ⟨ho,hb7⟩;obtain⟨p,r,b,rfl,hlr⟩:=ho.form;have HLR:=hid hlr;have HB7:=hid (Below.drew (Below.refl W3.heap.size W3) |>.trans hb7);have j0:=(HB7.out.cell (p:=⟨w.heap.size,0,none⟩) hl3).trans c0;clear ho hb7 hlr))
 all_goals (go_wp2_with fail)
 all_goals exact bodyPost_ret (v:=.tuple #[.pointer p, .string r, .bool b]) (by simp[results,Tryz.results63,go_sem, *]) rfl ⟨HLR.out.mono B3.out.size,B3.out.trans (HB7.out.mono B3.out.size)⟩
set_option maxRecDepth 20000 in
theorem read_opt_no (hS:S.toList.isEmpty=false) (h0:0<S.size) (hD:decide (D<1)=false) (hk0:0<KT.size) (ek:∀ h,(KT[0]'h).toNat=63) (b0:Nat) (e1:∀ h,(S[0]'h).toNat=b0) (m0:((b0:Int)==45)=false) (m1:((b0:Int) != 43)=true) (ho:o=none) :
  Calls Tryz.prog 63 #[.agg #[v], .string S, .string KT, .int .i64 D] w fun e w'=>LrOut o w e w'∧Below w.heap.size w w':=by
 have HO:=hid ho
 clear ho
 go_enter Tryz.func63,Tryz.ntmps63
 go_wp2_with fail
 all_goals exact bodyPost_ret (v:=.tuple #[.pointer none, .string S, .bool false]) (by simp[results,Tryz.results63,go_sem, *]) rfl ⟨LrOut.no HO.out ⟨_,_,rfl⟩,(Below.refl _ _).alloc (Nat.le_refl _) _⟩
set_option maxRecDepth 20000 in
set_option maxHeartbeats 2000000 in
theorem read_opt_none (R:ByteArray) (hS:S.toList.isEmpty=false) (h0:0<S.size) (h1:1≤S.size) (hR:S.extract 1 S.size=R) (hD:decide (D<1)=false) (hk0:0<KT.size) (ek:∀ h,(KT[0]'h).toNat=63) (hk:KT.data.toList.head? = some 63) (e1:∀ h,(S[0]'h).toNat=45) (ho:o=some (.mk 63 [] 0 [],R.data.toList)) :
  Calls Tryz.prog 63 #[.agg #[v], .string S, .string KT, .int .i64 D] w fun e w'=>LrOut o w e w'∧Below w.heap.size w w':=by
 have HO:=hid ho
 have HKH:=hid hk
 have kx:∀ wz,(Instr.slice 9 (.string S) (some (.int .i64 1)) none none).run Tryz.prog wz=.ok (.string R) wz:=fun wz=>by
  have h:=sl_suf S 1 h1 wz
  rw[hR] at h
  exact h
 clear ho hR hk
 go_enter Tryz.func63,Tryz.ntmps63
 go_wp2_with fail
 go_region
 all_goals (go_wp2_with fail)
 all_goals exact bodyPost_ret (v:=.tuple #[ptr (w.heap.size+1), .string R, .bool true]) (by simp[results,Tryz.results63,go_sem, *]) rfl (by
  have hR:∀ W3:World,W3.heap.size=w.heap.size+1→Below w.heap.size w W3→(LrOut o w (.returned (.tuple #[ptr (w.heap.size+1), .string R, .bool true])) (W3.alloc (.cells #[.string KT, .string ⟨#[]⟩, .slice none 0 0, .slice none 0 0] 142))∧Below w.heap.size w (W3.alloc (.cells #[.string KT, .string ⟨#[]⟩, .slice none 0 0, .slice none 0 0] 142))):=fun W3 h1 h2=>by
   refine⟨LrOut.yes HO.out ⟨w.heap.size+1,rfl, ?_⟩,h2.alloc h2.size _⟩
   rw[← h1]
   exact LV.new (kd:=KT.data.toList) (t:=[]) (by decide) ⟨HKH.out,rfl⟩ rfl h2.size (by simp) (by first|(simp[go_sem];done)|(simp[go_sem];rfl)) (by first|(simp[go_sem];done)|(simp[go_sem];rfl)) (by simp[go_sem]) (by simp[go_sem])
  have hb:=(Below.refl w.heap.size w).alloc (Nat.le_refl _) (.cells #[v] 109)
  first|exact hR _ (by simp) hb|exact hR _ (by simp) hb.drew)
set_option maxRecDepth 20000 in
set_option maxHeartbeats 2000000 in
theorem read_opt_some (k:Wf.K) (R K1:ByteArray) (hS:S.toList.isEmpty=false) (h0:0<S.size) (h1:1≤S.size) (hR:S.extract 1 S.size=R) (hD:decide (D<1)=false) (hk0:0<KT.size) (hk1:1≤KT.size) (hK1:KT.extract 1 KT.size=K1) (ek:∀ h,(KT[0]'h).toNat=63) (hk:KT.data.toList.head? = some 63) (e1:∀ h,(S[0]'h).toNat=43) (kd:IntKind.i64.wrap (D-1)=(n:Int)) (o1:Option (Wf.V × List UInt8)) (ho:o=o1.map fun y=>(.mk 63 [] 0 [y.1],y.2))
  (hp:∀ wz,Below w.heap.size w wz→Calls Tryz.prog 63 #[.agg #[v], .string R, .string K1, .int .i64 n] wz fun e w'=>LrOut o1 wz e w'∧Below wz.heap.size wz w') :
  Calls Tryz.prog 63 #[.agg #[v], .string S, .string KT, .int .i64 D] w fun e w'=>LrOut o w e w'∧Below w.heap.size w w':=by
 have HP:=hid hp
 have HKH:=hid hk
 have HO:=hid ho
 have kx:∀ wz,(Instr.slice 9 (.string S) (some (.int .i64 1)) none none).run Tryz.prog wz=.ok (.string R) wz:=fun wz=>by
  have h:=sl_suf S 1 h1 wz
  rw[hR] at h
  exact h
 have ky:∀ wz,(Instr.slice 9 (.string KT) (some (.int .i64 1)) none none).run Tryz.prog wz=.ok (.string K1) wz:=fun wz=>by
  have h:=sl_suf KT 1 hk1 wz
  rw[hK1] at h
  exact h
 clear hp hR hK1 hk ho
 have c0:(w.alloc (.cells #[v] 109)).cell? ⟨w.heap.size,0,none⟩=some v:=by simp[go_sem]
 have B3:=hid ((Below.refl w.heap.size w).alloc (Nat.le_refl _) (.cells #[v] 109))
 have hl3:w.heap.size<(w.alloc (.cells #[v] 109)).heap.size:=by simp
 go_enter Tryz.func63,Tryz.ntmps63
 go_wp2_with fail
 obtain⟨W3,hW3⟩:∃ W3,w.alloc (.cells #[v] 109)=W3:=⟨_,rfl⟩
 rw[hW3] at c0 B3 hl3
 rw[hW3]
 clear hW3
 go_region_held3 (fun w'=>w'.cell? ⟨w.heap.size,0,none⟩=some v) (first|exact j0|go_keep) ((go_at_call 63;refine(HP.out W3.drew B3.out.drew).mono ?_;rintro e w7 ⟨ho,hb7⟩;obtain⟨p,r,b,rfl,hlr⟩:=ho.form;have HLR:=hid hlr;have HB7:=hid (Below.drew (Below.refl W3.heap.size W3) |>.trans hb7);have j0:=(HB7.out.cell (p:=⟨w.heap.size,0,none⟩) hl3).trans c0;clear ho hb7 hlr))
 all_goals (go_wp2_with fail)
 all_goals exact bodyPost_ret (v:=.tuple #[ptr (w7.heap.size+1), .string r, .bool b]) (by simp[results,Tryz.results63,go_sem, *]) rfl (by
  have hle:=Nat.le_trans B3.out.size HB7.out.size
  have h7:=B3.out.trans (HB7.out.mono B3.out.size)
  refine⟨?_,(h7.alloc hle _).alloc (by simp;omega) _⟩
  have hl:=HLR.out
  cases ho1:o1 with
  | none =>
   rw[ho1] at hl
   obtain⟨p',r',he⟩:=hl
   obtain⟨_,_,e2⟩:=three he
   injection e2 with e2
   subst e2
   exact LrOut.no (by rw[HO.out,ho1];rfl) ⟨_,_,rfl⟩
  | some y =>
   rw[ho1] at hl
   obtain⟨b',he,hlv⟩:=hl
   obtain⟨e0,e1,e2⟩:=three he
   injection e0 with e0
   injection e1 with e1
   injection e2 with e2
   subst e0 e1 e2
   refine LrOut.yes (v:=.mk 63 [] 0 [y.1]) (r:=y.2) (by rw[HO.out,ho1];rfl) ⟨w7.heap.size+1,rfl,LV.opt1 (kb:=w7.heap.size) (u:=b') (KT:=KT) (by omega) hle (by first|(simp;done)|(simp;omega)) (by first|(simp;done)|(simp;omega)) HKH.out ?_ ?_ ?_ ?_ ?_ ?_ (LV.mono (LV.below (LV.below hlv ((Below.refl _ _).alloc (Nat.le_refl _) _)) ((Below.refl _ _).alloc (Nat.le_refl _) _)) fun z hz _=>by have:=B3.out.size;have:W3.drew.heap.size=W3.heap.size:=rfl;omega)⟩
   all_goals (simp[go_sem];done))
end

theorem ref_at {x:Wf.Sc} {v:Value} {W:World} (hx:Wf.ScOk x) (lo bsc:Nat) (hsp:ScSp W lo bsc v x) {nm:List UInt8} {t:Wf.Ty} (hf:x.find nm=some t) (hnm:(Wf.K.ref nm).text.length≤1000000) (q:Nat) (hq:t.sort.toNat=q) (wz:World) (hz:Below W.heap.size W wz):Calls Tryz.prog 87 #[v,tx (Wf.K.ref nm).text] wz fun e w'=>(∃ fb fa fc,e=.returned (.tuple #[.agg #[.int .u8 q, .string ⟨t.name.toArray⟩, .slice fa t.fields.length fc], .bool true])∧RowK W fb (.slice fa t.fields.length fc) 4 (t.fields.map (fdS t.sort)))∧Below wz.heap.size wz w':=by
 rw[← hq]
 exact ref_found x v W t nm hx lo bsc hsp hf hnm wz hz
theorem l4read (x:Wf.Sc) (hx:Wf.ScOk x) (v:Value) (lo bsc:Nat) (W:World) (hsp:ScSp W lo bsc v x):∀ (n:Nat),n≤1000→∀ (k:Wf.K),KOk x k→LR x v W n k:=by
 intro n
 induction n with
 | zero =>
  intro _ k hk S w hS hW
  refine read_no v S ⟨k.text.toArray⟩ (0:Nat) w _ ?_ (Wf.parse_zero x k _)
  by_cases h:S.toList.isEmpty=true
  ·exact .inl h
  ·exact .inr ⟨by simpa using h,by decide⟩
 | succ n ih =>
  intro hn k hk S w hS hW
  have hD:decide (((n+1:Nat):Int)<1)=false:=decide_eq_false (by omega)
  have hDe:((n+1:Nat):Int)=(n:Int)+1:=by omega
  have kd:IntKind.i64.wrap (((n+1:Nat):Int)-1)=(n:Int):=by rw[hDe,Int.add_sub_cancel];exact IntWalk.i64_in _ (by omega)
  cases hl:S.data.toList with
  | nil =>
   refine read_no v S ⟨k.text.toArray⟩ _ w _ (.inl ?_) (Wf.parse_nil x (n+1) k)
   rw[ByteArray.toList_eq,hl];rfl
  | cons c q =>
   obtain⟨e1,e2,e3,e4,e5,e6⟩:=str_ne hl
   have hRs:(S.extract 1 S.size).size≤1048576:=by rw[ByteArray.size_extract];omega
   rw[← hl]
   cases k with
   | num=>exact read_plain v S ⟨(Wf.K.text .num).toArray⟩ _ w _ e1 hD 110 (by decide) (fun _=>rfl) (.inl rfl) (fun wz=>plain_num x n v S hS wz)
   | txt=>exact read_plain v S ⟨(Wf.K.text .txt).toArray⟩ _ w _ e1 hD 116 (by decide) (fun _=>rfl) (.inr (.inl rfl)) (fun wz=>plain_txt x n v S hS wz)
   | flag=>exact read_plain v S ⟨(Wf.K.text .flag).toArray⟩ _ w _ e1 hD 102 (by decide) (fun _=>rfl) (.inr (.inr rfl)) (fun wz=>plain_flag x n v S hS wz)
   | list k =>
    obtain⟨hk0,ek⟩:=kd_first (kd:=(Wf.K.list k).text) (c:=91) rfl
    by_cases hc:c=91
    ·subst hc
     rw[hl]
     have h:=fun wz (hz:Below w.heap.size w wz)=>l4list x v W n k (S.extract 1 S.size) ((n+1:Nat):Int) wz hRs hDe (by omega) (ih (by omega) k hk.list) (hW.trans (hz.mono hW.size))
     rw[e6] at h
     exact read_list v S _ _ w _ _ e1 e3 e4 rfl hD hk0 ek e5 h
    ·refine read_list_no v S _ _ w _ e1 e3 hD hk0 ek c.toNat e5 ?_ (Wf.parse_list_no x n k (by rw[hl];simpa using hc))
     rw[bne_iff_ne]
     intro h
     exact hc (UInt8.toNat_inj.1 (by show c.toNat=91;omega))
   | opt k =>
    obtain⟨hk0,ek⟩:=kd_first (kd:=(Wf.K.opt k).text) (c:=63) rfl
    have hK1:(⟨(Wf.K.opt k).text.toArray⟩:ByteArray).extract 1 (⟨(Wf.K.opt k).text.toArray⟩:ByteArray).size=⟨k.text.toArray⟩:=by rw[eq_list,suf_list];rfl
    by_cases h45:c=45
    ·subst h45
     exact read_opt_none v S _ _ w _ _ e1 e3 e4 rfl hD hk0 ek rfl e5 (by rw[e6,hl];exact Wf.parse_opt_none x n k q)
    ·by_cases h43:c=43
     ·subst h43
      refine read_opt_some v n S _ _ w _ k _ _ e1 e3 e4 rfl hD hk0 (by simp[ByteArray.size,Wf.K.text]) hK1 ek rfl e5 kd (Wf.parse x n k (S.extract 1 S.size).data.toList) (by rw[hl,e6];exact Wf.parse_opt_some x n k q) (fun wz hz=>ih (by omega) k hk.opt _ wz hRs (hW.trans (hz.mono hW.size)))
     ·refine read_opt_no v S _ _ w _ e1 e3 hD hk0 ek c.toNat e5 ?_ ?_ (Wf.parse_opt_no x n k (by rw[hl];simpa using h45) (by rw[hl];simpa using h43))
      ·rw[beq_eq_false_iff_ne]
       intro h
       exact h45 (UInt8.toNat_inj.1 (by show c.toNat=45;omega))
      ·rw[bne_iff_ne]
       intro h
       exact h43 (UInt8.toNat_inj.1 (by show c.toNat=43;omega))
   | ref nm =>
    obtain⟨hk0,ek⟩:=kd_first (kd:=(Wf.K.ref nm).text) (c:=64) rfl
    obtain⟨t,hf⟩:=Wf.hasRef_ref hk.ref
    have htx:=(Wf.find_mem hf).1
    have hto:=hx.tys t htx
    have hnm:(Wf.K.ref nm).text.length≤1000000:=by have:=hk.len;omega
    have htl:t.fields.length≤1000:=by have:=hto.len;omega
    have hR:=fun(h69:t.sort≠69) f hfm=>ih (by omega) f.kind (KOk.fld hx htx h69 (f:=f) hfm)
    refine read_ref v S _ _ w _ e1 hD hk0 ek fun wz hz => ?_
    have hWz:=hW.trans (hz.mono hW.size)
    rcases hto.sort with hs|hs|hs
    ·have hr:=fun wy (hy:Below wz.heap.size wz wy)=>ref_at hx lo bsc hsp hf hnm 82 (by rw[hs];rfl) wy (hWz.trans (hy.mono hWz.size))
     by_cases hc:c=123
     ·subst hc
      rw[hl]
      have h:=fun fb fa fc wy (hrow:RowK W fb (.slice fa t.fields.length fc) 4 (t.fields.map (fdS t.sort))) (hy:Below wz.heap.size wz wy)=>l4record x v W n t nm (S.extract 1 S.size) ((n+1:Nat):Int) wy hx lo bsc hsp htx hf fb fc fa hrow hs hRs hDe (by omega) (hR (by rw[hs];decide)) (hWz.trans (hy.mono hWz.size))
      rw[e6] at h
      exact nm_rec v W t S _ wz _ _ _ _ e4 e5 rfl _ hr h
     ·refine nm_no v S _ wz 82 c.toNat _ _ t.fields.length e3 e5 (.inl ⟨rfl, ?_⟩) (fun wy hy=>(hr wy hy).mono fun e w' ⟨⟨fb,fa,fc,h1,_⟩,h2⟩=>⟨⟨fa,fc,h1⟩,h2⟩) _ (Wf.parse_rec_no x n hf hs (by rw[hl];simpa using hc))
      rw[beq_eq_false_iff_ne]
      intro h
      exact hc (UInt8.toNat_inj.1 (by show c.toNat=123;omega))
    ·have hr:=fun wy (hy:Below wz.heap.size wz wy)=>ref_at hx lo bsc hsp hf hnm 85 (by rw[hs];rfl) wy (hWz.trans (hy.mono hWz.size))
     by_cases hc:c=60
     ·subst hc
      rw[hl]
      have h:=nm_uni x v W n t nm S ((n+1:Nat):Int) wz ⟨(Wf.K.ref nm).text.toArray⟩ ⟨t.name.toArray⟩ (S.extract 1 S.size) t.fields.length hx htx hf e4 hRs rfl e5 rfl hs hDe (by omega) hWz (hR (by rw[hs];decide)) hr (fun fb fa fc wy hrow hy=>by
       have h:=l4tag t htl v (S.extract 1 S.size) hRs fb fc fa W wy (hWz.trans (hy.mono hWz.size)) hrow
       rw[hs] at h
       exact h)
      rw[e6] at h
      exact h
     ·refine nm_no v S _ wz 85 c.toNat _ _ t.fields.length e3 e5 (.inr (.inr ⟨rfl, ?_⟩)) (fun wy hy=>(hr wy hy).mono fun e w' ⟨⟨fb,fa,fc,h1,_⟩,h2⟩=>⟨⟨fa,fc,h1⟩,h2⟩) _ (Wf.parse_uni_no x n hf hs (by rw[hl];simpa using hc))
      rw[beq_eq_false_iff_ne]
      intro h
      exact hc (UInt8.toNat_inj.1 (by show c.toNat=60;omega))
    ·have hr:=fun wy (hy:Below wz.heap.size wz wy)=>ref_at hx lo bsc hsp hf hnm 69 (by rw[hs];rfl) wy (hWz.trans (hy.mono hWz.size))
     by_cases hc:c=35
     ·subst hc
      rw[hl,parse_enm_tagF x n hf hs q]
      have h:=nm_enm v W t S ((n+1:Nat):Int) wz ⟨(Wf.K.ref nm).text.toArray⟩ ⟨t.name.toArray⟩ (S.extract 1 S.size) t.fields.length e4 rfl e5 rfl hs hr (fun fb fa fc wy hrow hy=>by
       have h:=l4tag t htl v (S.extract 1 S.size) hRs fb fc fa W wy (hWz.trans (hy.mono hWz.size)) hrow
       rw[hs] at h
       exact h)
      rw[e6] at h
      exact h
     ·refine nm_no v S _ wz 69 c.toNat _ _ t.fields.length e3 e5 (.inr (.inl ⟨rfl, ?_⟩)) (fun wy hy=>(hr wy hy).mono fun e w' ⟨⟨fb,fa,fc,h1,_⟩,h2⟩=>⟨⟨fa,fc,h1⟩,h2⟩) _ (Wf.parse_enm_no x n hf hs (by rw[hl];simpa using hc))
      rw[beq_eq_false_iff_ne]
      intro h
      exact hc (UInt8.toNat_inj.1 (by show c.toNat=35;omega))
def LoOut (l kt s:List UInt8) (lo:Nat) (e:Ending) (w':World):Prop:=match valOf l kt s with
 | some y=>∃ b a c p,e=.returned (.tuple #[.slice a y.1.1.length c,ptr p, .bool true])∧ScSp w' lo b (.slice a y.1.1.length c) y.1.1∧LV w' (fun z=>lo≤z) y.2 p
 | none=>∃ a n c p,e=.returned (.tuple #[.slice a n c, .pointer p, .bool false])
theorem LoOut.no {l kt s:List UInt8} {lo:Nat} {e:Ending} {w':World} (h:valOf l kt s=none) (he:∃ a n c p,e=.returned (.tuple #[.slice a n c, .pointer p, .bool false])):LoOut l kt s lo e w':=by
 unfold LoOut;rw[h];exact he
theorem LoOut.yes {l kt s:List UInt8} {lo:Nat} {e:Ending} {w':World} {y:(Wf.Sc × Wf.K) × Wf.V} (h:valOf l kt s=some y) (he:∃ b a c p,e=.returned (.tuple #[.slice a y.1.1.length c,ptr p, .bool true])∧ScSp w' lo b (.slice a y.1.1.length c) y.1.1∧LV w' (fun z=>lo≤z) y.2 p):LoOut l kt s lo e w':=by
 unfold LoOut;rw[h];exact he
set_option maxRecDepth 20000 in
set_option maxHeartbeats 2000000 in
theorem l4Of (s kt v:ByteArray) (w:World) (hs:s.size≤1048576) (hv:v.size≤1048576):Calls Tryz.prog 54 #[.string s, .string kt, .string v] w fun e w'=>LoOut s.data.toList kt.data.toList v.data.toList w.heap.size e w'∧Below w.heap.size w w':=by
 have HLK:=hid (l3Kind s kt w hs)
 cases hty:kindOf s.data.toList kt.data.toList with
 | none =>
  have HO:=hid fun lo e wz (h:LkOut s.data.toList kt.data.toList lo e wz)=>(by unfold LkOut at h;rw[hty] at h;exact h:∃ a n c,e=.returned (.tuple #[.slice a n c, .bool false]))
  have HF:=hid (show valOf s.data.toList kt.data.toList v.data.toList=none by unfold valOf;rw[hty])
  clear hty
  go_enter Tryz.func54,Tryz.ntmps54
  go_wp2_with (go_at_call 35;refine HLK.out.mono ?_;rintro e w2 ⟨ho,hb2⟩;obtain⟨a,n,c,rfl⟩:=HO.out _ _ _ ho;have HB2:=hid hb2;clear ho hb2)
  all_goals exact bodyPost_ret (v:=.tuple #[.slice none 0 0, .pointer none, .bool false]) (by simp[results,Tryz.results54,go_sem, *]) rfl ⟨LoOut.no HF.out ⟨_,_,_,_,rfl⟩,HB2.out⟩
 | some y =>
  obtain⟨x,k⟩:=y
  obtain⟨hsc,hpk,hhas,hkt,hkl⟩:=kindOf_text hty
  have hx:=Wf.schemaOf_ok hsc
  have hk:KOk x k:=⟨by rw[hkt];exact hkl,hhas⟩
  have HO:=hid fun lo e wz (h:LkOut s.data.toList kt.data.toList lo e wz)=>(by unfold LkOut at h;rw[hty] at h;exact h:∃ b a c,e=.returned (.tuple #[.slice a x.length c, .bool true])∧ScSp wz lo b (.slice a x.length c) x)
  obtain⟨xn,hxn⟩:∃ xn,x.length=xn:=⟨_,rfl⟩
  rw[hxn] at HO
  have hkk:tx k.text=.string kt:=by rw[tx,show k.text=kt.data.toList from hkt]
  by_cases h400:v.size≤400
  ·have HRD:=hid fun(wz:World) (vv:Value) (lo b:Nat) (hsp:ScSp wz lo b vv x)=>(by
    have h:=l4read x hx vv lo b wz hsp 12 (by omega) k hk v wz hv (Below.refl _ _)
    rw[hkk] at h
    exact h:Calls Tryz.prog 63 #[.agg #[vv], .string v, .string kt, .int .i64 12] wz fun e w'=>LrOut (Wf.parse x 12 k v.data.toList) wz e w'∧Below wz.heap.size wz w')
   have HV:=hid (show valOf s.data.toList kt.data.toList v.data.toList=match (match Wf.parse x 12 k v.data.toList with|some (u,[])=>some u|_=>none) with|some u=>some ((x,k),u)|none=>none by
    unfold valOf
    rw[hty]
    dsimp only
    rw[Wf.valIn,if_pos (by rw[size_list];exact h400)]
    rfl)
   have hd:decide ((400:Int)<(v.size:Int))=false:=decide_eq_false (by omega)
   clear hty hsc hpk hhas hkt hkl hkk
   cases hp:Wf.parse x 12 k v.data.toList with
   | none =>
    have HF:=hid (show valOf s.data.toList kt.data.toList v.data.toList=none by rw[HV.out,hp])
    have HO2:=hid fun(e:Ending) (w w':World) (h:LrOut (Wf.parse x 12 k v.data.toList) w e w')=>(by rw[hp] at h;exact h:∃ (p:Option Addr) (r:ByteArray),e=.returned (.tuple #[.pointer p, .string r, .bool false]))
    clear hp
    go_enter Tryz.func54,Tryz.ntmps54
    go_wp2_with (first|(go_at_call 63;refine(HRD.out _ _ _ _ HSP.out).mono ?_;rintro e w3 ⟨ho,hb3⟩;obtain⟨p,r,rfl⟩:=HO2.out _ _ _ ho;have HB3:=hid (below_join HB2.out hb3);clear ho hb3)|(go_at_call 35;refine HLK.out.mono ?_;rintro e w2 ⟨ho,hb2⟩;obtain⟨b,a,c,rfl,hsp⟩:=HO.out _ _ _ ho;have HSP:=hid hsp;have HB2:=hid hb2;clear ho hb2 hsp))
    all_goals exact bodyPost_ret (v:=.tuple #[.slice a xn c, .pointer p, .bool false]) (by simp[results,Tryz.results54,go_sem, *]) rfl ⟨LoOut.no HF.out ⟨_,_,_,_,rfl⟩,HB3.out⟩
   | some y =>
    obtain⟨u,rr⟩:=y
    obtain⟨RR,hRR⟩:∃ RR:ByteArray,(⟨rr.toArray⟩:ByteArray)=RR:=⟨_,rfl⟩
    have HO2:=hid fun(e:Ending) (w w':World) (h:LrOut (Wf.parse x 12 k v.data.toList) w e w')=>(by unfold LrOut at h;rw[hp] at h;dsimp only at h;rw[tx,hRR] at h;exact h:∃ b,e=.returned (.tuple #[ptr b, .string RR, .bool true])∧LV w' (fun z=>w.heap.size≤z) u b)
    cases rr with
    | nil =>
     have HF:=hid (show valOf s.data.toList kt.data.toList v.data.toList=some ((x,k),u) by rw[HV.out,hp])
     have hre:RR.toList.isEmpty=true:=by rw[← hRR,ByteArray.toList_eq];rfl
     have hre2:RR.toList=[]:=List.isEmpty_iff.1 hre
     have HXN:=hid hxn
     clear hp hRR hxn
     go_enter Tryz.func54,Tryz.ntmps54
     go_wp2_with (first|(go_at_call 63;refine(HRD.out _ _ _ _ HSP.out).mono ?_;rintro e w3 ⟨ho,hb3⟩;obtain⟨pb,rfl,hlv⟩:=HO2.out _ _ _ ho;have HLV:=hid hlv;have HB3:=hid (below_join HB2.out hb3);have HSP3:=hid (HSP.out.below hb3);clear ho hb3 hlv)|(go_at_call 35;refine HLK.out.mono ?_;rintro e w2 ⟨ho,hb2⟩;obtain⟨b,a,c,rfl,hsp⟩:=HO.out _ _ _ ho;have HSP:=hid hsp;have HB2:=hid hb2;clear ho hb2 hsp))
     all_goals exact bodyPost_ret (v:=.tuple #[.slice a xn c,ptr pb, .bool true]) (by simp[results,Tryz.results54,go_sem, *]) rfl ⟨LoOut.yes HF.out ⟨b,a,c,pb,by rw[HXN.out],by rw[HXN.out];exact HSP3.out,LV.mono HLV.out fun z hz _=>Nat.le_trans HB2.out.size hz⟩,HB3.out⟩
    | cons c0 q0 =>
     have HF:=hid (show valOf s.data.toList kt.data.toList v.data.toList=none by rw[HV.out,hp])
     have hre:RR.toList.isEmpty=false:=by rw[← hRR,ByteArray.toList_eq];rfl
     have hre2:RR.toList≠[]:=by rw[← hRR,ByteArray.toList_eq];exact List.cons_ne_nil _ _
     clear hp hRR
     go_enter Tryz.func54,Tryz.ntmps54
     go_wp2_with (first|(go_at_call 63;refine(HRD.out _ _ _ _ HSP.out).mono ?_;rintro e w3 ⟨ho,hb3⟩;obtain⟨pb,rfl,hlv⟩:=HO2.out _ _ _ ho;have HB3:=hid (below_join HB2.out hb3);clear ho hb3 hlv)|(go_at_call 35;refine HLK.out.mono ?_;rintro e w2 ⟨ho,hb2⟩;obtain⟨b,a,c,rfl,hsp⟩:=HO.out _ _ _ ho;have HSP:=hid hsp;have HB2:=hid hb2;clear ho hb2 hsp))
     all_goals exact bodyPost_ret (v:=.tuple #[.slice a xn c,ptr pb, .bool false]) (by simp[results,Tryz.results54,go_sem, *]) rfl ⟨LoOut.no HF.out ⟨_,_,_,_,rfl⟩,HB3.out⟩
  ·have HF:=hid (show valOf s.data.toList kt.data.toList v.data.toList=none by
    unfold valOf
    rw[hty]
    dsimp only
    rw[Wf.valIn_long (by rw[size_list];exact h400)])
   have hd:decide ((400:Int)<(v.size:Int))=true:=decide_eq_true (by omega)
   clear hty hsc hpk hhas hkt hkl hkk
   go_enter Tryz.func54,Tryz.ntmps54
   go_wp2_with (go_at_call 35;refine HLK.out.mono ?_;rintro e w2 ⟨ho,hb2⟩;obtain⟨b,a,c,rfl,hsp⟩:=HO.out _ _ _ ho;have HB2:=hid hb2;clear ho hb2 hsp)
   all_goals exact bodyPost_ret (v:=.tuple #[.slice none 0 0, .pointer none, .bool false]) (by simp[results,Tryz.results54,go_sem, *]) rfl ⟨LoOut.no HF.out ⟨_,_,_,_,rfl⟩,HB2.out⟩
theorem LoOut.form {l kt s:List UInt8} {lo:Nat} {e:Ending} {w':World} (h:LoOut l kt s lo e w'):∃ (a:Option Addr) (n c:Nat) (p:Option Addr),e=.returned (.tuple #[.slice a n c, .pointer p, .bool (vOkB l kt s)]):=by
 unfold LoOut at h
 unfold vOkB
 cases hv:valOf l kt s with
 | none =>
  rw[hv] at h
  exact h
 | some y =>
  rw[hv] at h
  obtain⟨b,a,c,p,rfl,_⟩:=h
  exact⟨_,_,_,_,rfl⟩

theorem zeroF_new (w:World):ZeroF (w.alloc (.cells #[.int .i64 0, .string ⟨#[]⟩, .string ⟨#[]⟩, .string ⟨#[]⟩] 86)) w.heap.size:=by
 refine⟨?_, ?_, ?_, ?_, ?_, ?_, ?_, ?_, ?_⟩
 all_goals (simp[go_sem];done)
def LrecOut (x:Wf.Sc) (k:Wf.K) (g:Int) (e:Ending):Prop:=match Wf.recFd x k g with
 | some f=>e=.returned (.tuple #[.agg #[.int .i64 f.tag,tx f.name,tx f.kind.text,tx f.given], .bool true])
 | none=>∃ (m:Int) (a b c:ByteArray),e=.returned (.tuple #[.agg #[.int .i64 m, .string a, .string b, .string c], .bool false])
set_option maxRecDepth 20000 in
set_option maxHeartbeats 2000000 in
theorem l4rec_w (v:Value) (KT:ByteArray) (g:Int) (q n:Nat) (N:ByteArray) (RR:Option Addr→Nat→Prop) (b1 b2:Bool) (m:Int) (A B C:ByteArray) (w:World)
  (href:∀ wz,Below w.heap.size w wz→Calls Tryz.prog 87 #[v, .string KT] wz fun e w'=>(∃ fa c,e=.returned (.tuple #[.agg #[.int .u8 q, .string N, .slice fa n c], .bool b1])∧RR fa c)∧Below wz.heap.size wz w')
  (hfld:∀ fa c,RR fa c→∀ wz,Below w.heap.size w wz→Calls Tryz.prog 50 #[.agg #[.int .u8 q, .string N, .slice fa n c], .int .i64 g] wz fun e w'=>e=.returned (.tuple #[.agg #[.int .i64 m, .string A, .string B, .string C], .bool b2])∧Below wz.heap.size wz w') (hq:((q:Int)==82)=true∨((q:Int)==82)=false) :
  Calls Tryz.prog 57 #[v, .string KT, .int .i64 g] w fun e w'=>e=.returned (.tuple #[.agg #[.int .i64 m, .string A, .string B, .string C], .bool (b1&&(b2&&((q:Int)==82)))])∧Below w.heap.size w w':=by
 have HREF:=hid href
 have HFLD:=hid hfld
 clear href hfld
 cases b1 <;> cases b2 <;> rcases hq with hq|hq
 all_goals
  go_enter Tryz.func57,Tryz.ntmps57
  go_wp2_with (first|(go_at_call 50;refine(HFLD.out _ _ HRR.out _ (B2.out.alloc B2.out.size _)).mono ?_;rintro e w3 ⟨rfl,hb3⟩;have B3:=hid (below_join (B2.out.alloc B2.out.size _) hb3);have t0:w3.cell? ⟨w2.heap.size,0,none⟩=some (.int .u8 q):=(hb3.cell (p:=⟨w2.heap.size,0,none⟩) (by simp)).trans (by simp[go_sem]);have hlw2:w2.heap.size<w3.heap.size:=Nat.lt_of_lt_of_le (by simp) hb3.size;obtain⟨zl,zr0,zr1,zr2,zr3,zf0,zf1,zf2,zf3⟩:=(Z2.out.below ((Below.refl w2.heap.size w2).alloc (Nat.le_refl _) _) Z2.out.lt).below hb3 (by have:=Z2.out.lt;simp;omega);clear hb3)|(go_at_call 87;refine(HREF.out _ (by first|exact(Below.refl _ _).alloc (Nat.le_refl _) _)).mono ?_;rintro e w2 ⟨⟨fa,c,rfl,hrr⟩,hb2⟩;have HRR:=hid hrr;clear hrr;have B2:=hid (below_join ((Below.refl w.heap.size w).alloc (Nat.le_refl _) _) hb2);have Z2:=hid ((zeroF_new w).below hb2 (by simp));have hne1:¬ (w2.heap.size=w.heap.size):=(by have:=Z2.out.lt;omega);have hne2:¬ (w.heap.size=w2.heap.size):=(by have:=Z2.out.lt;omega);clear hb2))
  go_region
  all_goals (go_wp2_with fail)
  all_goals exact bodyPost_ret (v:=.tuple #[.agg #[.int .i64 m, .string A, .string B, .string C], .bool _]) (by simp[results,Tryz.results57,go_sem, *]) rfl ⟨rfl,by have BB:=B3.out;have hB:=BB.size;repeat (first|with_reducible exact BB|with_reducible refine Below.drew ?_|with_reducible refine Below.setCell ?_ (by first|(simp;done)|(simp;omega)) _|with_reducible refine Below.alloc ?_ (by first|exact BB.size|(simp;omega)) _)⟩
theorem l4Record (x:Wf.Sc) (hx:Wf.ScOk x) (lo b:Nat) (v:Value) (k:Wf.K) (hk:KOk x k) (g:Int) (W w:World) (hW:Below W.heap.size W w) (hsp:ScSp W lo b v x):Calls Tryz.prog 57 #[v,tx k.text, .int .i64 g] w fun e w'=>LrecOut x k g e∧Below w.heap.size w w':=by
 have hr:=fun wz (hz:Below w.heap.size w wz)=>l3ref x lo b v k (by have:=hk.len;omega) W wz (hW.trans (hz.mono hW.size)) (by have:=hx.len;omega) hsp
 have hf:=fun(t:Wf.Ty) (ht:t.fields.length≤1000) fb fa fc (h:RowK W fb (.slice fa t.fields.length fc) 4 (t.fields.map (fdS t.sort))) wz (hz:Below w.heap.size w wz)=>l3field t ht g t.sort.toNat ⟨t.name.toArray⟩ fb fa fc W wz (hW.trans (hz.mono hW.size)) h
 cases hrt:refT x k with
 | none =>
  have hno:Wf.recFd x k g=none:=by
   unfold Wf.recFd
   cases k with
   | ref nm =>
    have h:x.find nm=none:=hrt
    simp only[Wf.recTy,h,Option.bind_none]
   | _=>rfl
  have h0:=hf ⟨0,[],[]⟩ (by decide) 0 none 0 (rowK_nil W 0 4 none 0 (by unfold maxLen;omega))
  refine(l4rec_w v ⟨k.text.toArray⟩ g 0 0 ⟨#[]⟩ (fun fa c=>fa=none∧c=0) false false 0 ⟨#[]⟩ ⟨#[]⟩ ⟨#[]⟩ w (fun wz hz=>(hr wz hz).mono fun e w' ⟨h1,h2⟩=>⟨⟨none,0,by rw[hrt] at h1;exact h1,rfl,rfl⟩,h2⟩) (fun fa c ⟨h3,h4⟩ wz hz=>by subst h3 h4;exact(h0 wz hz).mono fun e w' ⟨h1,h2⟩=>⟨h1,h2⟩) (.inr rfl)).mono fun e w' ⟨h1,h2⟩=>⟨?_,h2⟩
  unfold LrecOut
  rw[hno]
  exact⟨_,_,_,_,h1⟩
 | some t =>
  obtain⟨nm,rfl⟩:∃ nm,k=.ref nm:=by
   cases k with
   | ref nm=>exact⟨nm,rfl⟩
   | _=>cases hrt
  have hft:x.find nm=some t:=hrt
  have hto:=hx.tys t (Wf.find_mem hft).1
  have htl:t.fields.length≤1000:=by have:=hto.len;omega
  have hrd:Wf.recFd x (.ref nm) g=if t.sort=82 then fieldI t g else none:=by
   unfold Wf.recFd
   simp only[Wf.recTy,hft,Option.bind_some]
   split <;> rfl
  have hq:((t.sort.toNat:Int)==82)=decide (t.sort=82):=by
   rcases hto.sort with h|h|h <;> rw[h] <;> rfl
  have hq2:((t.sort.toNat:Int)==82)=true∨((t.sort.toNat:Int)==82)=false:=by cases ((t.sort.toNat:Int)==82) <;> simp
  have hrr:=fun wz hz=>(hr wz hz).mono (R':=fun e w'=>(∃ fa c,e=.returned (.tuple #[.agg #[.int .u8 t.sort.toNat, .string ⟨t.name.toArray⟩, .slice fa t.fields.length c], .bool true])∧∃ fb,RowK W fb (.slice fa t.fields.length c) 4 (t.fields.map (fdS t.sort)))∧Below wz.heap.size wz w') fun e w' ⟨h1,h2⟩=>⟨by
   rw[hrt] at h1
   obtain⟨fb,a,c,h3,_,h5⟩:=h1
   exact⟨a,c,h3,fb,h5⟩,h2⟩
  cases hfi:fieldI t g with
  | none =>
   refine(l4rec_w v ⟨(Wf.K.ref nm).text.toArray⟩ g t.sort.toNat t.fields.length ⟨t.name.toArray⟩ (fun fa c=>∃ fb,RowK W fb (.slice fa t.fields.length c) 4 (t.fields.map (fdS t.sort))) true false 0 ⟨#[]⟩ ⟨#[]⟩ ⟨#[]⟩ w hrr (fun fa c ⟨fb,h⟩ wz hz=>(hf t htl fb fa c h wz hz).mono fun e w' ⟨h1,h2⟩=>⟨by rw[h1,hfi];rfl,h2⟩) hq2).mono fun e w' ⟨h1,h2⟩=>⟨?_,h2⟩
   unfold LrecOut
   rw[hrd,hfi,ite_self]
   exact⟨_,_,_,_,h1⟩
  | some f =>
   refine(l4rec_w v ⟨(Wf.K.ref nm).text.toArray⟩ g t.sort.toNat t.fields.length ⟨t.name.toArray⟩ (fun fa c=>∃ fb,RowK W fb (.slice fa t.fields.length c) 4 (t.fields.map (fdS t.sort))) true true f.tag ⟨f.name.toArray⟩ ⟨(if t.sort=69 then [] else f.kind.text).toArray⟩ ⟨f.given.toArray⟩ w hrr (fun fa c ⟨fb,h⟩ wz hz=>(hf t htl fb fa c h wz hz).mono fun e w' ⟨h1,h2⟩=>⟨by rw[h1,hfi];rfl,h2⟩) hq2).mono fun e w' ⟨h1,h2⟩=>⟨?_,h2⟩
   unfold LrecOut
   rw[hrd,hfi]
   rw[hq] at h1
   by_cases h82:t.sort=82
   ·rw[if_pos h82]
    rw[decide_eq_true h82,if_neg (by rw[h82];decide)] at h1
    exact h1
   ·rw[if_neg h82]
    rw[decide_eq_false h82] at h1
    exact⟨_,_,_,_,h1⟩
def vfV:Option (List UInt8)→Value
 | some b=>.tuple #[tx b, .bool true]
 | none=>.tuple #[tx [], .bool false]

theorem kind_start (w:World) (SG BS NM:ByteArray):(w.alloc (.cells #[.string SG, .string BS, .string NM] 57)).cell? ⟨w.heap.size,0,none⟩=some (.string SG)∧(w.alloc (.cells #[.string SG, .string BS, .string NM] 57)).cell? ⟨w.heap.size,1,none⟩=some (.string BS)∧(w.alloc (.cells #[.string SG, .string BS, .string NM] 57)).cell? ⟨w.heap.size,2,none⟩=some (.string NM):=by
 refine⟨?_, ?_, ?_⟩ <;> simp[go_sem]
set_option maxRecDepth 20000 in
theorem record_no (sb:Nat) (SG BS NM:ByteArray) (w:World) (h:SG.toList.isEmpty=false∨(SG.toList.isEmpty=true∧(BS.toList==[64])=false)):Calls Tryz.prog 89 #[ptr sb, .agg #[.string SG, .string BS, .string NM]] w fun e w'=>e=.returned (.tuple #[.pointer none, .bool false])∧Below w.heap.size w w':=by
 rcases h with h|⟨h,h2⟩
 all_goals
  go_enter Tryz.func89,Tryz.ntmps89
  go_wp2_with fail
  all_goals exact bodyPost_ret (v:=.tuple #[.pointer none, .bool false]) (by simp[results,Tryz.results89,go_sem, *]) rfl ⟨rfl,(Below.refl _ _).alloc (Nat.le_refl _) _⟩
set_option maxRecDepth 20000 in
set_option maxHeartbeats 1000000 in
theorem record_yes (B:Bool) (sb mb tb q:Nat) (SG BS NM:ByteArray) (W w:World) (hW:Below W.heap.size W w) (hsb:sb<W.heap.size) (htb:tb<W.heap.size) (c1:W.cell? ⟨sb,1,none⟩=some (.map (some mb))) (t0:W.cell? ⟨tb,0,none⟩=some (.int .u8 q))
  (look:∀ wz,Below W.heap.size W wz→(Instr.lookup 129 (.map (some mb)) (.string NM) false).run Tryz.prog wz=.ok (ptr tb) wz) (hSG:SG.toList.isEmpty=true) (hSG2:SG.toList=[]) (hBS:BS.toList=[64]) (hq:((q:Int)==82)=B) :
  Calls Tryz.prog 89 #[ptr sb, .agg #[.string SG, .string BS, .string NM]] w fun e w'=>e=.returned (.tuple #[ptr tb, .bool B])∧Below w.heap.size w w':=by
 have HLK:=hid look
 obtain⟨k0,k1,k2⟩:=kind_start w SG BS NM
 have hBS2:(BS.toList==[64])=true:=by rw[hBS];rfl
 have B3:=hid (hW.alloc hW.size (.cells #[.string SG, .string BS, .string NM] 57))
 have BW3:=hid ((Below.refl w.heap.size w).alloc (Nat.le_refl _) (.cells #[.string SG, .string BS, .string NM] 57))
 have l0:=HLK.out _ B3.out
 have l1:=HLK.out _ B3.out.drew
 have m1:=(B3.out.cell (p:=⟨sb,1,none⟩) hsb).trans c1
 have u0:=(B3.out.cell (p:=⟨tb,0,none⟩) htb).trans t0
 have hsw:sb<w.heap.size:=Nat.lt_of_lt_of_le hsb hW.size
 have htw:tb<w.heap.size:=Nat.lt_of_lt_of_le htb hW.size
 clear look c1 t0 hBS
 cases B
 all_goals
  go_enter Tryz.func89,Tryz.ntmps89
  go_wp2_with fail
  obtain⟨W3,hW3⟩:∃ W3,w.alloc (.cells #[.string SG, .string BS, .string NM] 57)=W3:=⟨_,rfl⟩
  rw[hW3] at k0 k1 k2 B3 BW3 l0 l1 m1 u0
  rw[hW3]
  have hs3:w.heap.size<W3.heap.size:=by rw[← hW3];simp
  have hsb3:sb<W3.heap.size:=by omega
  have htb3:tb<W3.heap.size:=by omega
  clear hW3
  go_region_held3 (fun w'=>w'.cell? ⟨sb,1,none⟩=some (.map (some mb))∧w'.cell? ⟨w.heap.size,2,none⟩=some (.string NM)∧(Instr.lookup 129 (.map (some mb)) (.string NM) false).run Tryz.prog w'=.ok (ptr tb) w') (first|exact⟨m1,k2,l1⟩|go_keep) (fail)
  all_goals (go_wp2_with fail)
  all_goals (try go_quiet (fail))
  all_goals (go_wp2_with fail)
  all_goals exact bodyPost_ret (v:=.tuple #[ptr tb, .bool _]) (by simp[results,Tryz.results89,go_sem, *]) rfl ⟨rfl,by first|exact bdn BW3.out.drew _|exact bdn BW3.out _|exact BW3.out.drew⟩
theorem record (x:Wf.Sc) (hx:Wf.ScOk x) (lo sb:Nat) (k:Wf.K) (hk:KOk x k) (W w:World) (hsc:ScL W lo sb x) (hW:Below W.heap.size W w):Calls Tryz.prog 89 #[ptr sb,kV k] w fun e w'=>(match Wf.recTy x k with
  | some t=>∃ tb,e=.returned (.tuple #[ptr tb, .bool true])∧TyL W lo tb t
  | none=>∃ p,e=.returned (.tuple #[.pointer p, .bool false]))∧Below w.heap.size w w':=by
 cases k with
 | ref nm =>
  obtain⟨mb,hsz,hc1,hnm⟩:=hsc.named
  obtain⟨t,ht⟩:=Wf.hasRef_ref hk.ref
  have hnl:nm.length≤12:=by have:=kname_len (.ref nm);have h2:=hk.len;simp only[Wf.K.name] at this;omega
  rcases hnm ⟨nm.toArray⟩ (by rw[tx_size];omega) with⟨h0,_⟩|⟨t',b,h1,hT,hl⟩
  ·rw[show(⟨nm.toArray⟩:ByteArray).data.toList=nm from rfl,ht] at h0;cases h0
  rw[show(⟨nm.toArray⟩:ByteArray).data.toList=nm from rfl,ht] at h1
  obtain rfl:t=t':=Option.some.inj h1
  have hto:=hx.tys t (Wf.find_mem ht).1
  have hq:((t.sort.toNat:Int)==82)=decide (t.sort=82):=by
   rcases hto.sort with h|h|h <;> rw[h] <;> rfl
  refine(record_yes (decide (t.sort=82)) sb mb b t.sort.toNat ⟨#[]⟩ ⟨#[64]⟩ ⟨nm.toArray⟩ W w hW hsz hT.sort.1 hc1 hT.sort.2 hl (by rw[ByteArray.toList_eq];rfl) (by rw[ByteArray.toList_eq]) (by rw[ByteArray.toList_eq]) hq).mono fun e w' ⟨h1,h2⟩=>⟨?_,h2⟩
  have hr:Wf.recTy x (.ref nm)=if t.sort=82 then some t else none:=by simp only[Wf.recTy,ht,Option.bind_some]
  rw[hr]
  by_cases h82:t.sort=82
  ·rw[if_pos h82]
   rw[decide_eq_true h82] at h1
   exact⟨b,h1,hT⟩
  ·rw[if_neg h82]
   rw[decide_eq_false h82] at h1
   exact⟨_,h1⟩
 | num=>exact(record_no sb ⟨#[]⟩ ⟨#[110]⟩ ⟨#[]⟩ w (.inr ⟨by rw[ByteArray.toList_eq];rfl,by rw[ByteArray.toList_eq];rfl⟩)).mono fun e w' ⟨h1,h2⟩=>⟨⟨_,h1⟩,h2⟩
 | txt=>exact(record_no sb ⟨#[]⟩ ⟨#[116]⟩ ⟨#[]⟩ w (.inr ⟨by rw[ByteArray.toList_eq];rfl,by rw[ByteArray.toList_eq];rfl⟩)).mono fun e w' ⟨h1,h2⟩=>⟨⟨_,h1⟩,h2⟩
 | flag=>exact(record_no sb ⟨#[]⟩ ⟨#[102]⟩ ⟨#[]⟩ w (.inr ⟨by rw[ByteArray.toList_eq];rfl,by rw[ByteArray.toList_eq];rfl⟩)).mono fun e w' ⟨h1,h2⟩=>⟨⟨_,h1⟩,h2⟩
 | list k=>exact(record_no sb ⟨(Wf.K.signs (.list k)).toArray⟩ ⟨(Wf.K.base (.list k)).toArray⟩ ⟨(Wf.K.name (.list k)).toArray⟩ w (.inl (by rw[ByteArray.toList_eq];rfl))).mono fun e w' ⟨h1,h2⟩=>⟨⟨_,h1⟩,h2⟩
 | opt k=>exact(record_no sb ⟨(Wf.K.signs (.opt k)).toArray⟩ ⟨(Wf.K.base (.opt k)).toArray⟩ ⟨(Wf.K.name (.opt k)).toArray⟩ w (.inl (by rw[ByteArray.toList_eq];rfl))).mono fun e w' ⟨h1,h2⟩=>⟨⟨_,h1⟩,h2⟩
end Go.Proofs.YtmdacedmjbiekaaGreatDoor
