/- Packed by pack.py: Je Jf Jg Ve Vg. -/
import Derived.Test.YtidjpalnmnehmaaGreatDoorE25
import Derived.Test.YtidjpalnmnehmaaGreatDoorE26
namespace Go.Proofs.YtidjpalnmnehmaaGreatDoor
open Go.ChangeShapes Go.WideShapes Go.ChangeAt Go.RowKit Go.Lib
set_option linter.unusedVariables false
set_option linter.unusedSimpArgs false
def BothOut (l kt:List UInt8) (lo:Nat) (e:Ending) (w':World):Prop:=match kindOf l kt with
 | some y=>∃ sb,e=.returned (.tuple #[ptr sb,kV y.2, .bool true])∧ScL w' lo sb y.1
 | none=>∃ p a b c,e=.returned (.tuple #[.pointer p, .agg #[.string a, .string b, .string c], .bool false])
theorem RsOut.no {l:List UInt8} {lo:Nat} {e:Ending} {w':World} (h:RsOut l lo e w') (hl:Wf.schemaOf l=none):∃ p,e=.returned (.tuple #[.pointer p, .bool false]):=by
 unfold RsOut at h;rw[hl] at h;exact h
theorem RsOut.yes {l:List UInt8} {lo:Nat} {e:Ending} {w':World} {x:Wf.Sc} (h:RsOut l lo e w') (hl:Wf.schemaOf l=some x):∃ sb,e=.returned (.tuple #[ptr sb, .bool true])∧ScL w' lo sb x:=by
 unfold RsOut at h;rw[hl] at h;exact h
theorem ScL.keepB {w w':World} {lo sb rb:Nat} {x:Wf.Sc} (h:ScL w lo sb x) (hr:rb<lo) (hb:Beside rb w w'):ScL w' lo sb x:=h.keep hb.size fun y h1 h2=>hb.block y h2 (by omega)
set_option maxRecDepth 20000 in
set_option maxHeartbeats 1000000 in
theorem both_none (s kt:ByteArray) (m:Int) (w:World) (hm:ML m w) (hs:s.size≤1048576) (hsc:Wf.schemaOf s.data.toList=none):Calls Tryz.prog 31 #[.string s, .string kt] w fun e w'=>(∃ p,e=.returned (.tuple #[.pointer p, .agg #[tx [],tx [],tx []], .bool false]))∧Below w.heap.size w w':=by
 have HR:=hid fun o=>readSchema s m (w.alloc o) (hm.below ((Below.refl _ _).alloc (Nat.le_refl _) o)) hs
 have HSC:=hid hsc
 clear hm hsc
 go_enter Tryz.func31,Tryz.ntmps31
 go_wp2_with (go_at_call 44;refine(HR.out _).mono ?_;rintro e w2 ⟨ho,hb2⟩;obtain⟨p,rfl⟩:=ho.no HSC.out;have B2:=hid (((Below.refl w.heap.size w).alloc (Nat.le_refl _) (.cells #[tx [],tx [],tx []] 48)).trans (hb2.mono (by simp)));obtain⟨hc3,hc4⟩:=bcell hb2;have hz:w.heap.size<w2.heap.size:=(by have:=hb2.size;simp at this;omega);have e0:w2.cell? ⟨w.heap.size,0,none⟩=some (tx []):=(hb2.cell (p:=⟨w.heap.size,0,none⟩) (by simp)).trans (by simp);have e1:w2.cell? ⟨w.heap.size,1,none⟩=some (tx []):=(hb2.cell (p:=⟨w.heap.size,1,none⟩) (by simp)).trans (by simp);have e2:w2.cell? ⟨w.heap.size,2,none⟩=some (tx []):=(hb2.cell (p:=⟨w.heap.size,2,none⟩) (by simp)).trans (by simp);clear ho hb2)
 exact bodyPost_ret (v:=.tuple #[.pointer none, .agg #[tx [],tx [],tx []], .bool false]) (by simp[results,Tryz.results31,go_sem,e0,e1,e2]) rfl ⟨⟨_,rfl⟩,by have B:=B2.out;repeat (first|with_reducible exact B|with_reducible refine Below.drew ?_|with_reducible refine Below.setCell ?_ (by first|(simp;done)|(simp;omega)|omega) _|with_reducible refine Below.alloc ?_ (by first|exact B.size|(simp;done)|(simp;omega)|omega) _)⟩
set_option maxRecDepth 20000 in
set_option maxHeartbeats 1000000 in
theorem both_nokind (s kt:ByteArray) (m:Int) (w:World) (hm:ML m w) (hs:s.size≤1048576) (x:Wf.Sc) (hsc:Wf.schemaOf s.data.toList=some x) (hkt:kt.size≤1048576) (hk:Wf.parseK kt.data.toList=none):Calls Tryz.prog 31 #[.string s, .string kt] w fun e w'=>(∃ p a b c,e=.returned (.tuple #[.pointer p, .agg #[.string a, .string b, .string c], .bool false]))∧Below w.heap.size w w':=by
 have HR:=hid fun o=>readSchema s m (w.alloc o) (hm.below ((Below.refl _ _).alloc (Nat.le_refl _) o)) hs
 have HSC:=hid hsc
 have HK:=hid fun wz=>readKind_no kt hk wz (by omega)
 clear hm hsc
 go_enter Tryz.func31,Tryz.ntmps31
 go_wp2_with (first|(go_at_call 55;refine(HK.out _).mono ?_;rintro e w3 ⟨⟨ka,kb,kc,rfl⟩,hb3⟩;have HL3:=hid (HL2.out.below hb3);have HD3:=hid (HD2.out.trans (hb3.mono HD2.out.size));clear hb3)|(go_at_call 44;refine(HR.out _).mono ?_;rintro e w2 ⟨ho,hb2⟩;obtain⟨sb,rfl,hsl⟩:=ho.yes HSC.out;have HL2:=hid hsl;have HD2:=hid hb2;clear ho hb2 hsl))
 have hz3:w.heap.size<w3.heap.size:=by have:=HD3.out.size;simp at this;omega
 have B3:=hid (((Below.refl w.heap.size w).alloc (Nat.le_refl _) (.cells #[tx [],tx [],tx []] 48)).trans (HD3.out.mono (by simp)))
 have e0:w3.cell? ⟨w.heap.size,0,none⟩=some (tx []):=(HD3.out.cell (p:=⟨w.heap.size,0,none⟩) (by simp)).trans (by simp)
 have p0:w3.frozen? ⟨w.heap.size,0,none⟩=false:=(HD3.out.frozen (p:=⟨w.heap.size,0,none⟩) (by simp)).trans (by simp)
 have e1:w3.cell? ⟨w.heap.size,1,none⟩=some (tx []):=(HD3.out.cell (p:=⟨w.heap.size,1,none⟩) (by simp)).trans (by simp)
 have p1:w3.frozen? ⟨w.heap.size,1,none⟩=false:=(HD3.out.frozen (p:=⟨w.heap.size,1,none⟩) (by simp)).trans (by simp)
 have e2:w3.cell? ⟨w.heap.size,2,none⟩=some (tx []):=(HD3.out.cell (p:=⟨w.heap.size,2,none⟩) (by simp)).trans (by simp)
 have p2:w3.frozen? ⟨w.heap.size,2,none⟩=false:=(HD3.out.frozen (p:=⟨w.heap.size,2,none⟩) (by simp)).trans (by simp)
 have hne:¬ w3.heap.size=w.heap.size:=by omega
 have hne2:¬ w.heap.size=w3.heap.size:=by omega
 go_region
 all_goals go_wp2_with fail
 all_goals exact bodyPost_ret (v:=.tuple #[ptr sb, .agg #[.string ka, .string kb, .string kc], .bool false]) (by simp[results,Tryz.results31,go_sem,e0,e1,e2,p0,p1,p2,hne,hne2,hz3]) rfl ⟨⟨_,_,_,_,rfl⟩,by have B:=B3.out;repeat (first|with_reducible exact B|with_reducible refine Below.drew ?_|with_reducible refine Below.setCell ?_ (by first|(simp;done)|(simp;omega)|omega) _|with_reducible refine Below.alloc ?_ (by first|exact B.size|(simp;done)|(simp;omega)|omega) _)⟩
set_option maxRecDepth 20000 in
set_option maxHeartbeats 1000000 in
theorem both_kind (s kt:ByteArray) (m:Int) (w:World) (hm:ML m w) (hs:s.size≤1048576) (x:Wf.Sc) (hsc:Wf.schemaOf s.data.toList=some x) (hkt:kt.size≤1048576) (k:Wf.K) (hk:Wf.parseK kt.data.toList=some k):Calls Tryz.prog 31 #[.string s, .string kt] w fun e w'=>(∃ sb,e=.returned (.tuple #[ptr sb,kV k, .bool (Wf.hasRef x k)])∧ScL w' w.heap.size sb x)∧Below w.heap.size w w':=by
 have HR:=hid fun o=>readSchema s m (w.alloc o) (hm.below ((Below.refl _ _).alloc (Nat.le_refl _) o)) hs
 have HSC:=hid hsc
 have hK:=fun wz=>readKind_yes kt k hk wz (by omega)
 have hH:=fun lo sb W wz hW H=>has x lo sb k W wz hW H (by have:=kname_len k;have:=parseK_len hk;omega)
 obtain⟨SG,hSG⟩:∃ SG:ByteArray,(⟨k.signs.toArray⟩:ByteArray)=SG:=⟨_,rfl⟩
 obtain⟨BS,hBS⟩:∃ BS:ByteArray,(⟨k.base.toArray⟩:ByteArray)=BS:=⟨_,rfl⟩
 obtain⟨NM,hNM⟩:∃ NM:ByteArray,(⟨k.name.toArray⟩:ByteArray)=NM:=⟨_,rfl⟩
 simp only[kV,tx,hSG,hBS,hNM] at hK hH
 have hkv:kV k=.agg #[.string SG, .string BS, .string NM]:=by simp only[kV,tx,hSG,hBS,hNM]
 rw[hkv]
 obtain⟨r,hr⟩:∃ r,Wf.hasRef x k=r:=⟨_,rfl⟩
 rw[hr] at hH ⊢
 have HK:=hid hK
 have HH:=hid hH
 clear hm hsc hK hH hSG hBS hNM hkv hr hk
 go_enter Tryz.func31,Tryz.ntmps31
 go_wp2_with (first|(go_at_call 55;refine(HK.out _).mono ?_;rintro e w3 ⟨rfl,hb3⟩;have HL3:=hid (HL2.out.below hb3);have HD3:=hid (HD2.out.trans (hb3.mono HD2.out.size));clear hb3)|(go_at_call 44;refine(HR.out _).mono ?_;rintro e w2 ⟨ho,hb2⟩;obtain⟨sb,rfl,hsl⟩:=ho.yes HSC.out;have HL2:=hid hsl;have HD2:=hid hb2;clear ho hb2 hsl))
 have hz3:w.heap.size<w3.heap.size:=by have:=HD3.out.size;simp at this;omega
 have B3:=hid (((Below.refl w.heap.size w).alloc (Nat.le_refl _) (.cells #[tx [],tx [],tx []] 48)).trans (HD3.out.mono (by simp)))
 have e0:w3.cell? ⟨w.heap.size,0,none⟩=some (tx []):=(HD3.out.cell (p:=⟨w.heap.size,0,none⟩) (by simp)).trans (by simp)
 have p0:w3.frozen? ⟨w.heap.size,0,none⟩=false:=(HD3.out.frozen (p:=⟨w.heap.size,0,none⟩) (by simp)).trans (by simp)
 have e1:w3.cell? ⟨w.heap.size,1,none⟩=some (tx []):=(HD3.out.cell (p:=⟨w.heap.size,1,none⟩) (by simp)).trans (by simp)
 have p1:w3.frozen? ⟨w.heap.size,1,none⟩=false:=(HD3.out.frozen (p:=⟨w.heap.size,1,none⟩) (by simp)).trans (by simp)
 have e2:w3.cell? ⟨w.heap.size,2,none⟩=some (tx []):=(HD3.out.cell (p:=⟨w.heap.size,2,none⟩) (by simp)).trans (by simp)
 have p2:w3.frozen? ⟨w.heap.size,2,none⟩=false:=(HD3.out.frozen (p:=⟨w.heap.size,2,none⟩) (by simp)).trans (by simp)
 have hne:¬ w3.heap.size=w.heap.size:=by omega
 have hne2:¬ w.heap.size=w3.heap.size:=by omega
 go_region_with (go_at_call 56;refine(HH.out _ _ w3 _ (by have B:=Below.refl w3.heap.size w3;repeat (first|with_reducible exact B|with_reducible refine Below.drew ?_|with_reducible refine Below.setCell ?_ (by first|(simp;done)|(simp;omega)|omega) _|with_reducible refine Below.alloc ?_ (by first|exact B.size|(simp;done)|(simp;omega)|omega) _)) HL3.out).mono ?_;rintro e w4 ⟨rfl,hb4⟩;have D4:=Lib.hid (show Below (w3.heap.size+1) (w3.alloc (.cells #[.string SG, .string BS, .string NM] 48)) w4 from Below.trans (Below.refl _ _).drew (hb4.mono (by simp)));have z0:w4.cell? ⟨w.heap.size,0,none⟩=some (tx []):=(D4.out.cell (p:=⟨w.heap.size,0,none⟩) (by show w.heap.size<_;omega)).trans ((World.cell?_alloc_lt w3 _ _ hz3).trans e0);have y0:w4.frozen? ⟨w.heap.size,0,none⟩=false:=(D4.out.frozen (p:=⟨w.heap.size,0,none⟩) (by show w.heap.size<_;omega)).trans ((((Below.refl w3.heap.size w3).alloc (Nat.le_refl _) _).frozen (p:=⟨w.heap.size,0,none⟩) hz3).trans p0);have z1:w4.cell? ⟨w.heap.size,1,none⟩=some (tx []):=(D4.out.cell (p:=⟨w.heap.size,1,none⟩) (by show w.heap.size<_;omega)).trans ((World.cell?_alloc_lt w3 _ _ hz3).trans e1);have y1:w4.frozen? ⟨w.heap.size,1,none⟩=false:=(D4.out.frozen (p:=⟨w.heap.size,1,none⟩) (by show w.heap.size<_;omega)).trans ((((Below.refl w3.heap.size w3).alloc (Nat.le_refl _) _).frozen (p:=⟨w.heap.size,1,none⟩) hz3).trans p1);have z2:w4.cell? ⟨w.heap.size,2,none⟩=some (tx []):=(D4.out.cell (p:=⟨w.heap.size,2,none⟩) (by show w.heap.size<_;omega)).trans ((World.cell?_alloc_lt w3 _ _ hz3).trans e2);have y2:w4.frozen? ⟨w.heap.size,2,none⟩=false:=(D4.out.frozen (p:=⟨w.heap.size,2,none⟩) (by show w.heap.size<_;omega)).trans ((((Below.refl w3.heap.size w3).alloc (Nat.le_refl _) _).frozen (p:=⟨w.heap.size,2,none⟩) hz3).trans p2);have v0:w4.cell? ⟨w3.heap.size,0,none⟩=some (.string SG):=(D4.out.cell (p:=⟨w3.heap.size,0,none⟩) (by show w3.heap.size<_;omega)).trans (by simp);have v1:w4.cell? ⟨w3.heap.size,1,none⟩=some (.string BS):=(D4.out.cell (p:=⟨w3.heap.size,1,none⟩) (by show w3.heap.size<_;omega)).trans (by simp);have v2:w4.cell? ⟨w3.heap.size,2,none⟩=some (.string NM):=(D4.out.cell (p:=⟨w3.heap.size,2,none⟩) (by show w3.heap.size<_;omega)).trans (by simp);clear hb4)
 all_goals go_wp2_with fail
 all_goals exact bodyPost_ret (v:=.tuple #[ptr sb, .agg #[.string SG, .string BS, .string NM], .bool r]) (by simp[results,Tryz.results31,go_sem,z0,z1,z2]) rfl ⟨⟨sb,rfl,(HL3.out.mono (lo':=w.heap.size+1) (by simp)).keepB (rb:=w.heap.size) (Nat.lt_succ_self _) (by have E:Beside w.heap.size w3 w4:=Beside.of_below (((Below.refl w3.heap.size w3).alloc (Nat.le_refl _) (.cells #[.string SG, .string BS, .string NM] 48)).trans (D4.out.mono (Nat.le_succ _))) (Nat.le_refl _);repeat (first|with_reducible exact E|with_reducible refine Beside.drew ?_|with_reducible refine Beside.trans ?_ (Beside.set _ _ _ _))) |>.mono (Nat.le_succ _)⟩,by have B:=(B3.out.alloc B3.out.size (.cells #[.string SG, .string BS, .string NM] 48)).trans (D4.out.mono (by omega));repeat (first|with_reducible exact B|with_reducible refine Below.drew ?_|with_reducible refine Below.setCell ?_ (by first|(simp;done)|(simp;omega)|omega) _|with_reducible refine Below.alloc ?_ (by first|exact B.size|(simp;done)|(simp;omega)|omega) _)⟩
theorem both (s kt:ByteArray) (m:Int) (w:World) (hm:ML m w) (hs:s.size≤1048576) (hkt:kt.size≤1048576):Calls Tryz.prog 31 #[.string s, .string kt] w fun e w'=>BothOut s.data.toList kt.data.toList w.heap.size e w'∧Below w.heap.size w w':=by
 cases hsc:Wf.schemaOf s.data.toList with
 | none =>
  refine(both_none s kt m w hm hs hsc).mono fun e w' ⟨⟨p,he⟩,hb⟩=>⟨?_,hb⟩
  unfold BothOut kindOf;rw[hsc];exact⟨_,_,_,_,he⟩
 | some x =>
  cases hk:Wf.parseK kt.data.toList with
  | none =>
   refine(both_nokind s kt m w hm hs x hsc hkt hk).mono fun e w' ⟨he,hb⟩=>⟨?_,hb⟩
   unfold BothOut kindOf;rw[hsc];dsimp only;rw[hk];exact he
  | some k =>
   refine(both_kind s kt m w hm hs x hsc hkt k hk).mono fun e w' ⟨⟨sb,he,hl⟩,hb⟩=>⟨?_,hb⟩
   unfold BothOut kindOf;rw[hsc];dsimp only;rw[hk];dsimp only
   cases hr:Wf.hasRef x k with
   | true=>rw[if_pos rfl];exact⟨sb,by rw[he,hr],hl⟩
   | false=>rw[if_neg (by decide)];exact⟨_,_,_,_,by rw[he,hr];rfl⟩
def TnOut (l nm:List UInt8) (lo:Nat) (e:Ending) (w':World):Prop:=match typeIn l nm with
 | some y=>∃ sb tb,e=.returned (.tuple #[ptr sb,ptr tb, .bool true])∧ScL w' lo sb y.1∧TyL w' lo tb y.2
 | none=>e=.returned (.tuple #[.pointer none, .pointer none, .bool false])
set_option maxRecDepth 20000 in
set_option maxHeartbeats 1000000 in
theorem typeNamed (s nm:ByteArray) (m:Int) (w:World) (hm:ML m w) (hs:s.size≤1048576) (hn6:nm.size≤1048576):Calls Tryz.prog 34 #[.string s, .string nm] w fun e w'=>TnOut s.data.toList nm.data.toList w.heap.size e w'∧Below w.heap.size w w':=by
 have HR:=hid (readSchema s m w hm hs)
 clear hm
 cases hsc:Wf.schemaOf s.data.toList with
 | none =>
  have HSC:=hid hsc
  have HF:=hid (show typeIn s.data.toList nm.data.toList=none by unfold typeIn;rw[hsc])
  clear hsc
  go_enter Tryz.func34,Tryz.ntmps34
  go_wp2_with (go_at_call 44;refine HR.out.mono ?_;rintro e w2 ⟨ho,hb2⟩;obtain⟨p,rfl⟩:=ho.no HSC.out;have HB2:=hid hb2;clear ho hb2)
  exact bodyPost_ret (v:=.tuple #[.pointer none, .pointer none, .bool false]) (by simp[results,Tryz.results34,go_sem]) rfl ⟨by unfold TnOut;rw[HF.out],HB2.out⟩
 | some x =>
  have HSC:=hid hsc
  cases hf:x.find nm.data.toList with
  | none =>
   have HF:=hid (show typeIn s.data.toList nm.data.toList=none by unfold typeIn;rw[hsc];simp[hf])
   have HL:=hid fun lo sb w2 (H:ScL w2 lo sb x)=>(by
    obtain⟨mb,h1,h2,h3⟩:=H.named
    rcases h3 nm hn6 with⟨_,h4⟩|⟨t,b,h4,_⟩
    ·exact⟨mb,h1,h2,h4⟩
    ·exact absurd h4 (by rw[hf];simp):∃ mb,sb<w2.heap.size∧w2.cell? ⟨sb,1,none⟩=some (.map (some mb))∧∀ wz,Below w2.heap.size w2 wz→(Instr.lookup 114 (.map (some mb)) (.string nm) false).run Tryz.prog wz=.ok (.pointer none) wz)
   clear hsc hf
   go_enter Tryz.func34,Tryz.ntmps34
   go_wp2_with (go_at_call 44;refine HR.out.mono ?_;rintro e w2 ⟨ho,hb2⟩;obtain⟨sb,rfl,hsl⟩:=ho.yes HSC.out;obtain⟨mb,hsb,hc1,hl⟩:=HL.out _ _ _ hsl;have l0:=hl w2 (Below.refl _ _);have l1:=hl w2.drew (Below.refl _ _).drew;have HB2:=hid hb2;clear ho hb2 hsl hl)
   exact bodyPost_ret (v:=.tuple #[.pointer none, .pointer none, .bool false]) (by simp[results,Tryz.results34,go_sem]) rfl ⟨by unfold TnOut;rw[HF.out],HB2.out⟩
  | some t =>
   have HF:=hid (show typeIn s.data.toList nm.data.toList=some (x,t) by unfold typeIn;rw[hsc];simp[hf])
   have HL:=hid fun lo sb w2 (H:ScL w2 lo sb x)=>(by
    obtain⟨mb,h1,h2,h3⟩:=H.named
    rcases h3 nm hn6 with⟨h4,_⟩|⟨t',b,h4,h5,h6⟩
    ·rw[hf] at h4;cases h4
    ·rw[hf] at h4;obtain rfl:=Option.some.inj h4;exact⟨mb,b,h1,h2,h5,h6⟩:∃ mb b,sb<w2.heap.size∧w2.cell? ⟨sb,1,none⟩=some (.map (some mb))∧TyL w2 lo b t∧∀ wz,Below w2.heap.size w2 wz→(Instr.lookup 114 (.map (some mb)) (.string nm) false).run Tryz.prog wz=.ok (ptr b) wz)
   clear hsc hf
   go_enter Tryz.func34,Tryz.ntmps34
   go_wp2_with (go_at_call 44;refine HR.out.mono ?_;rintro e w2 ⟨ho,hb2⟩;obtain⟨sb,rfl,hsl⟩:=ho.yes HSC.out;obtain⟨mb,b,hsb,hc1,hT,hl⟩:=HL.out _ _ _ hsl;have l0:=hl w2 (Below.refl _ _);have l1:=hl w2.drew (Below.refl _ _).drew;have HT:=hid hT;have HSL:=hid hsl;have HB2:=hid hb2;clear ho hb2 hsl hl hT)
   go_region
   all_goals go_wp2_with fail
   all_goals exact bodyPost_ret (v:=.tuple #[ptr sb,ptr b, .bool true]) (by simp[results,Tryz.results34,go_sem]) rfl ⟨by unfold TnOut;rw[HF.out];exact⟨sb,b,rfl,HSL.out.below (Below.refl _ _).drew,HT.out.below (Below.refl _ _).drew⟩,HB2.out.drew⟩

theorem RsOut.ok {l:List UInt8} {lo:Nat} {e:Ending} {w':World} (h:RsOut l lo e w'):∃ p,e=.returned (.tuple #[.pointer p, .bool (okL l)]):=by
 unfold RsOut at h
 unfold okL
 cases hl:Wf.schemaOf l with
 | none=>rw[hl] at h;exact h
 | some x=>rw[hl] at h;obtain⟨sb,he,_⟩:=h;exact⟨_,he⟩
theorem TnOut.no {l nm:List UInt8} {lo:Nat} {e:Ending} {w':World} (h:TnOut l nm lo e w') (hl:typeIn l nm=none):e=.returned (.tuple #[.pointer none, .pointer none, .bool false]):=by
 unfold TnOut at h;rw[hl] at h;exact h
theorem TnOut.yes {l nm:List UInt8} {lo:Nat} {e:Ending} {w':World} {y:Wf.Sc × Wf.Ty} (h:TnOut l nm lo e w') (hl:typeIn l nm=some y):∃ sb tb,e=.returned (.tuple #[ptr sb,ptr tb, .bool true])∧ScL w' lo sb y.1∧TyL w' lo tb y.2:=by
 unfold TnOut at h;rw[hl] at h;exact h
theorem BothOut.no {l kt:List UInt8} {lo:Nat} {e:Ending} {w':World} (h:BothOut l kt lo e w') (hl:kindOf l kt=none):∃ p a b c,e=.returned (.tuple #[.pointer p, .agg #[.string a, .string b, .string c], .bool false]):=by
 unfold BothOut at h;rw[hl] at h;exact h
theorem BothOut.yes {l kt:List UInt8} {lo:Nat} {e:Ending} {w':World} {y:Wf.Sc × Wf.K} (h:BothOut l kt lo e w') (hl:kindOf l kt=some y):∃ sb,e=.returned (.tuple #[ptr sb,kV y.2, .bool true])∧ScL w' lo sb y.1:=by
 unfold BothOut at h;rw[hl] at h;exact h

theorem FieldOut.no {W:World} {t:Wf.Ty} {g:Int} {e:Ending} (h:FieldOut W t g e) (hl:fieldI t g=none):e=.returned (.pointer none):=by
 unfold FieldOut at h;rw[hl] at h;exact h
theorem FieldOut.yes {W:World} {t:Wf.Ty} {g:Int} {e:Ending} {f:Wf.Fd} (h:FieldOut W t g e) (hl:fieldI t g=some f):∃ fb o,e=.returned (.pointer (some ⟨fb,o,none⟩))∧FdAt W fb o t.sort f:=by
 unfold FieldOut at h;rw[hl] at h;exact h

theorem VC.one {W:World} {P:Nat→Prop} {b o:Nat} {cs:List Value} {v:Wf.V} (hv:VC W P v cs) (hb:P b) (hlt:b<W.heap.size) (hc:∀ j u,cs[j]? = some u→W.cell? ⟨b,o+j,none⟩=some u) (what:UInt8) (text:List UInt8) (tag:Nat) (hs:ShapeV what tag [v]):VC W P (.mk what text tag [v]) [.int .u8 what.toNat,tx text, .int .i64 tag, .slice (some ⟨b,o,none⟩) 1 1]:=by
 simp only[VC,VCs]
 exact⟨some ⟨b,o,none⟩,1,rfl,Nat.le_refl _,by unfold maxLen;omega,hs, .inr ⟨b,o,rfl,hb,hlt,⟨cs,hv,hc⟩,trivial⟩⟩
structure Zero (wr:World) (b:Nat):Prop where
 lt:b<wr.heap.size
 r0:wr.cell? ⟨b,0,none⟩=some (.int .u8 0)
 r1:wr.cell? ⟨b,1,none⟩=some (.string ⟨#[]⟩)
 r2:wr.cell? ⟨b,2,none⟩=some (.int .i64 0)
 r3:wr.cell? ⟨b,3,none⟩=some (.slice none 0 0)
 f0:wr.frozen? ⟨b,0,none⟩=false
 f1:wr.frozen? ⟨b,1,none⟩=false
 f2:wr.frozen? ⟨b,2,none⟩=false
 f3:wr.frozen? ⟨b,3,none⟩=false
theorem Zero.same {wr w2:World} {b:Nat} (h:Zero wr b) (hs:wr.heap.size≤w2.heap.size) (h1:w2.heap[b]? = wr.heap[b]?):Zero w2 b:=by
 have cd:=fun o=>World.cell?_of_block (w:=wr) (w':=w2) (a:=⟨b,o,none⟩) h1
 have cf:=fun o=>World.frozen?_of_block (w:=wr) (w':=w2) (a:=⟨b,o,none⟩) h1
 exact⟨Nat.lt_of_lt_of_le h.lt hs,(cd 0).trans h.r0,(cd 1).trans h.r1,(cd 2).trans h.r2,(cd 3).trans h.r3,(cf 0).trans h.f0,(cf 1).trans h.f1,(cf 2).trans h.f2,(cf 3).trans h.f3⟩
theorem Zero.step {wr w2:World} {b rb:Nat} (h:Zero wr b) (hb:Beside rb wr w2) (hr:b≠rb):Zero w2 b:=h.same hb.size (hb.block _ h.lt hr)
theorem Zero.below {wr w2:World} {b B:Nat} (h:Zero wr b) (hb:Below B wr w2) (hr:b<B):Zero w2 b:=h.same hb.size (hb.block _ hr)
theorem zero_new (w:World):Zero (w.alloc (.cells #[.int .u8 0, .string ⟨#[]⟩, .int .i64 0, .slice none 0 0] 51)) w.heap.size:=by
 refine⟨?_, ?_, ?_, ?_, ?_, ?_, ?_, ?_, ?_⟩ <;> simp[go_sem]
section
variable (x:Wf.Sc) (rb sb:Nat) (W:World) (n:Nat) (t:Wf.Ty) (s:List UInt8) (w:World)
set_option maxRecDepth 20000 in
set_option maxHeartbeats 1000000 in
theorem field_c (bad:Bool) (ht:t.fields.length≤1000) (hs:s.length≤400) (lo tb:Nat) (hW:Below W.heap.size W w) (hT:TyL W lo tb t) (hWr:W.heap.size≤rb) (H:Sn w rb sb s bad) (hno:¬ (bad=false∧∃ g q f,Wf.numTok 200 s=some (g,61::q)∧t.field g=some f)):Calls Tryz.prog 145 #[ptr rb,ptr tb] w fun e w'=>Beside rb w w'∧∃ r,e=.returned (.tuple #[.agg #[.int .u8 0, .string ⟨#[]⟩, .int .i64 0, .slice none 0 0], .pointer none])∧r.length≤s.length∧Sn w' rb sb r true:=by
 obtain⟨m,hm⟩:∃ m,numV (s.takeWhile Wf.isDig)=m:=⟨_,rfl⟩
 obtain⟨s1,hs1⟩:∃ s1,s.dropWhile Wf.isDig=s1:=⟨_,rfl⟩
 obtain⟨b1,hb1⟩:∃ b1,(bad || !(Wf.plainN (s.takeWhile Wf.isDig) 200).isSome)=b1:=⟨_,rfl⟩
 have HNUM:=hid fun w2 (h:Sn w2 rb sb s bad)=>number rb sb w2 s bad 200 (by omega) (by omega) h
 rw[hm,hs1,hb1] at HNUM
 have HFD:=hid fun(w2:World) (hb:Below W.heap.size W w2)=>field t ht m lo tb W w2 hb hT
 have HLE:=hid (show s1.length≤s.length by rw[← hs1];exact(List.dropWhile_suffix _).length_le)
 have hkey:b1=false→∀ q,s1=61::q→fieldI t m=none:=fun h q hq=>by
  rw[h,Bool.or_eq_false_iff] at hb1
  cases hp:Wf.plainN (s.takeWhile Wf.isDig) 200 with
  | none=>rw[hp] at hb1;simp at hb1
  | some g =>
   have hmg:m=g:=by rw[← hm];exact numV_some hp
   have hnt:Wf.numTok 200 s=some (g,61::q):=by rw[Wf.numTok,hp,hs1,hq];rfl
   rw[hmg,fieldI_nat]
   cases hf:t.field g with
   | none=>rfl
   | some f=>exact absurd ⟨hb1.1,g,q,f,hnt,hf⟩ hno
 have HW:=hid hW
 have HH:=hid H
 have hrb:=H.lt
 have hmle:m≤999999:=by rw[← hm];exact numV_le _
 clear hno H hT hW hm hs1 hb1
 by_cases hY:b1=false∧∃ q,s1=61::q
 ·obtain⟨rfl,q,rfl⟩:=hY
  have HFI:=hid (hkey rfl q rfl)
  have HL2:=hid (show q.length≤s.length by have:=HLE.out;simp at this;omega)
  clear hkey
  have HFD2:=hid fun(w2:World) (hb:Below W.heap.size W w2)=>(HFD.out w2 hb).mono (R:=fun e w'=>FieldOut W t m e∧w2=w') (R':=fun e w'=>e=.returned (.pointer none)∧w2=w') fun e w' h=>⟨FieldOut.no (W:=W) (t:=t) (g:=m) (e:=e) h.1 HFI.out,h.2⟩
  go_enter Tryz.func145,Tryz.ntmps145
  go_wp2_with (first|(go_at_call 113;refine(want_yes rb sb _ [61] q S1.out).mono ?_;rintro e w3 ⟨rfl,hs3,hb3⟩;have HS3:=hid hs3;have HB3:=hid (HB1.out.trans hb3);have c2:=hs3.c2;have f2:=hs3.f2;have hlt:=hs3.lt;have ZZ3:=hid (ZZ.out.step hb3 (by omega));obtain⟨zl,zr0,zr1,zr2,zr3,zf0,zf1,zf2,zf3⟩:=ZZ3.out;clear hs3 hb3)|(go_at_call 40;refine(HFD2.out _ BW1.out).mono ?_;rintro e w2 ⟨rfl,rfl⟩)|(go_at_call 114;have b0:=(Below.refl w.heap.size w).alloc (Nat.le_refl _) (.cells #[.int .u8 0, .string ⟨#[]⟩, .int .i64 0, .slice none 0 0] 51);refine(HNUM.out _ (HH.out.below b0)).mono ?_;rintro e w1 ⟨rfl,hs1,hb1⟩;have B0:=hid b0;have S1:=hid hs1;have ZZ:=hid ((zero_new w).step hb1 (by omega));have HB1:=hid ((Beside.of_below b0 (Nat.le_refl _)).trans hb1);have HB1a:=hid hb1;have BW1:=hid (Beside.below HW.out HW.out.size hWr HB1.out);clear b0 hs1 hb1))
  exact bodyPost_ret (v:=.tuple #[.agg #[.int .u8 0, .string ⟨#[]⟩, .int .i64 0, .slice none 0 0], .pointer none]) (by simp[results,Tryz.results145,go_sem, *]) rfl (by
   refine(fun(wx W4:World) (sn:Sn wx rb sb q true) (hf:Beside rb w wx) (hb:Beside w.heap.size wx W4)=>⟨hf.on hb (Nat.le_refl _),q,rfl,HL2.out,sn.beside hb (by omega)⟩:∀ wx W4,Sn wx rb sb q true→Beside rb w wx→Beside w.heap.size wx W4→Beside rb w W4∧∃ r,(Ending.returned (.tuple #[.agg #[.int .u8 0, .string ⟨#[]⟩, .int .i64 0, .slice none 0 0], .pointer none]))=.returned (.tuple #[.agg #[.int .u8 0, .string ⟨#[]⟩, .int .i64 0, .slice none 0 0], .pointer none])∧r.length≤s.length∧Sn W4 rb sb r true) (w3.setCell ⟨rb,2,none⟩ (.bool true)) _ HS3.out.fail (HB3.out.trans (Beside.set _ _ _ _)) ?_
   repeat (first|with_reducible exact Beside.refl _ _|with_reducible refine Beside.drew ?_|with_reducible refine Beside.trans ?_ (Beside.set _ _ _ _)))
 ·have HY:=hid (show b1=true∨¬ [61] <+: s1 by
   cases b1 with
   | true=>exact .inl rfl
   | false=>exact .inr fun⟨q,hq⟩=>hY ⟨rfl,q,hq.symm⟩)
  clear hkey hY
  cases hfi:fieldI t m with
  | none =>
   have HFI:=hid hfi
   clear hfi
   have HFD2:=hid fun(w2:World) (hb:Below W.heap.size W w2)=>(HFD.out w2 hb).mono (R:=fun e w'=>FieldOut W t m e∧w2=w') (R':=fun e w'=>e=.returned (.pointer none)∧w2=w') fun e w' h=>⟨FieldOut.no (W:=W) (t:=t) (g:=m) (e:=e) h.1 HFI.out,h.2⟩
   go_enter Tryz.func145,Tryz.ntmps145
   go_wp2_with (first|(go_at_call 113;refine(want_no rb sb _ s1 [61] b1 S1.out HY.out).mono ?_;rintro e w3 ⟨rfl,hs3,hb3⟩;have HS3:=hid hs3;have HB3:=hid (HB1.out.trans hb3);have c2:=hs3.c2;have f2:=hs3.f2;have hlt:=hs3.lt;have ZZ3:=hid (ZZ.out.step hb3 (by omega));obtain⟨zl,zr0,zr1,zr2,zr3,zf0,zf1,zf2,zf3⟩:=ZZ3.out;clear hs3 hb3)|(go_at_call 40;refine(HFD2.out _ BW1.out).mono ?_;rintro e w2 ⟨rfl,rfl⟩)|(go_at_call 114;have b0:=(Below.refl w.heap.size w).alloc (Nat.le_refl _) (.cells #[.int .u8 0, .string ⟨#[]⟩, .int .i64 0, .slice none 0 0] 51);refine(HNUM.out _ (HH.out.below b0)).mono ?_;rintro e w1 ⟨rfl,hs1,hb1⟩;have B0:=hid b0;have S1:=hid hs1;have ZZ:=hid ((zero_new w).step hb1 (by omega));have HB1:=hid ((Beside.of_below b0 (Nat.le_refl _)).trans hb1);have HB1a:=hid hb1;have BW1:=hid (Beside.below HW.out HW.out.size hWr HB1.out);clear b0 hs1 hb1))
   exact bodyPost_ret (v:=.tuple #[.agg #[.int .u8 0, .string ⟨#[]⟩, .int .i64 0, .slice none 0 0], .pointer none]) (by simp[results,Tryz.results145,go_sem, *]) rfl (by
    refine(fun(wx W4:World) (sn:Sn wx rb sb s1 true) (hf:Beside rb w wx) (hb:Beside w.heap.size wx W4)=>⟨hf.on hb (Nat.le_refl _),s1,rfl,HLE.out,sn.beside hb (by omega)⟩:∀ wx W4,Sn wx rb sb s1 true→Beside rb w wx→Beside w.heap.size wx W4→Beside rb w W4∧∃ r,(Ending.returned (.tuple #[.agg #[.int .u8 0, .string ⟨#[]⟩, .int .i64 0, .slice none 0 0], .pointer none]))=.returned (.tuple #[.agg #[.int .u8 0, .string ⟨#[]⟩, .int .i64 0, .slice none 0 0], .pointer none])∧r.length≤s.length∧Sn W4 rb sb r true) (w3.setCell ⟨rb,2,none⟩ (.bool true)) _ HS3.out.fail (HB3.out.trans (Beside.set _ _ _ _)) ?_
    repeat (first|with_reducible exact Beside.refl _ _|with_reducible refine Beside.drew ?_|with_reducible refine Beside.trans ?_ (Beside.set _ _ _ _)))
  | some f =>
   have HFI:=hid hfi
   clear hfi
   have HFD2:=hid fun(w2:World) (hb:Below W.heap.size W w2)=>(HFD.out w2 hb).mono (R:=fun e w'=>FieldOut W t m e∧w2=w') (R':=fun e w'=>(∃ fb o,e=.returned (.pointer (some ⟨fb,o,none⟩)))∧w2=w') fun e w' h=>⟨let ⟨fb,o,he,_⟩:=FieldOut.yes (W:=W) (t:=t) (g:=m) (e:=e) h.1 HFI.out;⟨fb,o,he⟩,h.2⟩
   go_enter Tryz.func145,Tryz.ntmps145
   go_wp2_with (first|(go_at_call 113;refine(want_no rb sb _ s1 [61] b1 S1.out HY.out).mono ?_;rintro e w3 ⟨rfl,hs3,hb3⟩;have HS3:=hid hs3;have HB3:=hid (HB1.out.trans hb3);have c2:=hs3.c2;have f2:=hs3.f2;have hlt:=hs3.lt;have ZZ3:=hid (ZZ.out.step hb3 (by omega));obtain⟨zl,zr0,zr1,zr2,zr3,zf0,zf1,zf2,zf3⟩:=ZZ3.out;clear hs3 hb3)|(go_at_call 40;refine(HFD2.out _ BW1.out).mono ?_;rintro e w2 ⟨⟨fb,o,rfl⟩,rfl⟩)|(go_at_call 114;have b0:=(Below.refl w.heap.size w).alloc (Nat.le_refl _) (.cells #[.int .u8 0, .string ⟨#[]⟩, .int .i64 0, .slice none 0 0] 51);refine(HNUM.out _ (HH.out.below b0)).mono ?_;rintro e w1 ⟨rfl,hs1,hb1⟩;have B0:=hid b0;have S1:=hid hs1;have ZZ:=hid ((zero_new w).step hb1 (by omega));have HB1:=hid ((Beside.of_below b0 (Nat.le_refl _)).trans hb1);have HB1a:=hid hb1;have BW1:=hid (Beside.below HW.out HW.out.size hWr HB1.out);clear b0 hs1 hb1))
   exact bodyPost_ret (v:=.tuple #[.agg #[.int .u8 0, .string ⟨#[]⟩, .int .i64 0, .slice none 0 0], .pointer none]) (by simp[results,Tryz.results145,go_sem, *]) rfl (by
    refine(fun(wx W4:World) (sn:Sn wx rb sb s1 true) (hf:Beside rb w wx) (hb:Beside w.heap.size wx W4)=>⟨hf.on hb (Nat.le_refl _),s1,rfl,HLE.out,sn.beside hb (by omega)⟩:∀ wx W4,Sn wx rb sb s1 true→Beside rb w wx→Beside w.heap.size wx W4→Beside rb w W4∧∃ r,(Ending.returned (.tuple #[.agg #[.int .u8 0, .string ⟨#[]⟩, .int .i64 0, .slice none 0 0], .pointer none]))=.returned (.tuple #[.agg #[.int .u8 0, .string ⟨#[]⟩, .int .i64 0, .slice none 0 0], .pointer none])∧r.length≤s.length∧Sn W4 rb sb r true) (w3.setCell ⟨rb,2,none⟩ (.bool true)) _ HS3.out.fail (HB3.out.trans (Beside.set _ _ _ _)) ?_
    repeat (first|with_reducible exact Beside.refl _ _|with_reducible refine Beside.drew ?_|with_reducible refine Beside.trans ?_ (Beside.set _ _ _ _)))
def FlYes (x:Wf.Sc) (n:Nat) (t:Wf.Ty) (s:List UInt8) (rb sb:Nat) (W w:World) (e:Ending) (w':World):Prop :=
 Beside rb w w'∧∃ cs f v r fb o,e=.returned (.tuple #[.agg cs.toArray, .pointer (some ⟨fb,o,none⟩)])∧f∈t.fields∧f.tag≤200∧FdAt W fb o t.sort f∧VC w' (fun b=>w.heap.size≤b) (.mk 61 [] f.tag [v]) cs∧((Wf.fieldTok t (fun k s=>Wf.parse x n k s) s=some (f,v,r)∧Sn w' rb sb r false)∨(Wf.fieldTok t (fun k s=>Wf.parse x n k s) s=none∧(∃ q,q.length+2≤s.length∧Wf.Badv q r v)∧Sn w' rb sb r true))
theorem one_out {w w4 W7:World} (hb:Beside w.heap.size w4 W7) {B:Nat} {v:Wf.V} {cs:List Value} (hvc:VC w4 (fun b=>B≤b) v cs) (h:w.heap.size<B) {blk:Nat} (hlt:blk<W7.heap.size) (hblk:w.heap.size≤blk) (hc:∀ j u,cs[j]? = some u→W7.cell? ⟨blk,0+j,none⟩=some u) {tag:Nat} (ht:tag≤999999):VC W7 (fun b=>w.heap.size≤b) (.mk 61 [] tag [v]) [.int .u8 61,tx [], .int .i64 tag, .slice (some ⟨blk,0,none⟩) 1 1] :=
 VC.one (VC.keep (P:=fun b=>B≤b) (fun b hp hlt=>⟨by omega,hb.block b hlt (by omega)⟩) hb.size _ _ hvc) hblk hlt hc 61 [] tag ⟨ht,fun _=>.inr (.inr (.inl rfl)),fun _=>rfl⟩
set_option maxRecDepth 20000 in
set_option maxHeartbeats 1000000 in
theorem field_m (f:Wf.Fd) (g:Nat) (q:List UInt8) (hn:Wf.numTok 200 s=some (g,61::q)) (hf:t.field g=some f) (ht:t.fields.length≤1000) (hs:s.length≤400) (lo tb:Nat) (hW:Below W.heap.size W w) (hT:TyL W lo tb t) (hWr:W.heap.size≤rb) (H:Sn w rb sb s false) (h69:t.sort≠69) (IH:Reads x rb sb W n f.kind) (hq:q.length<n):Calls Tryz.prog 145 #[ptr rb,ptr tb] w fun e w'=>FlYes x n t s rb sb W w e w':=by
 have hg:g≤200:=(Wf.numTok_some hn).2.1
 obtain⟨hfm,hft⟩:=Wf.field_mem hf
 have hql:q.length+2≤s.length:=by have:=Wf.numTok_lt hn;simp at this;omega
 have HNUM:=hid fun w2 (h:Sn w2 rb sb s false)=>number_yes rb sb w2 s (61::q) false 200 g (by omega) (by omega) h hn
 have HFD:=hid fun(w2:World) (hb:Below W.heap.size W w2)=>(field t ht g lo tb W w2 hb hT).mono (R':=fun e w'=>(∃ fb o,e=.returned (.pointer (some ⟨fb,o,none⟩))∧FdAt W fb o t.sort f)∧w2=w') fun e w' h=>⟨FieldOut.yes (W:=W) (t:=t) (g:=g) (e:=e) h.1 (by rw[fieldI_nat];exact hf),h.2⟩
 have HTK:=hid (show Wf.fieldTok t (fun k s=>Wf.parse x n k s) s=(Wf.parse x n f.kind q).map fun y=>(f,y.1,y.2) from Wf.fieldTok_some t (fun k s=>Wf.parse x n k s) hn hf)
 obtain⟨SG,hSG⟩:∃ SG:ByteArray,(⟨f.kind.signs.toArray⟩:ByteArray)=SG:=⟨_,rfl⟩
 obtain⟨BS,hBS⟩:∃ BS:ByteArray,(⟨f.kind.base.toArray⟩:ByteArray)=BS:=⟨_,rfl⟩
 obtain⟨NM,hNM⟩:∃ NM:ByteArray,(⟨f.kind.name.toArray⟩:ByteArray)=NM:=⟨_,rfl⟩
 have hkv:kV f.kind=.agg #[.string SG, .string BS, .string NM]:=by simp only[kV,tx,hSG,hBS,hNM]
 have hIH2:∀ (s:List UInt8) (w:World),Below W.heap.size W w→Sn w rb sb s false→s.length<n→s.length≤400→Calls Tryz.prog 74 #[ptr rb, .agg #[.string SG, .string BS, .string NM]] w fun e w'=>RdOut (Wf.parse x n f.kind s) s rb sb w e w':=by rw[← hkv];exact IH
 have HIH2:=hid hIH2
 have HCL:=hid fun(fb o:Nat) (w2:World) (hb:Below W.heap.size W w2) (h:FdAt W fb o t.sort f)=>(show fb<w2.heap.size∧w2.cell? ⟨fb,o,none⟩=some (.int .i64 g)∧w2.cell? ⟨fb,o+2,none⟩=some (.string SG)∧w2.cell? ⟨fb,o+2+1,none⟩=some (.string BS)∧w2.cell? ⟨fb,o+2+2,none⟩=some (.string NM) by
  have e:fdC t.sort f=[.int .i64 f.tag,tx f.name, .string SG, .string BS, .string NM,tx f.given]:=by
   unfold fdC
   rw[if_neg h69,← hSG,← hBS,← hNM]
  have hc:=fun j u (hu:(fdC t.sort f)[j]? = some u)=>(hb.cell (p:=⟨fb,o+j,none⟩) h.1).trans (h.2 j u hu)
  rw[e] at hc
  exact⟨Nat.lt_of_lt_of_le h.1 hb.size,by rw[← hft];exact hc 0 _ rfl,hc 2 _ rfl,hc 3 _ rfl,hc 4 _ rfl⟩)
 have HW:=hid hW
 have HH:=hid H
 have HF:=hid (And.intro hfm hft)
 have hrb:=H.lt
 clear hn hf hfm hft H hT hW hSG hBS hNM hkv hIH2 IH h69
 go_enter Tryz.func145,Tryz.ntmps145
 go_wp2_with (first|(go_at_call 74;refine(HIH2.out q _ BW3.out HS3.out hq (by omega)).mono ?_;rintro e w4 ⟨cs,v,r2,rfl,hvc,hbs,ho⟩;obtain⟨q2,g2,n2,c2,T2,a2,rfl⟩:=hvc.cells4;have HVC:=hid hvc;have HO:=hid ho;have HB4:=hid hbs;have ZZ4:=hid (ZZ3.out.step hbs (by omega));obtain⟨yl,yr0,yr1,yr2,yr3,yf0,yf1,yf2,yf3⟩:=ZZ4.out;have BW4:=hid (Beside.below BW3.out BW3.out.size hWr hbs);obtain⟨x1,x2,x3,x4,x5⟩:=HCL.out fb o w4 BW4.out HFA.out;clear hvc ho hbs)|(go_at_call 113;refine(want_yes rb sb _ [61] q S1.out).mono ?_;rintro e w3 ⟨rfl,hs3,hb3⟩;have HS3:=hid hs3;have HB3:=hid (HB1.out.trans hb3);have BW3:=hid (Beside.below BW1.out BW1.out.size hWr hb3);have c2:=hs3.c2;have f2:=hs3.f2;have hlt:=hs3.lt;have ZZ3:=hid (ZZ.out.step hb3 (by omega));obtain⟨zl,zr0,zr1,zr2,zr3,zf0,zf1,zf2,zf3⟩:=ZZ3.out;obtain⟨k1,k2,k3,k4,k5⟩:=HCL.out fb o w3 BW3.out HFA.out;clear hs3 hb3)|(go_at_call 40;refine(HFD.out _ BW1.out).mono ?_;rintro e w2 ⟨⟨fb,o,rfl,hfa⟩,rfl⟩;have HFA:=hid hfa;clear hfa)|(go_at_call 114;have b0:=(Below.refl w.heap.size w).alloc (Nat.le_refl _) (.cells #[.int .u8 0, .string ⟨#[]⟩, .int .i64 0, .slice none 0 0] 51);refine(HNUM.out _ (HH.out.below b0)).mono ?_;rintro e w1 ⟨rfl,hs1,hb1⟩;have B0:=hid b0;have S1:=hid hs1;have ZZ:=hid ((zero_new w).step hb1 (by omega));have HB1:=hid ((Beside.of_below b0 (Nat.le_refl _)).trans hb1);have HB1a:=hid hb1;have BW1:=hid (Beside.below HW.out HW.out.size hWr HB1.out);clear b0 hs1 hb1))
 have hx1:fb<w4.heap.size+1:=Nat.lt_succ_of_lt x1
 go_region
 all_goals (go_wp2_with fail)
 all_goals exact bodyPost_ret (v:=.tuple #[.agg #[.int .u8 61, .string ⟨#[]⟩, .int .i64 g, .slice (some ⟨w4.heap.size+1,0,none⟩) 1 1], .pointer (some ⟨fb,o,none⟩)]) (by simp[results,Tryz.results145,go_sem, *]) rfl (by
  have hR:∀ W7,Beside w.heap.size w4 W7→w4.heap.size+1<W7.heap.size→(∀ j u,[Value.int .u8 q2,Value.string T2,Value.int .i64 g2,Value.slice a2 n2 c2][j]? = some u→W7.cell? ⟨w4.heap.size+1,0+j,none⟩=some u)→FlYes x n t s rb sb W w (.returned (.tuple #[.agg #[.int .u8 61, .string ⟨#[]⟩, .int .i64 g, .slice (some ⟨w4.heap.size+1,0,none⟩) 1 1], .pointer (some ⟨fb,o,none⟩)])) W7:=fun W7 hb hl hc=>by
   refine⟨(HB3.out.trans HB4.out).on hb (Nat.le_refl _),⟨[.int .u8 61, .string ⟨#[]⟩, .int .i64 g, .slice (some ⟨w4.heap.size+1,0,none⟩) 1 1],f,v,r2,fb,o,rfl,HF.out.1,by rw[HF.out.2];exact hg,HFA.out,by rw[HF.out.2];exact one_out hb HVC.out zl hl (by omega) hc (by omega), ?_⟩⟩
   rcases HO.out with⟨hp,hs4⟩|⟨hp,hbv,hs4⟩
   ·exact .inl ⟨by rw[HTK.out,hp];rfl,hs4.beside hb (by omega)⟩
   ·exact .inr ⟨by rw[HTK.out,hp];rfl,⟨q,hql,hbv⟩,hs4.beside hb (by omega)⟩
  refine hR _ ?_ ?_ ?_
  ·repeat (first|with_reducible exact Beside.refl _ _|with_reducible refine Beside.drew ?_|with_reducible refine Beside.alloc ?_ _|with_reducible refine Beside.trans ?_ (Beside.set _ _ _ _))
  ·simp
  ·intro j u hu
   rcases j with _|_|_|_|j <;> simp at hu <;> subst hu <;> simp[go_sem])
theorem field_none (h:¬ ∃ g q f,Wf.numTok 200 s=some (g,61::q)∧t.field g=some f):Wf.fieldTok t (fun k s=>Wf.parse x n k s) s=none:=by
 cases hn:Wf.numTok 200 s with
 | none=>exact Wf.fieldTok_no t _ hn
 | some y =>
  obtain⟨g,r⟩:=y
  by_cases hr:r.head? = some 61
  ·cases r with
   | nil=>simp at hr
   | cons a q =>
    simp at hr
    subst hr
    cases hf:t.field g with
    | none=>exact Wf.fieldTok_tag t _ hn hf
    | some f=>exact absurd ⟨g,q,f,hn,hf⟩ h
  ·exact Wf.fieldTok_eq t _ hn hr
end

structure Blk (wr:World) (b q g:Nat):Prop where
 lt:b<wr.heap.size
 r0:wr.cell? ⟨b,0,none⟩=some (.int .u8 q)
 r1:wr.cell? ⟨b,1,none⟩=some (.string ⟨#[]⟩)
 r2:wr.cell? ⟨b,2,none⟩=some (.int .i64 g)
 r3:wr.cell? ⟨b,3,none⟩=some (.slice none 0 0)
 f2:wr.frozen? ⟨b,2,none⟩=false
 f3:wr.frozen? ⟨b,3,none⟩=false
theorem Blk.step {wr w2:World} {b rb q g:Nat} (h:Blk wr b q g) (hb:Beside rb wr w2) (hr:b≠rb):Blk w2 b q g:=by
 have h1:=hb.block _ h.lt hr
 have cd:=fun o=>World.cell?_of_block (w:=wr) (w':=w2) (a:=⟨b,o,none⟩) h1
 have cf:=fun o=>World.frozen?_of_block (w:=wr) (w':=w2) (a:=⟨b,o,none⟩) h1
 exact⟨Nat.lt_of_lt_of_le h.lt hb.size,(cd 0).trans h.r0,(cd 1).trans h.r1,(cd 2).trans h.r2,(cd 3).trans h.r3,(cf 2).trans h.f2,(cf 3).trans h.f3⟩
theorem start_two (w:World) (q:Nat) (W1:World) (hW1:(w.alloc (.cells #[.int .u8 0, .string ⟨#[]⟩, .int .i64 0, .slice none 0 0] 51)).alloc (.cells #[.int .u8 q, .string ⟨#[]⟩, .int .i64 0, .slice none 0 0] 51)=W1) :
  Zero W1 w.heap.size∧Blk W1 (w.heap.size+1) q 0∧Below w.heap.size w W1:=by
 have hB:Below w.heap.size w W1:=by
  rw[← hW1]
  exact(((Below.refl _ _).alloc (Nat.le_refl _) _).alloc (by simp) _)
 subst hW1
 refine⟨⟨?_, ?_, ?_, ?_, ?_, ?_, ?_, ?_, ?_⟩,⟨?_, ?_, ?_, ?_, ?_, ?_, ?_⟩,hB⟩
 all_goals first|(simp[go_sem];done)|(simp[go_sem];omega)
section
variable (rb sb:Nat) (W:World) (t:Wf.Ty) (s:List UInt8) (w:World)
set_option maxRecDepth 20000 in
set_option maxHeartbeats 1000000 in
theorem enm_w (s1 s2:List UInt8) (b1 b2:Bool) (m:Nat) (hm:m≤999999) (hwant:∀ w2,Sn w2 rb sb s false→Calls Tryz.prog 113 #[ptr rb,tx [35]] w2 fun e w'=>e=.returned (.tuple #[])∧Sn w' rb sb s1 b1∧Beside rb w2 w') (hnum:∀ w2,Sn w2 rb sb s1 b1→Calls Tryz.prog 114 #[ptr rb, .int .i64 (200:Nat)] w2 fun e w'=>e=.returned (.int .i64 m)∧Sn w' rb sb s2 b2∧Beside rb w2 w') (ht:t.fields.length≤1000) (lo tb:Nat) (hW:Below W.heap.size W w) (hT:TyL W lo tb t) (h69:t.sort=69) (hWr:W.heap.size≤rb) (H:Sn w rb sb s false):Calls Tryz.prog 116 #[ptr rb,ptr tb] w fun e w'=>e=.returned (.agg #[.int .u8 69, .string ⟨#[]⟩, .int .i64 m, .slice none 0 0])∧Beside rb w w'∧Sn w' rb sb s2 (b2 || (t.field m).isNone):=by
 obtain⟨htb,c0⟩:=hT.sort
 rw[h69] at c0
 have HFD:=hid fun(w2:World) (hb:Below W.heap.size W w2)=>field t ht m lo tb W w2 hb hT
 have y0:w.cell? ⟨tb,0,none⟩=some (.int .u8 69):=(hW.cell (p:=⟨tb,0,none⟩) htb).trans c0
 have htw:tb<w.heap.size:=Nat.lt_of_lt_of_le htb hW.size
 have htw1:tb<w.heap.size+1:=by omega
 have HWANT:=hid hwant
 have HNUM:=hid hnum
 have HW:=hid hW
 have HH:=hid H
 have hrb:=H.lt
 have ST:=hid fun W1 h=>start_two w 69 W1 h
 clear hwant hnum hW H hT c0 h69
 cases hfi:t.field m with
 | none =>
  have HFD2:=hid fun(w2:World) (hb:Below W.heap.size W w2)=>(HFD.out w2 hb).mono (R:=fun e w'=>FieldOut W t m e∧w2=w') (R':=fun e w'=>e=.returned (.pointer none)∧w2=w') fun e w' h=>⟨FieldOut.no (W:=W) (t:=t) (g:=m) (e:=e) h.1 (by rw[fieldI_nat];exact hfi),h.2⟩
  clear hfi
  go_enter Tryz.func116,Tryz.ntmps116
  go_wp2_with (first|(go_at_call 40;refine(HFD2.out _ (Below.setCell BW2.out (p:=⟨w.heap.size+1,2,none⟩) (by have:=HW.out.size;show W.heap.size≤w.heap.size+1;omega) _)).mono ?_;rintro e w3 ⟨rfl,rfl⟩)|(go_at_call 114;refine(HNUM.out _ S1.out).mono ?_;rintro e w2 ⟨rfl,hs2,hb2⟩;have S2:=hid hs2;have HB2:=hid (HB1.out.trans hb2);have BW2:=hid (Beside.below HW.out HW.out.size hWr HB2.out);have Z2:=hid (Z1.out.step hb2 (by omega));have K2:=hid (K1.out.step hb2 (by omega));obtain⟨zl,zr0,zr1,zr2,zr3,zf0,zf1,zf2,zf3⟩:=Z2.out;obtain⟨kl,kr0,kr1,kr2,kr3,kf2,kf3⟩:=K2.out;have c2:=hs2.c2;have f2:=hs2.f2;have hlt:=hs2.lt;clear hs2 hb2)|(go_at_call 113;obtain⟨zz0,bk0,b0⟩:=ST.out _ rfl;refine(HWANT.out _ (HH.out.below b0)).mono ?_;rintro e w1 ⟨rfl,hs1,hb1⟩;have Z1:=hid (zz0.step hb1 (by omega));have K1:=hid (bk0.step hb1 (by omega));have S1:=hid hs1;have HB1:=hid ((Beside.of_below b0 (Nat.le_refl _)).trans hb1);clear zz0 bk0 b0 hs1 hb1))
  exact bodyPost_ret (v:=.agg #[.int .u8 69, .string ⟨#[]⟩, .int .i64 m, .slice none 0 0]) (by simp[results,Tryz.results116,go_sem, *]) rfl (by
   have sA:Sn (w2.setCell ⟨w.heap.size+1,2,none⟩ (.int .i64 m)) rb sb s2 b2:=S2.out.beside (Beside.set (w.heap.size+1) w2 2 _) (by omega)
   have hA:Beside rb w (w2.setCell ⟨w.heap.size+1,2,none⟩ (.int .i64 m)):=HB2.out.on (Beside.set (w.heap.size+1) w2 2 _) (by omega)
   have hR:∀ W4,Beside w.heap.size ((w2.setCell ⟨w.heap.size+1,2,none⟩ (.int .i64 m)).setCell ⟨rb,2,none⟩ (.bool true)) W4→(Ending.returned (.agg #[.int .u8 69, .string ⟨#[]⟩, .int .i64 m, .slice none 0 0])=.returned (.agg #[.int .u8 69, .string ⟨#[]⟩, .int .i64 m, .slice none 0 0])∧Beside rb w W4∧Sn W4 rb sb s2 (b2 || (none:Option Wf.Fd).isNone)):=fun W4 hb=>by
    refine⟨rfl,(hA.trans (Beside.set rb _ 2 _)).on hb (Nat.le_refl _), ?_⟩
    rw[Option.isNone_none,Bool.or_true]
    exact sA.fail.beside hb (by omega)
   refine hR _ ?_
   repeat (first|with_reducible exact Beside.refl _ _|with_reducible refine Beside.drew ?_|with_reducible refine Beside.trans ?_ (Beside.set _ _ _ _)))
 | some f =>
  have HFD2:=hid fun(w2:World) (hb:Below W.heap.size W w2)=>(HFD.out w2 hb).mono (R:=fun e w'=>FieldOut W t m e∧w2=w') (R':=fun e w'=>(∃ fb o,e=.returned (.pointer (some ⟨fb,o,none⟩)))∧w2=w') fun e w' h=>⟨let ⟨fb,o,he,_⟩:=FieldOut.yes (W:=W) (t:=t) (g:=m) (e:=e) (f:=f) h.1 (by rw[fieldI_nat];exact hfi);⟨fb,o,he⟩,h.2⟩
  clear hfi
  go_enter Tryz.func116,Tryz.ntmps116
  go_wp2_with (first|(go_at_call 40;refine(HFD2.out _ (Below.setCell BW2.out (p:=⟨w.heap.size+1,2,none⟩) (by have:=HW.out.size;show W.heap.size≤w.heap.size+1;omega) _)).mono ?_;rintro e w3 ⟨⟨fb,o,rfl⟩,rfl⟩)|(go_at_call 114;refine(HNUM.out _ S1.out).mono ?_;rintro e w2 ⟨rfl,hs2,hb2⟩;have S2:=hid hs2;have HB2:=hid (HB1.out.trans hb2);have BW2:=hid (Beside.below HW.out HW.out.size hWr HB2.out);have Z2:=hid (Z1.out.step hb2 (by omega));have K2:=hid (K1.out.step hb2 (by omega));obtain⟨zl,zr0,zr1,zr2,zr3,zf0,zf1,zf2,zf3⟩:=Z2.out;obtain⟨kl,kr0,kr1,kr2,kr3,kf2,kf3⟩:=K2.out;have c2:=hs2.c2;have f2:=hs2.f2;have hlt:=hs2.lt;clear hs2 hb2)|(go_at_call 113;obtain⟨zz0,bk0,b0⟩:=ST.out _ rfl;refine(HWANT.out _ (HH.out.below b0)).mono ?_;rintro e w1 ⟨rfl,hs1,hb1⟩;have Z1:=hid (zz0.step hb1 (by omega));have K1:=hid (bk0.step hb1 (by omega));have S1:=hid hs1;have HB1:=hid ((Beside.of_below b0 (Nat.le_refl _)).trans hb1);clear zz0 bk0 b0 hs1 hb1))
  exact bodyPost_ret (v:=.agg #[.int .u8 69, .string ⟨#[]⟩, .int .i64 m, .slice none 0 0]) (by simp[results,Tryz.results116,go_sem, *]) rfl (by
   have sA:Sn (w2.setCell ⟨w.heap.size+1,2,none⟩ (.int .i64 m)) rb sb s2 b2:=S2.out.beside (Beside.set (w.heap.size+1) w2 2 _) (by omega)
   have hA:Beside rb w (w2.setCell ⟨w.heap.size+1,2,none⟩ (.int .i64 m)):=HB2.out.on (Beside.set (w.heap.size+1) w2 2 _) (by omega)
   have hR:∀ W4,Beside w.heap.size (w2.setCell ⟨w.heap.size+1,2,none⟩ (.int .i64 m)) W4→(Ending.returned (.agg #[.int .u8 69, .string ⟨#[]⟩, .int .i64 m, .slice none 0 0])=.returned (.agg #[.int .u8 69, .string ⟨#[]⟩, .int .i64 m, .slice none 0 0])∧Beside rb w W4∧Sn W4 rb sb s2 (b2 || (some f).isNone)):=fun W4 hb=>by
    refine⟨rfl,hA.on hb (Nat.le_refl _), ?_⟩
    rw[Option.isNone_some,Bool.or_false]
    exact sA.beside hb (by omega)
   refine hR _ ?_
   repeat (first|with_reducible exact Beside.refl _ _|with_reducible refine Beside.drew ?_|with_reducible refine Beside.trans ?_ (Beside.set _ _ _ _)))
theorem ofType_enm (x:Wf.Sc) (n:Nat) (nm:List UInt8) (hs:s.length≤400) (hf:x.find nm=some t) (ht:t.fields.length≤1000) (lo tb:Nat) (hW:Below W.heap.size W w) (hT:TyL W lo tb t) (h69:t.sort=69) (hWr:W.heap.size≤rb) (H:Sn w rb sb s false):Calls Tryz.prog 116 #[ptr rb,ptr tb] w fun e w'=>RdOut (Wf.parse x (n+1) (.ref nm) s) s rb sb w e w':=by
 have fin:∀ (m:Nat) (s2:List UInt8) (bad:Bool),m≤999999→((bad=false∧Wf.parse x (n+1) (.ref nm) s=some (.mk 69 [] m [],s2))∨(bad=true∧Wf.parse x (n+1) (.ref nm) s=none∧s2.length≤s.length))→∀ e w',(e=.returned (.agg #[.int .u8 69, .string ⟨#[]⟩, .int .i64 m, .slice none 0 0])∧Beside rb w w'∧Sn w' rb sb s2 bad)→RdOut (Wf.parse x (n+1) (.ref nm) s) s rb sb w e w':=by
  rintro m s2 bad hm h e w' ⟨rfl,hb,hsn⟩
  refine⟨_, .mk 69 [] m [],s2,rfl,VC.leaf 69 [] m hm (by decide),hb, ?_⟩
  rcases h with⟨rfl,hp⟩|⟨rfl,hp,hl⟩
  ·exact .inl ⟨hp,hsn⟩
  ·exact .inr ⟨hp,Wf.bad_enm hm hl,hsn⟩
 have dl:∀ r:List UInt8,(r.dropWhile Wf.isDig).length≤r.length:=fun r=>(List.dropWhile_suffix _).length_le
 by_cases h35:s.head? = some 35
 ·obtain⟨r,rfl⟩:∃ r,s=35::r:=by
   cases s with
   | nil=>simp at h35
   | cons a r=>simp at h35;exact⟨r,by rw[h35]⟩
  have hr4:r.length≤400:=by simp at hs;omega
  cases hn:Wf.numTok 200 r with
  | none =>
   have h1:Wf.plainN (r.takeWhile Wf.isDig) 200=none:=by simpa[Wf.numTok] using hn
   refine(enm_w rb sb W t _ w r (r.dropWhile Wf.isDig) false true (numV (r.takeWhile Wf.isDig)) (numV_le _) (fun w2 h=>want_yes rb sb w2 [35] r h) (fun w2 h=>(number rb sb w2 r false 200 (by omega) (by omega) h).mono fun e w' h=>by rw[h1] at h;exact h) ht lo tb hW hT h69 hWr H).mono fun e w' h => ?_
   rw[Bool.true_or] at h
   exact fin _ _ true (numV_le _) (.inr ⟨rfl,Wf.parse_enm_num x n hf h69 hn,by have:=dl r;simp;omega⟩) e w' h
  | some y =>
   obtain⟨g,q⟩:=y
   have hg:=(Wf.numTok_some hn).2.1
   have hp:=Wf.parse_enm_tag x n hf h69 hn
   refine(enm_w rb sb W t _ w r q false false g (by omega) (fun w2 h=>want_yes rb sb w2 [35] r h) (fun w2 h=>number_yes rb sb w2 r q false 200 g (by omega) (by omega) h hn) ht lo tb hW hT h69 hWr H).mono fun e w' h => ?_
   cases hfi:t.field g with
   | none =>
    rw[hfi] at h hp
    exact fin g q true (by omega) (.inr ⟨rfl,by rw[hp];rfl,by have:=Wf.numTok_lt hn;simp;omega⟩) e w' h
   | some f =>
    rw[hfi] at h hp
    exact fin g q false (by omega) (.inl ⟨rfl,by rw[hp];rfl⟩) e w' h
 ·refine(enm_w rb sb W t s w s (s.dropWhile Wf.isDig) true true (numV (s.takeWhile Wf.isDig)) (numV_le _) (fun w2 h=>want_no rb sb w2 s [35] false h (.inr fun hp=>h35 ((pre1 35 s).1 hp))) (fun w2 h=>(number rb sb w2 s true 200 (by omega) (by omega) h).mono fun e w' h=>by rw[Bool.true_or] at h;exact h) ht lo tb hW hT h69 hWr H).mono fun e w' h => ?_
  rw[Bool.true_or] at h
  exact fin _ _ true (numV_le _) (.inr ⟨rfl,Wf.parse_enm_no x n hf h69 h35,dl s⟩) e w' h
end
end Go.Proofs.YtidjpalnmnehmaaGreatDoor
