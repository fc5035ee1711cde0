/- Packed by pack.py: Je. -/
import Derived.Test.YtmdacedmjbiekaaGreatDoorR32
import Derived.Test.YtmdacedmjbiekaaGreatDoorR34
namespace Go.Proofs.YtmdacedmjbiekaaGreatDoor
open Go.ChangeShapes Go.WideShapes Go.ChangeAt Go.RowKit Go.Lib
set_option linter.unusedVariables false
set_option linter.unusedSimpArgs false
def BothOut (l kt:List UInt8) (lo:Nat) (e:Ending) (w':World):Prop:=match kindOf l kt with
 | some y=>∃ sb,e=.returned (.tuple #[ptr sb,kV y.2, .bool true])∧ScL w' lo sb y.1
 | none=>∃ p a b c,e=.returned (.tuple #[.pointer p, .agg #[.string a, .string b, .string c], .bool false])
theorem RsOut.no {l:List UInt8} {lo:Nat} {e:Ending} {w':World} (h:RsOut l lo e w') (hl:Wf.schemaOf l=none):∃ p,e=.returned (.tuple #[.pointer p, .bool false]):=by
 unfold RsOut at h;rw[hl] at h;exact h
theorem RsOut.yes {l:List UInt8} {lo:Nat} {e:Ending} {w':World} {x:Wf.Sc} (h:RsOut l lo e w') (hl:Wf.schemaOf l=some x):∃ sb,e=.returned (.tuple #[ptr sb, .bool true])∧ScL w' lo sb x:=by
 unfold RsOut at h;rw[hl] at h;exact h
theorem ScL.keepB {w w':World} {lo sb rb:Nat} {x:Wf.Sc} (h:ScL w lo sb x) (hr:rb<lo) (hb:Beside rb w w'):ScL w' lo sb x:=h.keep hb.size fun y h1 h2=>hb.block y h2 (by omega)
set_option maxRecDepth 20000 in
set_option maxHeartbeats 1000000 in
theorem both_none (s kt:ByteArray) (m:Int) (w:World) (hm:ML m w) (hs:s.size≤1048576) (hsc:Wf.schemaOf s.data.toList=none):Calls Tryz.prog 37 #[.string s, .string kt] w fun e w'=>(∃ p,e=.returned (.tuple #[.pointer p, .agg #[tx [],tx [],tx []], .bool false]))∧Below w.heap.size w w':=by
 have HR:=hid fun o=>readSchema s m (w.alloc o) (hm.below ((Below.refl _ _).alloc (Nat.le_refl _) o)) hs
 have HSC:=hid hsc
 clear hm hsc
 go_enter Tryz.func37,Tryz.ntmps37
 go_wp2_with (go_at_call 61;refine(HR.out _).mono ?_;rintro e w2 ⟨ho,hb2⟩;obtain⟨p,rfl⟩:=ho.no HSC.out;have B2:=hid (((Below.refl w.heap.size w).alloc (Nat.le_refl _) (.cells #[tx [],tx [],tx []] 57)).trans (hb2.mono (by simp)));obtain⟨hc3,hc4⟩:=bcell hb2;have hz:w.heap.size<w2.heap.size:=(by have:=hb2.size;simp at this;omega);have e0:w2.cell? ⟨w.heap.size,0,none⟩=some (tx []):=(hb2.cell (p:=⟨w.heap.size,0,none⟩) (by simp)).trans (by simp);have e1:w2.cell? ⟨w.heap.size,1,none⟩=some (tx []):=(hb2.cell (p:=⟨w.heap.size,1,none⟩) (by simp)).trans (by simp);have e2:w2.cell? ⟨w.heap.size,2,none⟩=some (tx []):=(hb2.cell (p:=⟨w.heap.size,2,none⟩) (by simp)).trans (by simp);clear ho hb2)
 exact bodyPost_ret (v:=.tuple #[.pointer none, .agg #[tx [],tx [],tx []], .bool false]) (by simp[results,Tryz.results37,go_sem,e0,e1,e2]) rfl ⟨⟨_,rfl⟩,by have B:=B2.out;repeat (first|with_reducible exact B|with_reducible refine Below.drew ?_|with_reducible refine Below.setCell ?_ (by first|(simp;done)|(simp;omega)|omega) _|with_reducible refine Below.alloc ?_ (by first|exact B.size|(simp;done)|(simp;omega)|omega) _)⟩
set_option maxRecDepth 20000 in
set_option maxHeartbeats 1000000 in
theorem both_nokind (s kt:ByteArray) (m:Int) (w:World) (hm:ML m w) (hs:s.size≤1048576) (x:Wf.Sc) (hsc:Wf.schemaOf s.data.toList=some x) (hkt:kt.size≤1048576) (hk:Wf.parseK kt.data.toList=none):Calls Tryz.prog 37 #[.string s, .string kt] w fun e w'=>(∃ p a b c,e=.returned (.tuple #[.pointer p, .agg #[.string a, .string b, .string c], .bool false]))∧Below w.heap.size w w':=by
 have HR:=hid fun o=>readSchema s m (w.alloc o) (hm.below ((Below.refl _ _).alloc (Nat.le_refl _) o)) hs
 have HSC:=hid hsc
 have HK:=hid fun wz=>readKind_no kt hk wz (by omega)
 clear hm hsc
 go_enter Tryz.func37,Tryz.ntmps37
 go_wp2_with (first|(go_at_call 76;refine(HK.out _).mono ?_;rintro e w3 ⟨⟨ka,kb,kc,rfl⟩,hb3⟩;have HL3:=hid (HL2.out.below hb3);have HD3:=hid (HD2.out.trans (hb3.mono HD2.out.size));clear hb3)|(go_at_call 61;refine(HR.out _).mono ?_;rintro e w2 ⟨ho,hb2⟩;obtain⟨sb,rfl,hsl⟩:=ho.yes HSC.out;have HL2:=hid hsl;have HD2:=hid hb2;clear ho hb2 hsl))
 have hz3:w.heap.size<w3.heap.size:=by have:=HD3.out.size;simp at this;omega
 have B3:=hid (((Below.refl w.heap.size w).alloc (Nat.le_refl _) (.cells #[tx [],tx [],tx []] 57)).trans (HD3.out.mono (by simp)))
 have e0:w3.cell? ⟨w.heap.size,0,none⟩=some (tx []):=(HD3.out.cell (p:=⟨w.heap.size,0,none⟩) (by simp)).trans (by simp)
 have p0:w3.frozen? ⟨w.heap.size,0,none⟩=false:=(HD3.out.frozen (p:=⟨w.heap.size,0,none⟩) (by simp)).trans (by simp)
 have e1:w3.cell? ⟨w.heap.size,1,none⟩=some (tx []):=(HD3.out.cell (p:=⟨w.heap.size,1,none⟩) (by simp)).trans (by simp)
 have p1:w3.frozen? ⟨w.heap.size,1,none⟩=false:=(HD3.out.frozen (p:=⟨w.heap.size,1,none⟩) (by simp)).trans (by simp)
 have e2:w3.cell? ⟨w.heap.size,2,none⟩=some (tx []):=(HD3.out.cell (p:=⟨w.heap.size,2,none⟩) (by simp)).trans (by simp)
 have p2:w3.frozen? ⟨w.heap.size,2,none⟩=false:=(HD3.out.frozen (p:=⟨w.heap.size,2,none⟩) (by simp)).trans (by simp)
 have hne:¬ w3.heap.size=w.heap.size:=by omega
 have hne2:¬ w.heap.size=w3.heap.size:=by omega
 go_region
 all_goals go_wp2_with fail
 all_goals exact bodyPost_ret (v:=.tuple #[ptr sb, .agg #[.string ka, .string kb, .string kc], .bool false]) (by simp[results,Tryz.results37,go_sem,e0,e1,e2,p0,p1,p2,hne,hne2,hz3]) rfl ⟨⟨_,_,_,_,rfl⟩,by have B:=B3.out;repeat (first|with_reducible exact B|with_reducible refine Below.drew ?_|with_reducible refine Below.setCell ?_ (by first|(simp;done)|(simp;omega)|omega) _|with_reducible refine Below.alloc ?_ (by first|exact B.size|(simp;done)|(simp;omega)|omega) _)⟩
set_option maxRecDepth 20000 in
set_option maxHeartbeats 1000000 in
theorem both_kind (s kt:ByteArray) (m:Int) (w:World) (hm:ML m w) (hs:s.size≤1048576) (x:Wf.Sc) (hsc:Wf.schemaOf s.data.toList=some x) (hkt:kt.size≤1048576) (k:Wf.K) (hk:Wf.parseK kt.data.toList=some k):Calls Tryz.prog 37 #[.string s, .string kt] w fun e w'=>(∃ sb,e=.returned (.tuple #[ptr sb,kV k, .bool (Wf.hasRef x k)])∧ScL w' w.heap.size sb x)∧Below w.heap.size w w':=by
 have HR:=hid fun o=>readSchema s m (w.alloc o) (hm.below ((Below.refl _ _).alloc (Nat.le_refl _) o)) hs
 have HSC:=hid hsc
 have hK:=fun wz=>readKind_yes kt k hk wz (by omega)
 have hH:=fun lo sb W wz hW H=>has x lo sb k W wz hW H (by have:=kname_len k;have:=parseK_len hk;omega)
 obtain⟨SG,hSG⟩:∃ SG:ByteArray,(⟨k.signs.toArray⟩:ByteArray)=SG:=⟨_,rfl⟩
 obtain⟨BS,hBS⟩:∃ BS:ByteArray,(⟨k.base.toArray⟩:ByteArray)=BS:=⟨_,rfl⟩
 obtain⟨NM,hNM⟩:∃ NM:ByteArray,(⟨k.name.toArray⟩:ByteArray)=NM:=⟨_,rfl⟩
 simp only[kV,tx,hSG,hBS,hNM] at hK hH
 have hkv:kV k=.agg #[.string SG, .string BS, .string NM]:=by simp only[kV,tx,hSG,hBS,hNM]
 rw[hkv]
 obtain⟨r,hr⟩:∃ r,Wf.hasRef x k=r:=⟨_,rfl⟩
 rw[hr] at hH ⊢
 have HK:=hid hK
 have HH:=hid hH
 clear hm hsc hK hH hSG hBS hNM hkv hr hk
 go_enter Tryz.func37,Tryz.ntmps37
 go_wp2_with (first|(go_at_call 76;refine(HK.out _).mono ?_;rintro e w3 ⟨rfl,hb3⟩;have HL3:=hid (HL2.out.below hb3);have HD3:=hid (HD2.out.trans (hb3.mono HD2.out.size));clear hb3)|(go_at_call 61;refine(HR.out _).mono ?_;rintro e w2 ⟨ho,hb2⟩;obtain⟨sb,rfl,hsl⟩:=ho.yes HSC.out;have HL2:=hid hsl;have HD2:=hid hb2;clear ho hb2 hsl))
 have hz3:w.heap.size<w3.heap.size:=by have:=HD3.out.size;simp at this;omega
 have B3:=hid (((Below.refl w.heap.size w).alloc (Nat.le_refl _) (.cells #[tx [],tx [],tx []] 57)).trans (HD3.out.mono (by simp)))
 have e0:w3.cell? ⟨w.heap.size,0,none⟩=some (tx []):=(HD3.out.cell (p:=⟨w.heap.size,0,none⟩) (by simp)).trans (by simp)
 have p0:w3.frozen? ⟨w.heap.size,0,none⟩=false:=(HD3.out.frozen (p:=⟨w.heap.size,0,none⟩) (by simp)).trans (by simp)
 have e1:w3.cell? ⟨w.heap.size,1,none⟩=some (tx []):=(HD3.out.cell (p:=⟨w.heap.size,1,none⟩) (by simp)).trans (by simp)
 have p1:w3.frozen? ⟨w.heap.size,1,none⟩=false:=(HD3.out.frozen (p:=⟨w.heap.size,1,none⟩) (by simp)).trans (by simp)
 have e2:w3.cell? ⟨w.heap.size,2,none⟩=some (tx []):=(HD3.out.cell (p:=⟨w.heap.size,2,none⟩) (by simp)).trans (by simp)
 have p2:w3.frozen? ⟨w.heap.size,2,none⟩=false:=(HD3.out.frozen (p:=⟨w.heap.size,2,none⟩) (by simp)).trans (by simp)
 have hne:¬ w3.heap.size=w.heap.size:=by omega
 have hne2:¬ w.heap.size=w3.heap.size:=by omega
 go_region_with (go_at_call 77;refine(HH.out _ _ w3 _ (by have B:=Below.refl w3.heap.size w3;repeat (first|with_reducible exact B|with_reducible refine Below.drew ?_|with_reducible refine Below.setCell ?_ (by first|(simp;done)|(simp;omega)|omega) _|with_reducible refine Below.alloc ?_ (by first|exact B.size|(simp;done)|(simp;omega)|omega) _)) HL3.out).mono ?_;rintro e w4 ⟨rfl,hb4⟩;have D4:=Lib.hid (show Below (w3.heap.size+1) (w3.alloc (.cells #[.string SG, .string BS, .string NM] 57)) w4 from Below.trans (Below.refl _ _).drew (hb4.mono (by simp)));have z0:w4.cell? ⟨w.heap.size,0,none⟩=some (tx []):=(D4.out.cell (p:=⟨w.heap.size,0,none⟩) (by show w.heap.size<_;omega)).trans ((World.cell?_alloc_lt w3 _ _ hz3).trans e0);have y0:w4.frozen? ⟨w.heap.size,0,none⟩=false:=(D4.out.frozen (p:=⟨w.heap.size,0,none⟩) (by show w.heap.size<_;omega)).trans ((((Below.refl w3.heap.size w3).alloc (Nat.le_refl _) _).frozen (p:=⟨w.heap.size,0,none⟩) hz3).trans p0);have z1:w4.cell? ⟨w.heap.size,1,none⟩=some (tx []):=(D4.out.cell (p:=⟨w.heap.size,1,none⟩) (by show w.heap.size<_;omega)).trans ((World.cell?_alloc_lt w3 _ _ hz3).trans e1);have y1:w4.frozen? ⟨w.heap.size,1,none⟩=false:=(D4.out.frozen (p:=⟨w.heap.size,1,none⟩) (by show w.heap.size<_;omega)).trans ((((Below.refl w3.heap.size w3).alloc (Nat.le_refl _) _).frozen (p:=⟨w.heap.size,1,none⟩) hz3).trans p1);have z2:w4.cell? ⟨w.heap.size,2,none⟩=some (tx []):=(D4.out.cell (p:=⟨w.heap.size,2,none⟩) (by show w.heap.size<_;omega)).trans ((World.cell?_alloc_lt w3 _ _ hz3).trans e2);have y2:w4.frozen? ⟨w.heap.size,2,none⟩=false:=(D4.out.frozen (p:=⟨w.heap.size,2,none⟩) (by show w.heap.size<_;omega)).trans ((((Below.refl w3.heap.size w3).alloc (Nat.le_refl _) _).frozen (p:=⟨w.heap.size,2,none⟩) hz3).trans p2);have v0:w4.cell? ⟨w3.heap.size,0,none⟩=some (.string SG):=(D4.out.cell (p:=⟨w3.heap.size,0,none⟩) (by show w3.heap.size<_;omega)).trans (by simp);have v1:w4.cell? ⟨w3.heap.size,1,none⟩=some (.string BS):=(D4.out.cell (p:=⟨w3.heap.size,1,none⟩) (by show w3.heap.size<_;omega)).trans (by simp);have v2:w4.cell? ⟨w3.heap.size,2,none⟩=some (.string NM):=(D4.out.cell (p:=⟨w3.heap.size,2,none⟩) (by show w3.heap.size<_;omega)).trans (by simp);clear hb4)
 all_goals go_wp2_with fail
 all_goals exact bodyPost_ret (v:=.tuple #[ptr sb, .agg #[.string SG, .string BS, .string NM], .bool r]) (by simp[results,Tryz.results37,go_sem,z0,z1,z2]) rfl ⟨⟨sb,rfl,(HL3.out.mono (lo':=w.heap.size+1) (by simp)).keepB (rb:=w.heap.size) (Nat.lt_succ_self _) (by have E:Beside w.heap.size w3 w4:=Beside.of_below (((Below.refl w3.heap.size w3).alloc (Nat.le_refl _) (.cells #[.string SG, .string BS, .string NM] 57)).trans (D4.out.mono (Nat.le_succ _))) (Nat.le_refl _);repeat (first|with_reducible exact E|with_reducible refine Beside.drew ?_|with_reducible refine Beside.trans ?_ (Beside.set _ _ _ _))) |>.mono (Nat.le_succ _)⟩,by have B:=(B3.out.alloc B3.out.size (.cells #[.string SG, .string BS, .string NM] 57)).trans (D4.out.mono (by omega));repeat (first|with_reducible exact B|with_reducible refine Below.drew ?_|with_reducible refine Below.setCell ?_ (by first|(simp;done)|(simp;omega)|omega) _|with_reducible refine Below.alloc ?_ (by first|exact B.size|(simp;done)|(simp;omega)|omega) _)⟩
theorem both (s kt:ByteArray) (m:Int) (w:World) (hm:ML m w) (hs:s.size≤1048576) (hkt:kt.size≤1048576):Calls Tryz.prog 37 #[.string s, .string kt] w fun e w'=>BothOut s.data.toList kt.data.toList w.heap.size e w'∧Below w.heap.size w w':=by
 cases hsc:Wf.schemaOf s.data.toList with
 | none =>
  refine(both_none s kt m w hm hs hsc).mono fun e w' ⟨⟨p,he⟩,hb⟩=>⟨?_,hb⟩
  unfold BothOut kindOf;rw[hsc];exact⟨_,_,_,_,he⟩
 | some x =>
  cases hk:Wf.parseK kt.data.toList with
  | none =>
   refine(both_nokind s kt m w hm hs x hsc hkt hk).mono fun e w' ⟨he,hb⟩=>⟨?_,hb⟩
   unfold BothOut kindOf;rw[hsc];dsimp only;rw[hk];exact he
  | some k =>
   refine(both_kind s kt m w hm hs x hsc hkt k hk).mono fun e w' ⟨⟨sb,he,hl⟩,hb⟩=>⟨?_,hb⟩
   unfold BothOut kindOf;rw[hsc];dsimp only;rw[hk];dsimp only
   cases hr:Wf.hasRef x k with
   | true=>rw[if_pos rfl];exact⟨sb,by rw[he,hr],hl⟩
   | false=>rw[if_neg (by decide)];exact⟨_,_,_,_,by rw[he,hr];rfl⟩
def TnOut (l nm:List UInt8) (lo:Nat) (e:Ending) (w':World):Prop:=match typeIn l nm with
 | some y=>∃ sb tb,e=.returned (.tuple #[ptr sb,ptr tb, .bool true])∧ScL w' lo sb y.1∧TyL w' lo tb y.2
 | none=>e=.returned (.tuple #[.pointer none, .pointer none, .bool false])
set_option maxRecDepth 20000 in
set_option maxHeartbeats 1000000 in
theorem typeNamed (s nm:ByteArray) (m:Int) (w:World) (hm:ML m w) (hs:s.size≤1048576) (hn6:nm.size≤1048576):Calls Tryz.prog 45 #[.string s, .string nm] w fun e w'=>TnOut s.data.toList nm.data.toList w.heap.size e w'∧Below w.heap.size w w':=by
 have HR:=hid (readSchema s m w hm hs)
 clear hm
 cases hsc:Wf.schemaOf s.data.toList with
 | none =>
  have HSC:=hid hsc
  have HF:=hid (show typeIn s.data.toList nm.data.toList=none by unfold typeIn;rw[hsc])
  clear hsc
  go_enter Tryz.func45,Tryz.ntmps45
  go_wp2_with (go_at_call 61;refine HR.out.mono ?_;rintro e w2 ⟨ho,hb2⟩;obtain⟨p,rfl⟩:=ho.no HSC.out;have HB2:=hid hb2;clear ho hb2)
  exact bodyPost_ret (v:=.tuple #[.pointer none, .pointer none, .bool false]) (by simp[results,Tryz.results45,go_sem]) rfl ⟨by unfold TnOut;rw[HF.out],HB2.out⟩
 | some x =>
  have HSC:=hid hsc
  cases hf:x.find nm.data.toList with
  | none =>
   have HF:=hid (show typeIn s.data.toList nm.data.toList=none by unfold typeIn;rw[hsc];simp[hf])
   have HL:=hid fun lo sb w2 (H:ScL w2 lo sb x)=>(by
    obtain⟨mb,h1,h2,h3⟩:=H.named
    rcases h3 nm hn6 with⟨_,h4⟩|⟨t,b,h4,_⟩
    ·exact⟨mb,h1,h2,h4⟩
    ·exact absurd h4 (by rw[hf];simp):∃ mb,sb<w2.heap.size∧w2.cell? ⟨sb,1,none⟩=some (.map (some mb))∧∀ wz,Below w2.heap.size w2 wz→(Instr.lookup 129 (.map (some mb)) (.string nm) false).run Tryz.prog wz=.ok (.pointer none) wz)
   clear hsc hf
   go_enter Tryz.func45,Tryz.ntmps45
   go_wp2_with (go_at_call 61;refine HR.out.mono ?_;rintro e w2 ⟨ho,hb2⟩;obtain⟨sb,rfl,hsl⟩:=ho.yes HSC.out;obtain⟨mb,hsb,hc1,hl⟩:=HL.out _ _ _ hsl;have l0:=hl w2 (Below.refl _ _);have l1:=hl w2.drew (Below.refl _ _).drew;have HB2:=hid hb2;clear ho hb2 hsl hl)
   exact bodyPost_ret (v:=.tuple #[.pointer none, .pointer none, .bool false]) (by simp[results,Tryz.results45,go_sem]) rfl ⟨by unfold TnOut;rw[HF.out],HB2.out⟩
  | some t =>
   have HF:=hid (show typeIn s.data.toList nm.data.toList=some (x,t) by unfold typeIn;rw[hsc];simp[hf])
   have HL:=hid fun lo sb w2 (H:ScL w2 lo sb x)=>(by
    obtain⟨mb,h1,h2,h3⟩:=H.named
    rcases h3 nm hn6 with⟨h4,_⟩|⟨t',b,h4,h5,h6⟩
    ·rw[hf] at h4;cases h4
    ·rw[hf] at h4;obtain rfl:=Option.some.inj h4;exact⟨mb,b,h1,h2,h5,h6⟩:∃ mb b,sb<w2.heap.size∧w2.cell? ⟨sb,1,none⟩=some (.map (some mb))∧TyL w2 lo b t∧∀ wz,Below w2.heap.size w2 wz→(Instr.lookup 129 (.map (some mb)) (.string nm) false).run Tryz.prog wz=.ok (ptr b) wz)
   clear hsc hf
   go_enter Tryz.func45,Tryz.ntmps45
   go_wp2_with (go_at_call 61;refine HR.out.mono ?_;rintro e w2 ⟨ho,hb2⟩;obtain⟨sb,rfl,hsl⟩:=ho.yes HSC.out;obtain⟨mb,b,hsb,hc1,hT,hl⟩:=HL.out _ _ _ hsl;have l0:=hl w2 (Below.refl _ _);have l1:=hl w2.drew (Below.refl _ _).drew;have HT:=hid hT;have HSL:=hid hsl;have HB2:=hid hb2;clear ho hb2 hsl hl hT)
   go_region
   all_goals go_wp2_with fail
   all_goals exact bodyPost_ret (v:=.tuple #[ptr sb,ptr b, .bool true]) (by simp[results,Tryz.results45,go_sem]) rfl ⟨by unfold TnOut;rw[HF.out];exact⟨sb,b,rfl,HSL.out.below (Below.refl _ _).drew,HT.out.below (Below.refl _ _).drew⟩,HB2.out.drew⟩
end Go.Proofs.YtmdacedmjbiekaaGreatDoor
