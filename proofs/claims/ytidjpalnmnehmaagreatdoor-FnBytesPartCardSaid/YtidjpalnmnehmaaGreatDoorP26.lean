/- Packed. -/
import Derived.Test.YtidjpalnmnehmaaGreatDoorP25
set_option maxRecDepth 99999
set_option maxHeartbeats 40000000
set_option linter.all false
namespace Go.Proofs.YtidjpalnmnehmaaGreatDoor
open Go.ChangeShapes Go.WideShapes Go.ChangeAt Go.RowKit Go.Lib
def fW (l kt:List UInt8) (lo:Nat) (e:Ending) (w':World):Prop:=match aX l kt with
 | some y=>∃ sb,e=.returned (.tuple #[ptr sb,kV y.2,.bool true])/\ScL w' lo sb y.1
 | none=>∃ p a b c,e=.returned (.tuple #[.pointer p,.agg #[.string a,.string b,.string c],.bool false])
theorem cP.no {l:List UInt8} {lo:Nat} {e:Ending} {w':World} (h:cP l lo e w') (hl:Wf.schemaOf l=none):∃ p,e=.returned (.tuple #[.pointer p,.bool false]):=by
 unfold cP at h;rw[hl] at h;exact h
theorem cP.yes {l:List UInt8} {lo:Nat} {e:Ending} {w':World} {x:Wf.Sc} (h:cP l lo e w') (hl:Wf.schemaOf l=some x):∃ sb,e=.returned (.tuple #[ptr sb,.bool true])/\ScL w' lo sb x:=by
 unfold cP at h;rw[hl] at h;exact h
theorem ScL.a2G {w w':World} {lo sb rb:Nat} {x:Wf.Sc} (h:ScL w lo sb x) (hr:rb<lo) (hb:aA rb w w'):ScL w' lo sb x:=h.keep hb.size fun y h1 h2=>hb.block y h2 (by omega)
theorem zM (s kt:ByteArray) (m:Int) (w:World) (hm:ML m w) (hs:s.size<=1048576) (hsc:Wf.schemaOf s.data.toList=none):Calls Tryz.prog 31 #[.string s,.string kt] w fun e w'=>(∃ p,e=.returned (.tuple #[.pointer p,.agg #[tx [],tx [],tx []],.bool false]))/\Below w.heap.size w w':=by
 have HR:=hid fun o=>gV s m (w.alloc o) (hm.below ((Below.refl _ _).alloc (Nat.le_refl _) o)) hs;have HSC:=hid hsc;clear hm hsc;go_enter Tryz.func31,Tryz.ntmps31;go_wp2_with (go_at_call 44;refine(HR.out _).mono ?_;rintro e w2 ⟨ho,hb2⟩;obtain⟨p,rfl⟩:=ho.no HSC.out;have B2:=hid (((Below.refl w.heap.size w).alloc (Nat.le_refl _) (.cells #[tx [],tx [],tx []] 48)).trans (hb2.mono (by simp)));obtain⟨hc3,hc4⟩:=bcell hb2;have hz:w.heap.size<w2.heap.size:=(by have:=hb2.size;simp at this;omega);have e0:w2.cell? ⟨w.heap.size,0,none⟩=some (tx []):=(hb2.cell (p:=⟨w.heap.size,0,none⟩) (by simp)).trans (by simp);have e1:w2.cell? ⟨w.heap.size,1,none⟩=some (tx []):=(hb2.cell (p:=⟨w.heap.size,1,none⟩) (by simp)).trans (by simp);have e2:w2.cell? ⟨w.heap.size,2,none⟩=some (tx []):=(hb2.cell (p:=⟨w.heap.size,2,none⟩) (by simp)).trans (by simp);clear ho hb2)
 exact bodyPost_ret (v:=.tuple #[.pointer none,.agg #[tx [],tx [],tx []],.bool false]) (by simp[results,Tryz.results31,go_sem,e0,e1,e2]) rfl ⟨⟨_,rfl⟩,by have B:=B2.out;repeat (first|with_reducible exact B|with_reducible refine Below.drew ?_|with_reducible refine Below.setCell ?_ (by first|(simp;done)|(simp;omega)|omega) _|with_reducible refine Below.alloc ?_ (by first|exact B.size|(simp;done)|(simp;omega)|omega) _)⟩
theorem a3T (s kt:ByteArray) (m:Int) (w:World) (hm:ML m w) (hs:s.size<=1048576) (x:Wf.Sc) (hsc:Wf.schemaOf s.data.toList=some x) (hkt:kt.size<=1048576) (hk:Wf.aK kt.data.toList=none):Calls Tryz.prog 31 #[.string s,.string kt] w fun e w'=>(∃ p a b c,e=.returned (.tuple #[.pointer p,.agg #[.string a,.string b,.string c],.bool false]))/\Below w.heap.size w w':=by
 have HR:=hid fun o=>gV s m (w.alloc o) (hm.below ((Below.refl _ _).alloc (Nat.le_refl _) o)) hs;have HSC:=hid hsc;have HK:=hid fun wz=>kH kt hk wz (by omega);clear hm hsc;go_enter Tryz.func31,Tryz.ntmps31;go_wp2_with (first|(go_at_call 55;refine(HK.out _).mono ?_;rintro e w3 ⟨⟨ka,kb,kc,rfl⟩,hb3⟩;have HL3:=hid (HL2.out.below hb3);have HD3:=hid (HD2.out.trans (hb3.mono HD2.out.size));clear hb3)|(go_at_call 44;refine(HR.out _).mono ?_;rintro e w2 ⟨ho,hb2⟩;obtain⟨sb,rfl,hsl⟩:=ho.yes HSC.out;have HL2:=hid hsl;have HD2:=hid hb2;clear ho hb2 hsl))
 have hz3:w.heap.size<w3.heap.size:=by have:=HD3.out.size;simp at this;omega
 have B3:=hid (((Below.refl w.heap.size w).alloc (Nat.le_refl _) (.cells #[tx [],tx [],tx []] 48)).trans (HD3.out.mono (by simp)));have e0:w3.cell? ⟨w.heap.size,0,none⟩=some (tx []):=(HD3.out.cell (p:=⟨w.heap.size,0,none⟩) (by simp)).trans (by simp);have p0:w3.frozen? ⟨w.heap.size,0,none⟩=false:=(HD3.out.frozen (p:=⟨w.heap.size,0,none⟩) (by simp)).trans (by simp);have e1:w3.cell? ⟨w.heap.size,1,none⟩=some (tx []):=(HD3.out.cell (p:=⟨w.heap.size,1,none⟩) (by simp)).trans (by simp);have p1:w3.frozen? ⟨w.heap.size,1,none⟩=false:=(HD3.out.frozen (p:=⟨w.heap.size,1,none⟩) (by simp)).trans (by simp);have e2:w3.cell? ⟨w.heap.size,2,none⟩=some (tx []):=(HD3.out.cell (p:=⟨w.heap.size,2,none⟩) (by simp)).trans (by simp);have p2:w3.frozen? ⟨w.heap.size,2,none⟩=false:=(HD3.out.frozen (p:=⟨w.heap.size,2,none⟩) (by simp)).trans (by simp);have hne:¬ w3.heap.size=w.heap.size:=by omega
 have hne2:¬ w.heap.size=w3.heap.size:=by omega
 go_region
 all_goals go_wp2_with fail
 all_goals exact bodyPost_ret (v:=.tuple #[ptr sb,.agg #[.string ka,.string kb,.string kc],.bool false]) (by simp[results,Tryz.results31,go_sem,e0,e1,e2,p0,p1,p2,hne,hne2,hz3]) rfl ⟨⟨_,_,_,_,rfl⟩,by have B:=B3.out;repeat (first|with_reducible exact B|with_reducible refine Below.drew ?_|with_reducible refine Below.setCell ?_ (by first|(simp;done)|(simp;omega)|omega) _|with_reducible refine Below.alloc ?_ (by first|exact B.size|(simp;done)|(simp;omega)|omega) _)⟩
theorem a2H (s kt:ByteArray) (m:Int) (w:World) (hm:ML m w) (hs:s.size<=1048576) (x:Wf.Sc) (hsc:Wf.schemaOf s.data.toList=some x) (hkt:kt.size<=1048576) (k:Wf.K) (hk:Wf.aK kt.data.toList=some k):Calls Tryz.prog 31 #[.string s,.string kt] w fun e w'=>(∃ sb,e=.returned (.tuple #[ptr sb,kV k,.bool (Wf.aN x k)])/\ScL w' w.heap.size sb x)/\Below w.heap.size w w':=by
 have HR:=hid fun o=>gV s m (w.alloc o) (hm.below ((Below.refl _ _).alloc (Nat.le_refl _) o)) hs;have HSC:=hid hsc;have hK:=fun wz=>mG kt k hk wz (by omega);have hH:=fun lo sb W wz hW H=>has x lo sb k W wz hW H (by have:=fJ k;have:=fU hk;omega);obtain⟨SG,hSG⟩:∃ SG:ByteArray,(⟨k.signs.toArray⟩:ByteArray)=SG:=⟨_,rfl⟩;obtain⟨BS,hBS⟩:∃ BS:ByteArray,(⟨k.base.toArray⟩:ByteArray)=BS:=⟨_,rfl⟩;obtain⟨NM,hNM⟩:∃ NM:ByteArray,(⟨k.name.toArray⟩:ByteArray)=NM:=⟨_,rfl⟩;simp only[kV,tx,hSG,hBS,hNM] at hK hH;have hkv:kV k=.agg #[.string SG,.string BS,.string NM]:=by simp only[kV,tx,hSG,hBS,hNM]
 rw[hkv];obtain⟨r,hr⟩:∃ r,Wf.aN x k=r:=⟨_,rfl⟩;rw[hr] at hH ⊢;have HK:=hid hK;have HH:=hid hH;clear hm hsc hK hH hSG hBS hNM hkv hr hk;go_enter Tryz.func31,Tryz.ntmps31;go_wp2_with (first|(go_at_call 55;refine(HK.out _).mono ?_;rintro e w3 ⟨rfl,hb3⟩;have HL3:=hid (HL2.out.below hb3);have HD3:=hid (HD2.out.trans (hb3.mono HD2.out.size));clear hb3)|(go_at_call 44;refine(HR.out _).mono ?_;rintro e w2 ⟨ho,hb2⟩;obtain⟨sb,rfl,hsl⟩:=ho.yes HSC.out;have HL2:=hid hsl;have HD2:=hid hb2;clear ho hb2 hsl))
 have hz3:w.heap.size<w3.heap.size:=by have:=HD3.out.size;simp at this;omega
 have B3:=hid (((Below.refl w.heap.size w).alloc (Nat.le_refl _) (.cells #[tx [],tx [],tx []] 48)).trans (HD3.out.mono (by simp)));have e0:w3.cell? ⟨w.heap.size,0,none⟩=some (tx []):=(HD3.out.cell (p:=⟨w.heap.size,0,none⟩) (by simp)).trans (by simp);have p0:w3.frozen? ⟨w.heap.size,0,none⟩=false:=(HD3.out.frozen (p:=⟨w.heap.size,0,none⟩) (by simp)).trans (by simp);have e1:w3.cell? ⟨w.heap.size,1,none⟩=some (tx []):=(HD3.out.cell (p:=⟨w.heap.size,1,none⟩) (by simp)).trans (by simp);have p1:w3.frozen? ⟨w.heap.size,1,none⟩=false:=(HD3.out.frozen (p:=⟨w.heap.size,1,none⟩) (by simp)).trans (by simp);have e2:w3.cell? ⟨w.heap.size,2,none⟩=some (tx []):=(HD3.out.cell (p:=⟨w.heap.size,2,none⟩) (by simp)).trans (by simp);have p2:w3.frozen? ⟨w.heap.size,2,none⟩=false:=(HD3.out.frozen (p:=⟨w.heap.size,2,none⟩) (by simp)).trans (by simp);have hne:¬ w3.heap.size=w.heap.size:=by omega
 have hne2:¬ w.heap.size=w3.heap.size:=by omega
 go_region_with (go_at_call 56;refine(HH.out _ _ w3 _ (by have B:=Below.refl w3.heap.size w3;repeat (first|with_reducible exact B|with_reducible refine Below.drew ?_|with_reducible refine Below.setCell ?_ (by first|(simp;done)|(simp;omega)|omega) _|with_reducible refine Below.alloc ?_ (by first|exact B.size|(simp;done)|(simp;omega)|omega) _)) HL3.out).mono ?_;rintro e w4 ⟨rfl,hb4⟩;have D4:=Lib.hid (show Below (w3.heap.size+1) (w3.alloc (.cells #[.string SG,.string BS,.string NM] 48)) w4 from Below.trans (Below.refl _ _).drew (hb4.mono (by simp)));have z0:w4.cell? ⟨w.heap.size,0,none⟩=some (tx []):=(D4.out.cell (p:=⟨w.heap.size,0,none⟩) (by show w.heap.size<_;omega)).trans ((World.cell?_alloc_lt w3 _ _ hz3).trans e0);have y0:w4.frozen? ⟨w.heap.size,0,none⟩=false:=(D4.out.frozen (p:=⟨w.heap.size,0,none⟩) (by show w.heap.size<_;omega)).trans ((((Below.refl w3.heap.size w3).alloc (Nat.le_refl _) _).frozen (p:=⟨w.heap.size,0,none⟩) hz3).trans p0);have z1:w4.cell? ⟨w.heap.size,1,none⟩=some (tx []):=(D4.out.cell (p:=⟨w.heap.size,1,none⟩) (by show w.heap.size<_;omega)).trans ((World.cell?_alloc_lt w3 _ _ hz3).trans e1);have y1:w4.frozen? ⟨w.heap.size,1,none⟩=false:=(D4.out.frozen (p:=⟨w.heap.size,1,none⟩) (by show w.heap.size<_;omega)).trans ((((Below.refl w3.heap.size w3).alloc (Nat.le_refl _) _).frozen (p:=⟨w.heap.size,1,none⟩) hz3).trans p1);have z2:w4.cell? ⟨w.heap.size,2,none⟩=some (tx []):=(D4.out.cell (p:=⟨w.heap.size,2,none⟩) (by show w.heap.size<_;omega)).trans ((World.cell?_alloc_lt w3 _ _ hz3).trans e2);have y2:w4.frozen? ⟨w.heap.size,2,none⟩=false:=(D4.out.frozen (p:=⟨w.heap.size,2,none⟩) (by show w.heap.size<_;omega)).trans ((((Below.refl w3.heap.size w3).alloc (Nat.le_refl _) _).frozen (p:=⟨w.heap.size,2,none⟩) hz3).trans p2);have v0:w4.cell? ⟨w3.heap.size,0,none⟩=some (.string SG):=(D4.out.cell (p:=⟨w3.heap.size,0,none⟩) (by show w3.heap.size<_;omega)).trans (by simp);have v1:w4.cell? ⟨w3.heap.size,1,none⟩=some (.string BS):=(D4.out.cell (p:=⟨w3.heap.size,1,none⟩) (by show w3.heap.size<_;omega)).trans (by simp);have v2:w4.cell? ⟨w3.heap.size,2,none⟩=some (.string NM):=(D4.out.cell (p:=⟨w3.heap.size,2,none⟩) (by show w3.heap.size<_;omega)).trans (by simp);clear hb4)
 all_goals go_wp2_with fail
 all_goals exact bodyPost_ret (v:=.tuple #[ptr sb,.agg #[.string SG,.string BS,.string NM],.bool r]) (by simp[results,Tryz.results31,go_sem,z0,z1,z2]) rfl ⟨⟨sb,rfl,(HL3.out.mono (lo':=w.heap.size+1) (by simp)).a2G (rb:=w.heap.size) (Nat.lt_succ_self _) (by have E:aA w.heap.size w3 w4:=aA.aI (((Below.refl w3.heap.size w3).alloc (Nat.le_refl _) (.cells #[.string SG,.string BS,.string NM] 48)).trans (D4.out.mono (Nat.le_succ _))) (Nat.le_refl _);repeat (first|with_reducible exact E|with_reducible refine aA.drew ?_|with_reducible refine aA.trans ?_ (aA.set _ _ _ _))) |>.mono (Nat.le_succ _)⟩,by have B:=(B3.out.alloc B3.out.size (.cells #[.string SG,.string BS,.string NM] 48)).trans (D4.out.mono (by omega));repeat (first|with_reducible exact B|with_reducible refine Below.drew ?_|with_reducible refine Below.setCell ?_ (by first|(simp;done)|(simp;omega)|omega) _|with_reducible refine Below.alloc ?_ (by first|exact B.size|(simp;done)|(simp;omega)|omega) _)⟩
theorem both (s kt:ByteArray) (m:Int) (w:World) (hm:ML m w) (hs:s.size<=1048576) (hkt:kt.size<=1048576):Calls Tryz.prog 31 #[.string s,.string kt] w fun e w'=>fW s.data.toList kt.data.toList w.heap.size e w'/\Below w.heap.size w w':=by
 cases hsc:Wf.schemaOf s.data.toList with
 | none =>
  refine(zM s kt m w hm hs hsc).mono fun e w' ⟨⟨p,he⟩,hb⟩=>⟨?_,hb⟩;unfold fW aX;rw[hsc];exact⟨_,_,_,_,he⟩
 | some x =>
  cases hk:Wf.aK kt.data.toList with
  | none =>
   refine(a3T s kt m w hm hs x hsc hkt hk).mono fun e w' ⟨he,hb⟩=>⟨?_,hb⟩;unfold fW aX;rw[hsc];dsimp only;rw[hk];exact he
  | some k =>
   refine(a2H s kt m w hm hs x hsc hkt k hk).mono fun e w' ⟨⟨sb,he,hl⟩,hb⟩=>⟨?_,hb⟩;unfold fW aX;rw[hsc];dsimp only;rw[hk];dsimp only;cases hr:Wf.aN x k with
   | true=>rw[if_pos rfl];exact⟨sb,by rw[he,hr],hl⟩
   | false=>rw[if_neg (by decide)];exact⟨_,_,_,_,by rw[he,hr];rfl⟩
def dO (l nm:List UInt8) (lo:Nat) (e:Ending) (w':World):Prop:=match bC l nm with
 | some y=>∃ sb tb,e=.returned (.tuple #[ptr sb,ptr tb,.bool true])/\ScL w' lo sb y.1/\TyL w' lo tb y.2
 | none=>e=.returned (.tuple #[.pointer none,.pointer none,.bool false])
theorem kZ (s nm:ByteArray) (m:Int) (w:World) (hm:ML m w) (hs:s.size<=1048576) (hn6:nm.size<=1048576):Calls Tryz.prog 34 #[.string s,.string nm] w fun e w'=>dO s.data.toList nm.data.toList w.heap.size e w'/\Below w.heap.size w w':=by
 have HR:=hid (gV s m w hm hs);clear hm;cases hsc:Wf.schemaOf s.data.toList with
 | none =>
  have HSC:=hid hsc;have HF:=hid (show bC s.data.toList nm.data.toList=none by unfold bC;rw[hsc]);clear hsc;go_enter Tryz.func34,Tryz.ntmps34;go_wp2_with (go_at_call 44;refine HR.out.mono ?_;rintro e w2 ⟨ho,hb2⟩;obtain⟨p,rfl⟩:=ho.no HSC.out;have HB2:=hid hb2;clear ho hb2)
  exact bodyPost_ret (v:=.tuple #[.pointer none,.pointer none,.bool false]) (by simp[results,Tryz.results34,go_sem]) rfl ⟨by unfold dO;rw[HF.out],HB2.out⟩
 | some x =>
  have HSC:=hid hsc;cases hf:x.find nm.data.toList with
  | none =>
   have HF:=hid (show bC s.data.toList nm.data.toList=none by unfold bC;rw[hsc];simp[hf]);have HL:=hid fun lo sb w2 (H:ScL w2 lo sb x)=>(by
    obtain⟨mb,h1,h2,h3⟩:=H.named;rcases h3 nm hn6 with⟨_,h4⟩|⟨t,b,h4,_⟩
    ·exact⟨mb,h1,h2,h4⟩
    ·exact absurd h4 (by rw[hf];simp):∃ mb,sb<w2.heap.size/\w2.cell? ⟨sb,1,none⟩=some (.map (some mb))/\∀ wz,Below w2.heap.size w2 wz->(Instr.lookup 114 (.map (some mb)) (.string nm) false).run Tryz.prog wz=.ok (.pointer none) wz)
   clear hsc hf;go_enter Tryz.func34,Tryz.ntmps34;go_wp2_with (go_at_call 44;refine HR.out.mono ?_;rintro e w2 ⟨ho,hb2⟩;obtain⟨sb,rfl,hsl⟩:=ho.yes HSC.out;obtain⟨mb,hsb,hc1,hl⟩:=HL.out _ _ _ hsl;have l0:=hl w2 (Below.refl _ _);have l1:=hl w2.drew (Below.refl _ _).drew;have HB2:=hid hb2;clear ho hb2 hsl hl)
   exact bodyPost_ret (v:=.tuple #[.pointer none,.pointer none,.bool false]) (by simp[results,Tryz.results34,go_sem]) rfl ⟨by unfold dO;rw[HF.out],HB2.out⟩
  | some t =>
   have HF:=hid (show bC s.data.toList nm.data.toList=some (x,t) by unfold bC;rw[hsc];simp[hf]);have HL:=hid fun lo sb w2 (H:ScL w2 lo sb x)=>(by
    obtain⟨mb,h1,h2,h3⟩:=H.named;rcases h3 nm hn6 with⟨h4,_⟩|⟨t',b,h4,h5,h6⟩
    ·rw[hf] at h4;cases h4
    ·rw[hf] at h4;obtain rfl:=Option.some.inj h4;exact⟨mb,b,h1,h2,h5,h6⟩:∃ mb b,sb<w2.heap.size/\w2.cell? ⟨sb,1,none⟩=some (.map (some mb))/\TyL w2 lo b t/\∀ wz,Below w2.heap.size w2 wz->(Instr.lookup 114 (.map (some mb)) (.string nm) false).run Tryz.prog wz=.ok (ptr b) wz)
   clear hsc hf;go_enter Tryz.func34,Tryz.ntmps34;go_wp2_with (go_at_call 44;refine HR.out.mono ?_;rintro e w2 ⟨ho,hb2⟩;obtain⟨sb,rfl,hsl⟩:=ho.yes HSC.out;obtain⟨mb,b,hsb,hc1,hT,hl⟩:=HL.out _ _ _ hsl;have l0:=hl w2 (Below.refl _ _);have l1:=hl w2.drew (Below.refl _ _).drew;have HT:=hid hT;have HSL:=hid hsl;have HB2:=hid hb2;clear ho hb2 hsl hl hT)
   go_region
   all_goals go_wp2_with fail
   all_goals exact bodyPost_ret (v:=.tuple #[ptr sb,ptr b,.bool true]) (by simp[results,Tryz.results34,go_sem]) rfl ⟨by unfold dO;rw[HF.out];exact⟨sb,b,rfl,HSL.out.below (Below.refl _ _).drew,HT.out.below (Below.refl _ _).drew⟩,HB2.out.drew⟩

theorem dO.no {l nm:List UInt8} {lo:Nat} {e:Ending} {w':World} (h:dO l nm lo e w') (hl:bC l nm=none):e=.returned (.tuple #[.pointer none,.pointer none,.bool false]):=by
 unfold dO at h;rw[hl] at h;exact h
theorem dO.yes {l nm:List UInt8} {lo:Nat} {e:Ending} {w':World} {y:Wf.Sc × Wf.Ty} (h:dO l nm lo e w') (hl:bC l nm=some y):∃ sb tb,e=.returned (.tuple #[ptr sb,ptr tb,.bool true])/\ScL w' lo sb y.1/\TyL w' lo tb y.2:=by
 unfold dO at h;rw[hl] at h;exact h
theorem schemaSort_i (s nm:ByteArray) (m:Int) (w:World) (hm:ML m w) (hs:s.size<=1048576) (hn6:nm.size<=1048576):Calls Tryz.prog 15 #[.string s,.string nm] w fun e w'=>e=.returned (eA s.data.toList nm.data.toList)/\Below w.heap.size w w':=by
 have kc:=run_convert_lit (P:=Tryz.prog) 22 9 5 Tryz.underlying22 Tryz.underlying5 Tryz.underlying9;have HTN:=hid (kZ s nm m w hm hs hn6);clear hm;cases hty:bC s.data.toList nm.data.toList with
 | none =>
  have HTY:=hid hty;have HF:=hid (show eA s.data.toList nm.data.toList=.tuple #[tx [],.bool false] by unfold eA;rw[hty]);clear hty;go_enter Tryz.func15,Tryz.ntmps15;go_wp2_with (go_at_call 34;refine HTN.out.mono ?_;rintro e w2 ⟨ho,hb2⟩;obtain rfl:=ho.no HTY.out;have HB2:=hid hb2;clear ho hb2)
  go_ret2
  exact⟨by rw[HF.out];rfl,HB2.out⟩
 | some y =>
  obtain⟨x,t⟩:=y;have HTY:=hid hty;have HF:=hid (show eA s.data.toList nm.data.toList=.tuple #[tx [t.sort],.bool true] by unfold eA;rw[hty]);obtain⟨q,hq⟩:∃ q,t.sort.toNat=q:=⟨_,rfl⟩;have HQ:=hid hq;have HQ2:=hid (show UInt8.ofNat q=t.sort by rw[<-hq];simp);have kc1:=fun W a c h=>run_convert_one (P:=Tryz.prog) 22 9 5 Tryz.underlying22 Tryz.underlying5 Tryz.underlying9 W a c (q:Int) h;clear hty hq kc;go_enter Tryz.func15,Tryz.ntmps15;go_wp2_with (go_at_call 34;refine HTN.out.mono ?_;rintro e w2 ⟨ho,hb2⟩;obtain⟨sb,tb,rfl,hsl,hT⟩:=ho.yes HTY.out;obtain⟨htb,c0⟩:=hT.sort;rw[HQ.out] at c0;have HB2:=hid hb2;clear ho hb2 hsl hT)
  go_ret2
  exact⟨by rw[HF.out,<-HQ2.out];rfl,by have B:=HB2.out;repeat (first|with_reducible exact B|with_reducible refine Below.drew ?_|with_reducible refine Below.alloc ?_ (by first|exact B.size|(simp;done)|(simp;omega)|omega) _)⟩
theorem schemaTags_i (s nm:ByteArray) (m:Int) (w:World) (hm:ML m w) (hs:s.size<=1048576) (hn6:nm.size<=1048576):Calls Tryz.prog 20 #[.string s,.string nm] w fun e w'=>(∃ b v,e=.returned (.tuple #[v,.bool (bC s.data.toList nm.data.toList).isSome])/\w.heap.size<=b/\aH w' b v ((cX s.data.toList nm.data.toList).map fun(g:Nat)=>.int .i64 g))/\Below w.heap.size w w':=by
 have HTN:=hid (kZ s nm m w hm hs hn6);clear hm;cases hty:bC s.data.toList nm.data.toList with
 | none =>
  have HTY:=hid hty;have HF:=hid (show cX s.data.toList nm.data.toList=[] by unfold cX;rw[hty]);clear hty;go_enter Tryz.func20,Tryz.ntmps20;go_wp2_with (go_at_call 34;refine HTN.out.mono ?_;rintro e w2 ⟨ho,hb2⟩;obtain rfl:=ho.no HTY.out;have HB2:=hid hb2;clear ho hb2)
  go_ret2
  refine⟨⟨w.heap.size,.slice none 0 0,rfl,Nat.le_refl _,?_⟩,HB2.out⟩;rw[HF.out];exact⟨_,0,rfl,Nat.le_refl _,by unfold maxLen;omega,.inl rfl⟩
 | some y =>
  obtain⟨x,t⟩:=y;have HTY:=hid hty;have ht8:t.fields.length<=8:=by
   obtain⟨_,h2,_,h4⟩:=fL hty;exact(h2.tys _ h4).len
  have HF:=hid (show cX s.data.toList nm.data.toList=t.fields.map (·.tag) by unfold cX;rw[hty]);obtain⟨n,hn⟩:∃ n,t.fields.length=n:=⟨_,rfl⟩;have HN:=hid hn;rw[hn] at ht8;obtain⟨XS,hXS⟩:∃ XS:List Value,t.fields.map (fun f=>Value.int .i64 f.tag)=XS:=⟨_,rfl⟩;have HXS:=hid hXS;have HTP:=hid fun lo tb w2 (H:TyL w2 lo tb t)=>(by
   obtain⟨fb,a,c,h1,h2,h3,h4,h5⟩:=H.row;rw[hn] at h2 h3;exact⟨fb,a,c,h1,h2,h3,h4,hid h5⟩:∃ fb a c,tb<w2.heap.size/\w2.cell? ⟨tb,2,none⟩=some (.slice a n c)/\n<=c/\c<=maxLen/\Hid (∀ i (hi:i<t.fields.length),∃ o,a=some ⟨fb,o,none⟩/\FdAt w2 fb (o+i*6) t.sort t.fields[i]))
  clear hty hn hXS;go_enter Tryz.func20,Tryz.ntmps20;go_wp2_with (go_at_call 34;refine HTN.out.mono ?_;rintro e w2 ⟨ho,hb2⟩;obtain⟨sb,tb,rfl,hsl,hT⟩:=ho.yes HTY.out;obtain⟨fb,fa,fc,htb,c2,hnc,hcm,hrow⟩:=HTP.out _ _ _ hT;have HB2:=hid hb2;clear ho hb2 hsl hT)
  go_loopw [9,26] (fun v9 v26 wr=>∃ (k:Nat) (a':Option Addr) (c':Nat),v9=.slice a' k c'/\v26=.int .i64 k/\k<=n/\Hid (wr.ownsRow w2.heap.size 3 1 v9 k (XS.take k)/\Below w2.heap.size w2 wr)) (fun _ v _=>n-(RowKit.intOf v).toNat)
  case atStart=>exact⟨0,_,_,rfl,rfl,Nat.zero_le _,hid ⟨World.ownsRow_nil _ _ _ _,Below.refl _ _⟩⟩
  case round =>
   obtain⟨k,a',c',rfl,rfl,hk,hg⟩:=hrel;by_cases hlt:k<n
   ·have hkx:k<t.fields.length:=by rw[HN.out];exact hlt
    obtain⟨o,rfl,hfd⟩:=hrow.out k hkx;obtain⟨s2,s3,s4,s5,hfc⟩:=dW t.sort t.fields[k];have hf2:=hfd.2;rw[hfc] at hf2;have hfb:=hfd.1;have g:=fun j u hu=>(hg.out.2.cell (p:=⟨fb,o+k*6+j,none⟩) hfb).trans (hf2 j u hu);obtain⟨G,hG⟩:∃ G,(t.fields[k]).tag=G:=⟨_,rfl⟩;have g0:wr.cell? ⟨fb,o+k*6,none⟩=some (.int .i64 G):=(by rw[<-hG];exact g 0 _ rfl);have g1:=g 1 _ rfl;have g2:=g 2 _ rfl;have g3:=g 3 _ rfl;have g4:=g 4 _ rfl;have g5:=g 5 _ rfl;have HX:=hid (show XS.take (k+1)=XS.take k++[.int .i64 G] by
     rw[List.take_add_one,<-HXS.out,List.getElem?_map,List.getElem?_eq_getElem hkx,<-hG];rfl)
    obtain⟨i0,hi0,hz0,hz1,hz2⟩:=info_parts kQ;have HI0:=hid hi0;have HZ0:=hid hz0;have HZ1:=hid hz1;have HZ2:=hid hz2;have hsz:=hg.out.2.size;clear hG hi0 hz0 hz1 hz2 hfd hf2 g hfc;go_wp2_with (at_builtin;refine wpList_append_own_at _ rfl (.tmp 30) (.tmp 33) 32 rfl w2.heap.size 3 i0 (.int .i64 0) 1 8 Tryz.underlying32 HI0.out HZ0.out HZ1.out HZ2.out rfl (by decide) (.slice a' k c') k _ rfl ((hg.out.1.alloc _).alloc _) ⟨wr.heap.size+1,0,none⟩ 1 1 [.int .i64 G] rfl rfl ?hn ?h1 (by unfold maxLen;omega) (by omega) ?hb ?next)
    case hn=>simpa using nY (wr.alloc _) _ _
    case h1=>intro u hu;rw[List.mem_singleton.1 hu];rfl
    case hb=>simp;omega
    case next =>
     intro v1 w3 ho3 hg3 _ _;obtain⟨a2,c2,rfl⟩:=gL ho3;rw[<-HX.out] at ho3;have B3:=aW hg3 (fun g h=>(aT hg.out.1 g h).1) (by simp;omega);have HG:=hid (show w3.ownsRow w2.heap.size 3 1 (.slice a2 (k+1) c2) (k+1) (XS.take (k+1))/\Below w2.heap.size w2 w3 from⟨ho3,((hg.out.2.alloc hsz _).alloc (by simp;omega) _).trans B3⟩);clear ho3 hg3 B3;go_wp2;go_roundw
     case rel=>exact⟨k+1,a2,c2,rfl,by go_num,by omega,HG⟩
     case measure=>simp[RowKit.intOf];omega
   ·have hkn:k=n:=by omega
    subst hkn;have HG:=hid (show wr.ownsRow w2.heap.size 3 1 (.slice a' k c') ((cX s.data.toList nm.data.toList).map fun(g:Nat)=>Value.int .i64 g).length ((cX s.data.toList nm.data.toList).map fun(g:Nat)=>Value.int .i64 g) by
     have h:=hg.out.1;rw[List.take_of_length_le (by rw[<-HXS.out,List.length_map,HN.out];exact Nat.le_refl _),<-HXS.out] at h;rw[HF.out,List.map_map,List.length_map,HN.out];exact h)
    have HB:=hid (HB2.out.trans (hg.out.2.mono HB2.out.size));have hs2:=HB2.out.size;go_wp2;go_ret2
    obtain⟨b2,hb2,hr2⟩:=aH.bS HG.out;exact⟨⟨b2,_,rfl,by omega,hr2⟩,HB.out⟩

theorem bO.no {W:World} {t:Wf.Ty} {g:Int} {e:Ending} (h:bO W t g e) (hl:bB t g=none):e=.returned (.pointer none):=by
 unfold bO at h;rw[hl] at h;exact h
theorem bO.yes {W:World} {t:Wf.Ty} {g:Int} {e:Ending} {f:Wf.Fd} (h:bO W t g e) (hl:bB t g=some f):∃ fb o,e=.returned (.pointer (some ⟨fb,o,none⟩))/\FdAt W fb o t.sort f:=by
 unfold bO at h;rw[hl] at h;exact h
theorem wR (s nm:ByteArray) (g:Int) (m:Int) (w:World) (hm:ML m w) (hs:s.size<=1048576) (hn6:nm.size<=1048576):Calls Tryz.prog 21 #[.string s,.string nm,.int .i64 g] w fun e w'=>e=.returned (dE s.data.toList nm.data.toList g)/\Below w.heap.size w w':=by
 have HTN:=hid (kZ s nm m w hm hs hn6);clear hm;cases hty:bC s.data.toList nm.data.toList with
 | none =>
  have HTY:=hid hty;have HF:=hid (show dE s.data.toList nm.data.toList g=.tuple #[tx [],tx [],tx [],.bool false] by unfold dE;rw[hty]);clear hty;go_enter Tryz.func21,Tryz.ntmps21;go_wp2_with (go_at_call 34;refine HTN.out.mono ?_;rintro e w2 ⟨ho,hb2⟩;obtain rfl:=ho.no HTY.out;have HB2:=hid hb2;clear ho hb2)
  exact bodyPost_ret (v:=.tuple #[tx [],tx [],tx [],.bool false]) (by simp[results,Tryz.results21,go_sem]) rfl ⟨by rw[HF.out],HB2.out⟩
 | some y =>
  obtain⟨x,t⟩:=y;have HTY:=hid hty;obtain⟨_,hx,_,htm⟩:=fL hty;have htk:=hx.tys t htm;have HFD:=hid fun lo tb w2 (H:TyL w2 lo tb t)=>field t (by have:=htk.len;omega) g lo tb w2 w2 (Below.refl _ _) H;cases hfi:bB t g with
  | none =>
   have HFI:=hid hfi;have HF:=hid (show dE s.data.toList nm.data.toList g=.tuple #[tx [],tx [],tx [],.bool false] by unfold dE;rw[hty];dsimp only;rw[hfi]);clear hty hfi;go_enter Tryz.func21,Tryz.ntmps21;go_wp2_with (first|(go_at_call 40;refine(HFD.out _ _ _ HT.out).mono ?_;rintro e w3 ⟨ho,rfl⟩;obtain rfl:=ho.no HFI.out;clear ho)|(go_at_call 34;refine HTN.out.mono ?_;rintro e w2 ⟨ho,hb2⟩;obtain⟨sb,tb,rfl,hsl,hT⟩:=ho.yes HTY.out;have HT:=hid hT;have HB2:=hid hb2;clear ho hb2 hsl hT))
   exact bodyPost_ret (v:=.tuple #[tx [],tx [],tx [],.bool false]) (by simp[results,Tryz.results21,go_sem]) rfl ⟨by rw[HF.out],HB2.out⟩
  | some f =>
   have HFI:=hid hfi;obtain⟨N,hN⟩:∃ N:ByteArray,(⟨f.name.toArray⟩:ByteArray)=N:=⟨_,rfl⟩;by_cases h69:t.sort=69
   ·have HF:=hid (show dE s.data.toList nm.data.toList g=.tuple #[.string N,tx [],tx [],.bool true] by unfold dE;rw[hty];dsimp only;rw[hfi];dsimp only;rw[if_pos h69,<-hN])
    have HC:=hid fun lo tb W (H:TyL W lo tb t)=>(by
     have:=H.sort;rw[h69] at this;exact this:tb<W.heap.size/\W.cell? ⟨tb,0,none⟩=some (.int .u8 (69:UInt8).toNat))
    have HN1:=hid fun W fb o (H:FdAt W fb o t.sort f)=>(by
     obtain⟨_,_,_,_,h⟩:=dW t.sort f;have:=H.2 1 (tx f.name) (by rw[h];rfl);rw[tx,hN] at this;exact this:W.cell? ⟨fb,o+1,none⟩=some (.string N))
    clear hty hfi hN;go_enter Tryz.func21,Tryz.ntmps21;go_wp2_with (first|(go_at_call 40;refine(HFD.out _ _ _ HT.out).mono ?_;rintro e w3 ⟨ho,rfl⟩;obtain⟨fb,o,rfl,hfd⟩:=ho.yes HFI.out;have n1:=HN1.out _ _ _ hfd;clear ho hfd)|(go_at_call 34;refine HTN.out.mono ?_;rintro e w2 ⟨ho,hb2⟩;obtain⟨sb,tb,rfl,hsl,hT⟩:=ho.yes HTY.out;obtain⟨htb,c0⟩:=HC.out _ _ _ hT;have HT:=hid hT;have HB2:=hid hb2;clear ho hb2 hsl hT))
    exact bodyPost_ret (v:=.tuple #[.string N,tx [],tx [],.bool true]) (by simp[results,Tryz.results21,go_sem]) rfl ⟨by rw[HF.out],HB2.out⟩
   ·obtain⟨KT,hKT⟩:∃ KT:ByteArray,(⟨f.kind.text.toArray⟩:ByteArray)=KT:=⟨_,rfl⟩
    obtain⟨O,hO⟩:∃ O:ByteArray,(⟨(Wf.aL x f).toArray⟩:ByteArray)=O:=⟨_,rfl⟩;have HF:=hid (show dE s.data.toList nm.data.toList g=.tuple #[.string N,.string KT,.string O,.bool true] by unfold dE;rw[hty];dsimp only;rw[hfi];dsimp only;rw[if_neg h69,<-hN,<-hKT,<-hO]);have hfm:f∈t.fields:=(by unfold bB at hfi;exact List.mem_of_find?_eq_some hfi);have hkl:=eI (htk.fds f hfm);have hfr:=hx.refs t htm h69 f hfm;have hTX:=fun wz=>a6S f.kind (by omega) wz;have hOF:=fun lo sb fb o W wz hW H hf=>of x hx lo sb fb o t.sort f W wz hW H h69 hf hkl hfr;obtain⟨SG,hSG⟩:∃ SG:ByteArray,(⟨f.kind.signs.toArray⟩:ByteArray)=SG:=⟨_,rfl⟩;obtain⟨BS,hBS⟩:∃ BS:ByteArray,(⟨f.kind.base.toArray⟩:ByteArray)=BS:=⟨_,rfl⟩;obtain⟨NM,hNM⟩:∃ NM:ByteArray,(⟨f.kind.name.toArray⟩:ByteArray)=NM:=⟨_,rfl⟩;simp only[kV,tx,hSG,hBS,hNM,hKT] at hTX;simp only[tx,hO] at hOF;have HTX:=hid hTX;have HOF:=hid hOF;obtain⟨q,hq⟩:∃ q,t.sort.toNat=q:=⟨_,rfl⟩;have hq69:q≠69:=fun e=>h69 (UInt8.toNat_inj.1 (by rw[hq,e];rfl));have HQ:=hid hq;have HN1:=hid fun W fb o (H:FdAt W fb o t.sort f)=>(by
     have h:=H.2;have e0:fdC t.sort f=[.int .i64 f.tag,.string N,.string SG,.string BS,.string NM,tx f.given]:=(by unfold fdC;rw[if_neg h69,<-hN,<-hSG,<-hBS,<-hNM]);rw[e0] at h;exact⟨H.1,h 1 _ rfl,h 2 _ rfl,h 3 _ rfl,h 4 _ rfl⟩:fb<W.heap.size/\W.cell? ⟨fb,o+1,none⟩=some (.string N)/\W.cell? ⟨fb,o+2,none⟩=some (.string SG)/\W.cell? ⟨fb,o+3,none⟩=some (.string BS)/\W.cell? ⟨fb,o+4,none⟩=some (.string NM))
    clear hty hfi hN hKT hO hTX hOF hSG hBS hNM hq;go_enter Tryz.func21,Tryz.ntmps21;go_wp2_with (first|(go_at_call 40;refine(HFD.out _ _ _ HT.out).mono ?_;rintro e w3 ⟨ho,rfl⟩;obtain⟨fb,o,rfl,hfd⟩:=ho.yes HFI.out;obtain⟨hfb,n1,n2,n3,n4⟩:=HN1.out _ _ _ hfd;have HFA:=hid hfd;clear ho hfd)|(go_at_call 34;refine HTN.out.mono ?_;rintro e w2 ⟨ho,hb2⟩;obtain⟨sb,tb,rfl,hsl,hT⟩:=ho.yes HTY.out;obtain⟨htb,c0⟩:=hT.sort;rw[HQ.out] at c0;have HT:=hid hT;have HSL:=hid hsl;have HB2:=hid hb2;clear ho hb2 hsl hT))
    have F:=hid fun(wz:World) (hz:Below w2.heap.size w2 wz)=>(show wz.cell? ⟨fb,o+1,none⟩=some (.string N)/\wz.cell? ⟨fb,o+2,none⟩=some (.string SG)/\wz.cell? ⟨fb,o+3,none⟩=some (.string BS)/\wz.cell? ⟨fb,o+4,none⟩=some (.string NM) from⟨(hz.cell (p:=⟨fb,o+1,none⟩) hfb).trans n1,(hz.cell (p:=⟨fb,o+2,none⟩) hfb).trans n2,(hz.cell (p:=⟨fb,o+3,none⟩) hfb).trans n3,(hz.cell (p:=⟨fb,o+4,none⟩) hfb).trans n4⟩);go_region_held3 (fun w'=>w'.cell? ⟨fb,o+1,none⟩=some (.string N)/\w'.cell? ⟨fb,o+2,none⟩=some (.string SG)/\w'.cell? ⟨fb,o+3,none⟩=some (.string BS)/\w'.cell? ⟨fb,o+4,none⟩=some (.string NM)) (first|exact⟨k1,k2,k3,k4⟩|exact⟨d1,d2,d3,d4⟩|go_keep) (first|(go_at_call 41;refine(HTX.out _).mono ?_;rintro e w3 ⟨rfl,hb3⟩;have TD:=Lib.hid (show Below w2.heap.size w2 w3 by first|exact TS.out.trans (hb3.mono TS.out.size)|(refine Below.trans (b:=_) ?_ hb3;repeat (first|with_reducible exact Below.refl _ _|with_reducible refine Below.drew ?_)));obtain⟨d1,d2,d3,d4⟩:=F.out _ TD.out;clear hb3)|(go_at_call 42;refine(HOF.out _ _ _ _ w2 _ (by first|exact TD.out|(have B:=Below.refl w2.heap.size w2;repeat (first|with_reducible exact B|with_reducible refine Below.drew ?_))) HSL.out HFA.out).mono ?_;rintro e w4 ⟨rfl,hb4⟩;have TS:=Lib.hid (show Below w2.heap.size w2 w4 by first|exact TD.out.trans (hb4.mono TD.out.size)|(refine Below.trans (b:=_) ?_ hb4;repeat (first|with_reducible exact Below.refl _ _|with_reducible refine Below.drew ?_)));obtain⟨k1,k2,k3,k4⟩:=F.out _ TS.out;clear hb4))
    all_goals go_wp2_with fail
    all_goals exact bodyPost_ret (v:=.tuple #[.string N,.string KT,.string O,.bool true]) (by simp[results,Tryz.results21,go_sem]) rfl ⟨by rw[HF.out],by first|exact HB2.out.trans (TS.out.mono HB2.out.size)|exact HB2.out.trans (TD.out.mono HB2.out.size)⟩

theorem VC.one {W:World} {P:Nat->Prop} {b o:Nat} {cs:List Value} {v:Wf.V} (hv:VC W P v cs) (hb:P b) (hlt:b<W.heap.size) (hc:∀ j u,cs[j]? = some u->W.cell? ⟨b,o+j,none⟩=some u) (what:UInt8) (text:List UInt8) (tag:Nat) (hs:gR what tag [v]):VC W P (.mk what text tag [v]) [.int .u8 what.toNat,tx text,.int .i64 tag,.slice (some ⟨b,o,none⟩) 1 1]:=by
 simp only[VC,VCs];exact⟨some ⟨b,o,none⟩,1,rfl,Nat.le_refl _,by unfold maxLen;omega,hs,.inr ⟨b,o,rfl,hb,hlt,⟨cs,hv,hc⟩,trivial⟩⟩
structure Zero (wr:World) (b:Nat):Prop where
 lt:b<wr.heap.size
 r0:wr.cell? ⟨b,0,none⟩=some (.int .u8 0)
 r1:wr.cell? ⟨b,1,none⟩=some (.string ⟨#[]⟩)
 r2:wr.cell? ⟨b,2,none⟩=some (.int .i64 0)
 r3:wr.cell? ⟨b,3,none⟩=some (.slice none 0 0)
 f0:wr.frozen? ⟨b,0,none⟩=false
 f1:wr.frozen? ⟨b,1,none⟩=false
 f2:wr.frozen? ⟨b,2,none⟩=false
 f3:wr.frozen? ⟨b,3,none⟩=false
theorem Zero.same {wr w2:World} {b:Nat} (h:Zero wr b) (hs:wr.heap.size<=w2.heap.size) (h1:w2.heap[b]? = wr.heap[b]?):Zero w2 b:=by
 have cd:=fun o=>World.cell?_of_block (w:=wr) (w':=w2) (a:=⟨b,o,none⟩) h1;have cf:=fun o=>World.frozen?_of_block (w:=wr) (w':=w2) (a:=⟨b,o,none⟩) h1;exact⟨Nat.lt_of_lt_of_le h.lt hs,(cd 0).trans h.r0,(cd 1).trans h.r1,(cd 2).trans h.r2,(cd 3).trans h.r3,(cf 0).trans h.f0,(cf 1).trans h.f1,(cf 2).trans h.f2,(cf 3).trans h.f3⟩
theorem Zero.step {wr w2:World} {b rb:Nat} (h:Zero wr b) (hb:aA rb wr w2) (hr:b≠rb):Zero w2 b:=h.same hb.size (hb.block _ h.lt hr)
theorem Zero.below {wr w2:World} {b B:Nat} (h:Zero wr b) (hb:Below B wr w2) (hr:b<B):Zero w2 b:=h.same hb.size (hb.block _ hr)
theorem eQ (w:World):Zero (w.alloc (.cells #[.int .u8 0,.string ⟨#[]⟩,.int .i64 0,.slice none 0 0] 51)) w.heap.size:=by
 refine⟨?_,?_,?_,?_,?_,?_,?_,?_,?_⟩ <;> simp[go_sem]
section
variable (x:Wf.Sc) (rb sb:Nat) (W:World) (n:Nat) (t:Wf.Ty) (s:List UInt8) (w:World)
theorem lR (bad:Bool) (ht:t.fields.length<=1000) (hs:s.length<=400) (lo tb:Nat) (hW:Below W.heap.size W w) (hT:TyL W lo tb t) (hWr:W.heap.size<=rb) (H:Sn w rb sb s bad) (hno:¬ (bad=false/\∃ g q f,Wf.aO 200 s=some (g,61::q)/\t.field g=some f)):Calls Tryz.prog 145 #[ptr rb,ptr tb] w fun e w'=>aA rb w w'/\∃ r,e=.returned (.tuple #[.agg #[.int .u8 0,.string ⟨#[]⟩,.int .i64 0,.slice none 0 0],.pointer none])/\r.length<=s.length/\Sn w' rb sb r true:=by
 obtain⟨m,hm⟩:∃ m,numV (s.takeWhile Wf.aB)=m:=⟨_,rfl⟩;obtain⟨s1,hs1⟩:∃ s1,s.dropWhile Wf.aB=s1:=⟨_,rfl⟩;obtain⟨b1,hb1⟩:∃ b1,(bad || !(Wf.aG (s.takeWhile Wf.aB) 200).isSome)=b1:=⟨_,rfl⟩;have HNUM:=hid fun w2 (h:Sn w2 rb sb s bad)=>number rb sb w2 s bad 200 (by omega) (by omega) h;rw[hm,hs1,hb1] at HNUM;have HFD:=hid fun(w2:World) (hb:Below W.heap.size W w2)=>field t ht m lo tb W w2 hb hT;have HLE:=hid (show s1.length<=s.length by rw[<-hs1];exact(List.dropWhile_suffix _).length_le);have hkey:b1=false->∀ q,s1=61::q->bB t m=none:=fun h q hq=>by
  rw[h,Bool.or_eq_false_iff] at hb1;cases hp:Wf.aG (s.takeWhile Wf.aB) 200 with
  | none=>rw[hp] at hb1;simp at hb1
  | some g =>
   have hmg:m=g:=(by rw[<-hm];exact iH hp);have hnt:Wf.aO 200 s=some (g,61::q):=(by rw[Wf.aO,hp,hs1,hq];rfl);rw[hmg,eW];cases hf:t.field g with
   | none=>rfl
   | some f=>exact absurd ⟨hb1.1,g,q,f,hnt,hf⟩ hno
 have HW:=hid hW;have HH:=hid H;have hrb:=H.lt;have hmle:m<=999999:=by rw[<-hm];exact fZ _
 clear hno H hT hW hm hs1 hb1;by_cases hY:b1=false/\∃ q,s1=61::q
 ·obtain⟨rfl,q,rfl⟩:=hY
  have HFI:=hid (hkey rfl q rfl);have HL2:=hid (show q.length<=s.length by have:=HLE.out;simp at this;omega);clear hkey;have HFD2:=hid fun(w2:World) (hb:Below W.heap.size W w2)=>(HFD.out w2 hb).mono (R:=fun e w'=>bO W t m e/\w2=w') (R':=fun e w'=>e=.returned (.pointer none)/\w2=w') fun e w' h=>⟨bO.no (W:=W) (t:=t) (g:=m) (e:=e) h.1 HFI.out,h.2⟩;go_enter Tryz.func145,Tryz.ntmps145;go_wp2_with (first|(go_at_call 113;refine(bR rb sb _ [61] q S1.out).mono ?_;rintro e w3 ⟨rfl,hs3,hb3⟩;have HS3:=hid hs3;have HB3:=hid (HB1.out.trans hb3);have c2:=hs3.c2;have f2:=hs3.f2;have hlt:=hs3.lt;have ZZ3:=hid (ZZ.out.step hb3 (by omega));obtain⟨zl,zr0,zr1,zr2,zr3,zf0,zf1,zf2,zf3⟩:=ZZ3.out;clear hs3 hb3)|(go_at_call 40;refine(HFD2.out _ BW1.out).mono ?_;rintro e w2 ⟨rfl,rfl⟩)|(go_at_call 114;have b0:=(Below.refl w.heap.size w).alloc (Nat.le_refl _) (.cells #[.int .u8 0,.string ⟨#[]⟩,.int .i64 0,.slice none 0 0] 51);refine(HNUM.out _ (HH.out.below b0)).mono ?_;rintro e w1 ⟨rfl,hs1,hb1⟩;have B0:=hid b0;have S1:=hid hs1;have ZZ:=hid ((eQ w).step hb1 (by omega));have HB1:=hid ((aA.aI b0 (Nat.le_refl _)).trans hb1);have HB1a:=hid hb1;have BW1:=hid (aA.below HW.out HW.out.size hWr HB1.out);clear b0 hs1 hb1))
  exact bodyPost_ret (v:=.tuple #[.agg #[.int .u8 0,.string ⟨#[]⟩,.int .i64 0,.slice none 0 0],.pointer none]) (by simp[results,Tryz.results145,go_sem, *]) rfl (by
   refine(fun(wx W4:World) (sn:Sn wx rb sb q true) (hf:aA rb w wx) (hb:aA w.heap.size wx W4)=>⟨hf.on hb (Nat.le_refl _),q,rfl,HL2.out,sn.beside hb (by omega)⟩:∀ wx W4,Sn wx rb sb q true->aA rb w wx->aA w.heap.size wx W4->aA rb w W4/\∃ r,(Ending.returned (.tuple #[.agg #[.int .u8 0,.string ⟨#[]⟩,.int .i64 0,.slice none 0 0],.pointer none]))=.returned (.tuple #[.agg #[.int .u8 0,.string ⟨#[]⟩,.int .i64 0,.slice none 0 0],.pointer none])/\r.length<=s.length/\Sn W4 rb sb r true) (w3.setCell ⟨rb,2,none⟩ (.bool true)) _ HS3.out.fail (HB3.out.trans (aA.set _ _ _ _)) ?_;repeat (first|with_reducible exact aA.refl _ _|with_reducible refine aA.drew ?_|with_reducible refine aA.trans ?_ (aA.set _ _ _ _)))
 ·have HY:=hid (show b1=true\/¬ [61] <+: s1 by
   cases b1 with
   | true=>exact .inl rfl
   | false=>exact .inr fun⟨q,hq⟩=>hY ⟨rfl,q,hq.symm⟩)
  clear hkey hY;cases hfi:bB t m with
  | none =>
   have HFI:=hid hfi;clear hfi;have HFD2:=hid fun(w2:World) (hb:Below W.heap.size W w2)=>(HFD.out w2 hb).mono (R:=fun e w'=>bO W t m e/\w2=w') (R':=fun e w'=>e=.returned (.pointer none)/\w2=w') fun e w' h=>⟨bO.no (W:=W) (t:=t) (g:=m) (e:=e) h.1 HFI.out,h.2⟩;go_enter Tryz.func145,Tryz.ntmps145;go_wp2_with (first|(go_at_call 113;refine(bT rb sb _ s1 [61] b1 S1.out HY.out).mono ?_;rintro e w3 ⟨rfl,hs3,hb3⟩;have HS3:=hid hs3;have HB3:=hid (HB1.out.trans hb3);have c2:=hs3.c2;have f2:=hs3.f2;have hlt:=hs3.lt;have ZZ3:=hid (ZZ.out.step hb3 (by omega));obtain⟨zl,zr0,zr1,zr2,zr3,zf0,zf1,zf2,zf3⟩:=ZZ3.out;clear hs3 hb3)|(go_at_call 40;refine(HFD2.out _ BW1.out).mono ?_;rintro e w2 ⟨rfl,rfl⟩)|(go_at_call 114;have b0:=(Below.refl w.heap.size w).alloc (Nat.le_refl _) (.cells #[.int .u8 0,.string ⟨#[]⟩,.int .i64 0,.slice none 0 0] 51);refine(HNUM.out _ (HH.out.below b0)).mono ?_;rintro e w1 ⟨rfl,hs1,hb1⟩;have B0:=hid b0;have S1:=hid hs1;have ZZ:=hid ((eQ w).step hb1 (by omega));have HB1:=hid ((aA.aI b0 (Nat.le_refl _)).trans hb1);have HB1a:=hid hb1;have BW1:=hid (aA.below HW.out HW.out.size hWr HB1.out);clear b0 hs1 hb1))
   exact bodyPost_ret (v:=.tuple #[.agg #[.int .u8 0,.string ⟨#[]⟩,.int .i64 0,.slice none 0 0],.pointer none]) (by simp[results,Tryz.results145,go_sem, *]) rfl (by
    refine(fun(wx W4:World) (sn:Sn wx rb sb s1 true) (hf:aA rb w wx) (hb:aA w.heap.size wx W4)=>⟨hf.on hb (Nat.le_refl _),s1,rfl,HLE.out,sn.beside hb (by omega)⟩:∀ wx W4,Sn wx rb sb s1 true->aA rb w wx->aA w.heap.size wx W4->aA rb w W4/\∃ r,(Ending.returned (.tuple #[.agg #[.int .u8 0,.string ⟨#[]⟩,.int .i64 0,.slice none 0 0],.pointer none]))=.returned (.tuple #[.agg #[.int .u8 0,.string ⟨#[]⟩,.int .i64 0,.slice none 0 0],.pointer none])/\r.length<=s.length/\Sn W4 rb sb r true) (w3.setCell ⟨rb,2,none⟩ (.bool true)) _ HS3.out.fail (HB3.out.trans (aA.set _ _ _ _)) ?_;repeat (first|with_reducible exact aA.refl _ _|with_reducible refine aA.drew ?_|with_reducible refine aA.trans ?_ (aA.set _ _ _ _)))
  | some f =>
   have HFI:=hid hfi;clear hfi;have HFD2:=hid fun(w2:World) (hb:Below W.heap.size W w2)=>(HFD.out w2 hb).mono (R:=fun e w'=>bO W t m e/\w2=w') (R':=fun e w'=>(∃ fb o,e=.returned (.pointer (some ⟨fb,o,none⟩)))/\w2=w') fun e w' h=>⟨let ⟨fb,o,he,_⟩:=bO.yes (W:=W) (t:=t) (g:=m) (e:=e) h.1 HFI.out;⟨fb,o,he⟩,h.2⟩;go_enter Tryz.func145,Tryz.ntmps145;go_wp2_with (first|(go_at_call 113;refine(bT rb sb _ s1 [61] b1 S1.out HY.out).mono ?_;rintro e w3 ⟨rfl,hs3,hb3⟩;have HS3:=hid hs3;have HB3:=hid (HB1.out.trans hb3);have c2:=hs3.c2;have f2:=hs3.f2;have hlt:=hs3.lt;have ZZ3:=hid (ZZ.out.step hb3 (by omega));obtain⟨zl,zr0,zr1,zr2,zr3,zf0,zf1,zf2,zf3⟩:=ZZ3.out;clear hs3 hb3)|(go_at_call 40;refine(HFD2.out _ BW1.out).mono ?_;rintro e w2 ⟨⟨fb,o,rfl⟩,rfl⟩)|(go_at_call 114;have b0:=(Below.refl w.heap.size w).alloc (Nat.le_refl _) (.cells #[.int .u8 0,.string ⟨#[]⟩,.int .i64 0,.slice none 0 0] 51);refine(HNUM.out _ (HH.out.below b0)).mono ?_;rintro e w1 ⟨rfl,hs1,hb1⟩;have B0:=hid b0;have S1:=hid hs1;have ZZ:=hid ((eQ w).step hb1 (by omega));have HB1:=hid ((aA.aI b0 (Nat.le_refl _)).trans hb1);have HB1a:=hid hb1;have BW1:=hid (aA.below HW.out HW.out.size hWr HB1.out);clear b0 hs1 hb1))
   exact bodyPost_ret (v:=.tuple #[.agg #[.int .u8 0,.string ⟨#[]⟩,.int .i64 0,.slice none 0 0],.pointer none]) (by simp[results,Tryz.results145,go_sem, *]) rfl (by
    refine(fun(wx W4:World) (sn:Sn wx rb sb s1 true) (hf:aA rb w wx) (hb:aA w.heap.size wx W4)=>⟨hf.on hb (Nat.le_refl _),s1,rfl,HLE.out,sn.beside hb (by omega)⟩:∀ wx W4,Sn wx rb sb s1 true->aA rb w wx->aA w.heap.size wx W4->aA rb w W4/\∃ r,(Ending.returned (.tuple #[.agg #[.int .u8 0,.string ⟨#[]⟩,.int .i64 0,.slice none 0 0],.pointer none]))=.returned (.tuple #[.agg #[.int .u8 0,.string ⟨#[]⟩,.int .i64 0,.slice none 0 0],.pointer none])/\r.length<=s.length/\Sn W4 rb sb r true) (w3.setCell ⟨rb,2,none⟩ (.bool true)) _ HS3.out.fail (HB3.out.trans (aA.set _ _ _ _)) ?_;repeat (first|with_reducible exact aA.refl _ _|with_reducible refine aA.drew ?_|with_reducible refine aA.trans ?_ (aA.set _ _ _ _)))
def rT (x:Wf.Sc) (n:Nat) (t:Wf.Ty) (s:List UInt8) (rb sb:Nat) (W w:World) (e:Ending) (w':World):Prop :=
 aA rb w w'/\∃ cs f v r fb o,e=.returned (.tuple #[.agg cs.toArray,.pointer (some ⟨fb,o,none⟩)])/\f∈t.fields/\f.tag<=200/\FdAt W fb o t.sort f/\VC w' (fun b=>w.heap.size<=b) (.mk 61 [] f.tag [v]) cs/\((Wf.fieldTok t (fun k s=>Wf.parse x n k s) s=some (f,v,r)/\Sn w' rb sb r false)\/(Wf.fieldTok t (fun k s=>Wf.parse x n k s) s=none/\(∃ q,q.length+2<=s.length/\Wf.Badv q r v)/\Sn w' rb sb r true))
theorem a6T {w w4 W7:World} (hb:aA w.heap.size w4 W7) {B:Nat} {v:Wf.V} {cs:List Value} (hvc:VC w4 (fun b=>B<=b) v cs) (h:w.heap.size<B) {blk:Nat} (hlt:blk<W7.heap.size) (hblk:w.heap.size<=blk) (hc:∀ j u,cs[j]? = some u->W7.cell? ⟨blk,0+j,none⟩=some u) {tag:Nat} (ht:tag<=999999):VC W7 (fun b=>w.heap.size<=b) (.mk 61 [] tag [v]) [.int .u8 61,tx [],.int .i64 tag,.slice (some ⟨blk,0,none⟩) 1 1] :=
 VC.one (VC.keep (P:=fun b=>B<=b) (fun b hp hlt=>⟨by omega,hb.block b hlt (by omega)⟩) hb.size _ _ hvc) hblk hlt hc 61 [] tag ⟨ht,fun _=>.inr (.inr (.inl rfl)),fun _=>rfl⟩
theorem oB (f:Wf.Fd) (g:Nat) (q:List UInt8) (hn:Wf.aO 200 s=some (g,61::q)) (hf:t.field g=some f) (ht:t.fields.length<=1000) (hs:s.length<=400) (lo tb:Nat) (hW:Below W.heap.size W w) (hT:TyL W lo tb t) (hWr:W.heap.size<=rb) (H:Sn w rb sb s false) (h69:t.sort≠69) (IH:Reads x rb sb W n f.kind) (hq:q.length<n):Calls Tryz.prog 145 #[ptr rb,ptr tb] w fun e w'=>rT x n t s rb sb W w e w':=by
 have hg:g<=200:=(Wf.iG hn).2.1;obtain⟨hfm,hft⟩:=Wf.iD hf;have hql:q.length+2<=s.length:=by have:=Wf.iF hn;simp at this;omega
 have HNUM:=hid fun w2 (h:Sn w2 rb sb s false)=>pT rb sb w2 s (61::q) false 200 g (by omega) (by omega) h hn;have HFD:=hid fun(w2:World) (hb:Below W.heap.size W w2)=>(field t ht g lo tb W w2 hb hT).mono (R':=fun e w'=>(∃ fb o,e=.returned (.pointer (some ⟨fb,o,none⟩))/\FdAt W fb o t.sort f)/\w2=w') fun e w' h=>⟨bO.yes (W:=W) (t:=t) (g:=g) (e:=e) h.1 (by rw[eW];exact hf),h.2⟩;have HTK:=hid (show Wf.fieldTok t (fun k s=>Wf.parse x n k s) s=(Wf.parse x n f.kind q).map fun y=>(f,y.1,y.2) from Wf.nO t (fun k s=>Wf.parse x n k s) hn hf);obtain⟨SG,hSG⟩:∃ SG:ByteArray,(⟨f.kind.signs.toArray⟩:ByteArray)=SG:=⟨_,rfl⟩;obtain⟨BS,hBS⟩:∃ BS:ByteArray,(⟨f.kind.base.toArray⟩:ByteArray)=BS:=⟨_,rfl⟩;obtain⟨NM,hNM⟩:∃ NM:ByteArray,(⟨f.kind.name.toArray⟩:ByteArray)=NM:=⟨_,rfl⟩;have hkv:kV f.kind=.agg #[.string SG,.string BS,.string NM]:=by simp only[kV,tx,hSG,hBS,hNM]
 have hIH2:∀ (s:List UInt8) (w:World),Below W.heap.size W w->Sn w rb sb s false->s.length<n->s.length<=400->Calls Tryz.prog 74 #[ptr rb,.agg #[.string SG,.string BS,.string NM]] w fun e w'=>aQ (Wf.parse x n f.kind s) s rb sb w e w':=by rw[<-hkv];exact IH
 have HIH2:=hid hIH2;have HCL:=hid fun(fb o:Nat) (w2:World) (hb:Below W.heap.size W w2) (h:FdAt W fb o t.sort f)=>(show fb<w2.heap.size/\w2.cell? ⟨fb,o,none⟩=some (.int .i64 g)/\w2.cell? ⟨fb,o+2,none⟩=some (.string SG)/\w2.cell? ⟨fb,o+2+1,none⟩=some (.string BS)/\w2.cell? ⟨fb,o+2+2,none⟩=some (.string NM) by
  have e:fdC t.sort f=[.int .i64 f.tag,tx f.name,.string SG,.string BS,.string NM,tx f.given]:=by
   unfold fdC;rw[if_neg h69,<-hSG,<-hBS,<-hNM]
  have hc:=fun j u (hu:(fdC t.sort f)[j]? = some u)=>(hb.cell (p:=⟨fb,o+j,none⟩) h.1).trans (h.2 j u hu);rw[e] at hc;exact⟨Nat.lt_of_lt_of_le h.1 hb.size,by rw[<-hft];exact hc 0 _ rfl,hc 2 _ rfl,hc 3 _ rfl,hc 4 _ rfl⟩)
 have HW:=hid hW;have HH:=hid H;have HF:=hid (And.intro hfm hft);have hrb:=H.lt;clear hn hf hfm hft H hT hW hSG hBS hNM hkv hIH2 IH h69;go_enter Tryz.func145,Tryz.ntmps145;go_wp2_with (first|(go_at_call 74;refine(HIH2.out q _ BW3.out HS3.out hq (by omega)).mono ?_;rintro e w4 ⟨cs,v,r2,rfl,hvc,hbs,ho⟩;obtain⟨q2,g2,n2,c2,T2,a2,rfl⟩:=hvc.cK;have HVC:=hid hvc;have HO:=hid ho;have HB4:=hid hbs;have ZZ4:=hid (ZZ3.out.step hbs (by omega));obtain⟨yl,yr0,yr1,yr2,yr3,yf0,yf1,yf2,yf3⟩:=ZZ4.out;have BW4:=hid (aA.below BW3.out BW3.out.size hWr hbs);obtain⟨x1,x2,x3,x4,x5⟩:=HCL.out fb o w4 BW4.out HFA.out;clear hvc ho hbs)|(go_at_call 113;refine(bR rb sb _ [61] q S1.out).mono ?_;rintro e w3 ⟨rfl,hs3,hb3⟩;have HS3:=hid hs3;have HB3:=hid (HB1.out.trans hb3);have BW3:=hid (aA.below BW1.out BW1.out.size hWr hb3);have c2:=hs3.c2;have f2:=hs3.f2;have hlt:=hs3.lt;have ZZ3:=hid (ZZ.out.step hb3 (by omega));obtain⟨zl,zr0,zr1,zr2,zr3,zf0,zf1,zf2,zf3⟩:=ZZ3.out;obtain⟨k1,k2,k3,k4,k5⟩:=HCL.out fb o w3 BW3.out HFA.out;clear hs3 hb3)|(go_at_call 40;refine(HFD.out _ BW1.out).mono ?_;rintro e w2 ⟨⟨fb,o,rfl,hfa⟩,rfl⟩;have HFA:=hid hfa;clear hfa)|(go_at_call 114;have b0:=(Below.refl w.heap.size w).alloc (Nat.le_refl _) (.cells #[.int .u8 0,.string ⟨#[]⟩,.int .i64 0,.slice none 0 0] 51);refine(HNUM.out _ (HH.out.below b0)).mono ?_;rintro e w1 ⟨rfl,hs1,hb1⟩;have B0:=hid b0;have S1:=hid hs1;have ZZ:=hid ((eQ w).step hb1 (by omega));have HB1:=hid ((aA.aI b0 (Nat.le_refl _)).trans hb1);have HB1a:=hid hb1;have BW1:=hid (aA.below HW.out HW.out.size hWr HB1.out);clear b0 hs1 hb1))
 have hx1:fb<w4.heap.size+1:=Nat.lt_succ_of_lt x1;go_region
 all_goals (go_wp2_with fail)
 all_goals exact bodyPost_ret (v:=.tuple #[.agg #[.int .u8 61,.string ⟨#[]⟩,.int .i64 g,.slice (some ⟨w4.heap.size+1,0,none⟩) 1 1],.pointer (some ⟨fb,o,none⟩)]) (by simp[results,Tryz.results145,go_sem, *]) rfl (by
  have hR:∀ W7,aA w.heap.size w4 W7->w4.heap.size+1<W7.heap.size->(∀ j u,[Value.int .u8 q2,Value.string T2,Value.int .i64 g2,Value.slice a2 n2 c2][j]? = some u->W7.cell? ⟨w4.heap.size+1,0+j,none⟩=some u)->rT x n t s rb sb W w (.returned (.tuple #[.agg #[.int .u8 61,.string ⟨#[]⟩,.int .i64 g,.slice (some ⟨w4.heap.size+1,0,none⟩) 1 1],.pointer (some ⟨fb,o,none⟩)])) W7:=fun W7 hb hl hc=>by
   refine⟨(HB3.out.trans HB4.out).on hb (Nat.le_refl _),⟨[.int .u8 61,.string ⟨#[]⟩,.int .i64 g,.slice (some ⟨w4.heap.size+1,0,none⟩) 1 1],f,v,r2,fb,o,rfl,HF.out.1,by rw[HF.out.2];exact hg,HFA.out,by rw[HF.out.2];exact a6T hb HVC.out zl hl (by omega) hc (by omega),?_⟩⟩;rcases HO.out with⟨hp,hs4⟩|⟨hp,hbv,hs4⟩
   ·exact .inl ⟨by rw[HTK.out,hp];rfl,hs4.beside hb (by omega)⟩
   ·exact .inr ⟨by rw[HTK.out,hp];rfl,⟨q,hql,hbv⟩,hs4.beside hb (by omega)⟩
  refine hR _ ?_ ?_ ?_
  ·repeat (first|with_reducible exact aA.refl _ _|with_reducible refine aA.drew ?_|with_reducible refine aA.alloc ?_ _|with_reducible refine aA.trans ?_ (aA.set _ _ _ _))
  ·simp
  ·intro j u hu
   rcases j with _|_|_|_|j <;> simp at hu <;> subst hu <;> simp[go_sem])
theorem qX (h:¬ ∃ g q f,Wf.aO 200 s=some (g,61::q)/\t.field g=some f):Wf.fieldTok t (fun k s=>Wf.parse x n k s) s=none:=by
 cases hn:Wf.aO 200 s with
 | none=>exact Wf.mU t _ hn
 | some y =>
  obtain⟨g,r⟩:=y;by_cases hr:r.head? = some 61
  ·cases r with
   | nil=>simp at hr
   | cons a q =>
    simp at hr;subst hr;cases hf:t.field g with
    | none=>exact Wf.nU t _ hn hf
    | some f=>exact absurd ⟨g,q,f,hn,hf⟩ h
  ·exact Wf.qK t _ hn hr
end
