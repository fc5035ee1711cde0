/- Packed by pack.py: He2 Hf Kw Dr Ds La5 Dt Wb Wc Wd We La6 La7. -/
import Derived.Test.YtidjpalnmnehmaaGreatDoorE42
import Derived.Test.YtidjpalnmnehmaaGreatDoorE3
import Derived.Test.YtidjpalnmnehmaaGreatDoorE8
import Derived.Test.YtidjpalnmnehmaaGreatDoorE6
import Derived.Test.YtidjpalnmnehmaaGreatDoorE26
import Derived.Deep.RegionWith
import Derived.Deep.RegionHeld3
import Derived.Test.YtidjpalnmnehmaaGreatDoorE27
import Derived.Test.YtidjpalnmnehmaaGreatDoorE33
import Derived.Test.YtidjpalnmnehmaaGreatDoorE2
namespace Go.Proofs.YtidjpalnmnehmaaGreatDoor
open Go.ChangeShapes Go.WideShapes Go.ChangeAt Go.RowKit Go.Lib
set_option linter.unusedVariables false
set_option linter.unusedSimpArgs false
theorem flat_kid {l:List Wf.V} {v:Wf.V} (h:v∈l):v.print.length≤(Wf.commas (l.map Wf.V.print)).length:=Wf.commas_mem (List.mem_map.2 ⟨v,h,rfl⟩)
theorem lbytes {x:Wf.Sc}:∀ (n:Nat) (k:Wf.K) (v:Wf.V),Wf.Typed x n k v→∀ (P:Nat→Prop) (b:Nat) (W w:World),LV W P v b→Below W.heap.size W w→v.print.length≤10000→Calls Tryz.prog 30 #[ptr b] w fun e w'=>e=.returned (tx v.bytes)∧Below w.heap.size w w':=by
 intro n
 induction n with
 | zero=>intro k v h;exact h.elim
 | succ n ih =>
  intro k v h P b W w hL hW hlen
  have hbl:=Wf.bytes_len (n+1) k v h (by omega)
  obtain⟨hlt,kd,t,tv,kv,tb,kb,bs,c0,c1,c2,c3,r1,r2,hs,hk⟩:=hL.at (Wf.typed_ne h) hW
  cases k with
  | num =>
   obtain⟨m,hm,rfl⟩:=h
   simp only[Wf.V.what,Wf.V.text,shapeR] at hs
   obtain⟨h1,h2⟩:=kd_first hs.1
   rw[Wf.bytes_num]
   exact lb_num b ⟨kd.toArray⟩ w ⟨t.toArray⟩ m hm hs.2 hlt h1 h2 c0 c1
  | txt =>
   obtain⟨d,_,hd,rfl⟩:=h
   simp only[Wf.V.what,Wf.V.text,shapeR] at hs
   obtain⟨h1,h2⟩:=kd_first hs.1
   rw[Wf.bytes_txt]
   exact lb_txt b ⟨kd.toArray⟩ w ⟨t.toArray⟩ ⟨d.toArray⟩ hs.2 hd hlt h1 h2 c0 c1
  | flag =>
   rcases h with rfl|rfl
   all_goals simp only[Wf.V.what,Wf.V.text,shapeR] at hs
   all_goals obtain⟨h1,h2⟩:=kd_first hs.1
   ·rw[Wf.bytes_yes]
    exact lb_flag b ⟨kd.toArray⟩ w true hlt h1 h2 c0 (by rw[c1];congr 1;rw[hs.2];rfl)
   ·rw[Wf.bytes_no]
    exact lb_flag b ⟨kd.toArray⟩ w false hlt h1 h2 c0 (by rw[c1];congr 1;rw[hs.2];rfl)
  | list k =>
   obtain⟨l,h20,hl,rfl⟩:=h
   simp only[Wf.V.what,Wf.V.text,Wf.V.kids,shapeR] at hs hk
   obtain⟨h1,h2⟩:=kd_first hs.1
   rw[Wf.print_list] at hlen
   rw[Wf.print_list,Wf.bytes_list] at hbl
   have hcl:(Wf.commas (l.map Wf.V.print)).length≤10000:=by simp at hlen;omega
   have:=lb_list b ⟨kd.toArray⟩ w kb kv bs (l.map Wf.V.bytes) hlt h1 h2 c0 c3 r2 (by rw[hk.len,List.length_map]) (by rw[List.length_map];omega) (by simp only[List.length_append,List.length_cons,List.length_nil] at hbl hlen;omega) fun i g1 g2 wz hz=>by
    have g3:i<l.length:=by simpa using g2
    rw[List.getElem_map]
    exact ih k l[i] (hl _ (List.getElem_mem g3)) P bs[i] W wz (hk.get i g3 g1) (hW.trans (hz.mono hW.size)) (Nat.le_trans (flat_kid (List.getElem_mem g3)) hcl)
   rw[Wf.bytes_list]
   rw[List.length_map] at this
   exact this
  | opt k =>
   rcases h with rfl|⟨u,hu,rfl⟩
   ·simp only[Wf.V.what,Wf.V.text,Wf.V.kids,shapeR] at hs hk
    obtain⟨h1,h2⟩:=kd_first hs.1
    obtain rfl:=hk.none
    obtain⟨a,c,rfl,_,_⟩:=r2.form
    rw[Wf.bytes_none]
    exact lb_none b ⟨kd.toArray⟩ w c a hlt h1 h2 c0 c3
   ·simp only[Wf.V.what,Wf.V.text,Wf.V.kids,shapeR] at hs hk
    obtain⟨h1,h2⟩:=kd_first hs.1
    obtain⟨ub,rfl,hu2⟩:=hk.one
    obtain⟨a,c,rfl,hnc,hcm⟩:=r2.form
    obtain⟨o,rfl,hkb,_,_,ck⟩:=r2.get (i:=0) (by simp)
    rw[Wf.print_some] at hlen
    rw[Wf.print_some,Wf.bytes_some] at hbl
    simp only[List.length_cons] at hlen hbl
    rw[Wf.bytes_some]
    exact lb_some b ⟨kd.toArray⟩ w kb o ub c ⟨u.bytes.toArray⟩ hlt h1 h2 c0 c3 hkb ck hnc hcm (by show u.bytes.length≤_;omega) fun wz hz=>ih k u hu P ub W wz hu2 (hW.trans (hz.mono hW.size)) (by omega)
  | ref nm =>
   obtain⟨ty,hty,h⟩:=h
   rcases h with⟨_,f,hf,hf2,rfl⟩|⟨_,_,f,u,hf,hf2,hu,rfl⟩|⟨_,_,l,hasc,hl,rfl⟩
   ·simp only[Wf.V.what,Wf.V.text,Wf.V.kids,Wf.V.tag,shapeR] at hs hk r1
    obtain⟨h1,h2⟩:=kd_first hs.1
    have htl:t=[69]:=hs.2
    subst htl
    obtain rfl:=hk.none
    rw[Wf.bytes_enm]
    have r1':RowAt w tb tv ([f.tag].map ix):=by simpa[tagsOf] using r1
    refine lb_named b ⟨kd.toArray⟩ w ⟨[69].toArray⟩ ⟨(Wf.putN f.tag).toArray⟩ false (by rw[ByteArray.toList_eq];rfl) tb kb tv kv [f.tag] [] [] [Wf.putN f.tag] hlt h1 h2 c0 c1 c2 c3 r1' r2 rfl rfl (by simp) (by simp;omega) ?_ (by simp) ?_ ?_
    ·have:=(Wf.putN_len f.tag (by omega)).2;simp;omega
    ·intro i h1 h2
     obtain rfl:i=0:=by simp at h1;omega
     exact .inr ⟨by simp,rfl⟩
    ·intro i h1;simp at h1
   ·simp only[Wf.V.what,Wf.V.text,Wf.V.kids,Wf.V.tag,shapeR] at hs hk r1
    obtain⟨h1,h2⟩:=kd_first hs.1
    have htl:t=[85]:=hs.2
    subst htl
    obtain⟨ub,rfl,hu2⟩:=hk.one
    rw[Wf.print_uni] at hlen
    rw[Wf.bytes_uni] at hbl ⊢
    have hul:u.print.length≤10000:=by simp only[List.length_append,List.length_cons,List.length_nil] at hlen;omega
    have hub:=Wf.bytes_len n f.kind u hu (by omega)
    have r1':RowAt w tb tv ([f.tag].map ix):=by simpa[tagsOf] using r1
    refine lb_named b ⟨kd.toArray⟩ w ⟨[85].toArray⟩ ⟨(Wf.putN f.tag++(Wf.putN u.bytes.length++u.bytes)).toArray⟩ false (by rw[ByteArray.toList_eq];rfl) tb kb tv kv [f.tag] [ub] [u.bytes] [Wf.putN f.tag++(Wf.putN u.bytes.length++u.bytes)] hlt h1 h2 c0 c1 c2 c3 r1' r2 rfl rfl (by simp) (by simp;omega) ?_ (by simp) ?_ ?_
    ·have:=(Wf.putN_len f.tag (by omega)).2
     have:=(Wf.putN_len u.bytes.length (by omega)).2
     simp only[List.flatten_cons,List.flatten_nil,List.append_nil,List.length_append];omega
    ·intro i h1 h2
     obtain rfl:i=0:=by simp at h1;omega
     exact .inl ⟨by simp,by show u.bytes.length≤_;omega,rfl⟩
    ·intro i h1 h2 wz hz
     obtain rfl:i=0:=by simp at h1;omega
     exact ih f.kind u hu P ub W wz hu2 (hW.trans (hz.mono hW.size)) hul
   ·simp only[Wf.V.what,Wf.V.text,Wf.V.kids,Wf.V.tag,shapeR] at hs hk r1
    obtain⟨h1,h2⟩:=kd_first hs.1
    have htl:t=[82]:=hs.2
    subst htl
    rw[tags_rec] at r1
    have hk2:=hk.fields
    have hbs:bs.length=l.length:=by rw[hk2.len,List.length_map]
    rw[Wf.print_rec] at hlen
    rw[Wf.bytes_rec] at hbl ⊢
    have hcl:(Wf.commas ((l.map fun e=>Wf.V.mk 61 [] e.1.tag [e.2]).map Wf.V.print)).length≤10000:=by simp only[List.length_cons,List.length_append,List.length_nil] at hlen;omega
    have hpr:∀ e∈l,e.2.print.length≤10000:=fun e he=>by
     have h3:=Wf.commas_mem (l:=(l.map fun e=>Wf.V.mk 61 [] e.1.tag [e.2]).map Wf.V.print) (a:=(Wf.V.mk 61 [] e.1.tag [e.2]).print) (List.mem_map.2 ⟨_,List.mem_map.2 ⟨e,he,rfl⟩,rfl⟩)
     rw[Wf.print_tag] at h3
     simp only[List.length_append,List.length_cons] at h3
     omega
    have hll:l.length≤1000:=by
     have:=(Wf.typed_bok (n+1) (.ref nm) _ ⟨ty,hty, .inr (.inr ⟨‹_›,‹_›,l,hasc,hl,rfl⟩)⟩)
     cases this with
     | mk _ _ _ _ _ h6 _ _=>simpa using h6
    refine lb_named b ⟨kd.toArray⟩ w ⟨[82].toArray⟩ ⟨(((l.map fun(e:Wf.Fd × Wf.V)=>Wf.V.mk 61 [] e.1.tag [e.2]).map Wf.V.bytes).flatten++[0]).toArray⟩ true (by rw[ByteArray.toList_eq];rfl) tb kb tv kv (l.map fun e=>e.1.tag) bs (l.map fun e=>e.2.bytes) ((l.map fun e=>Wf.V.mk 61 [] e.1.tag [e.2]).map Wf.V.bytes) hlt h1 h2 c0 c1 c2 c3 r1 r2 (by rw[List.length_map,hbs]) (by simp) (by simpa using hll) (fun g hg => ?_) ?_ rfl ?_ ?_
    ·obtain⟨e,he,rfl⟩:=List.mem_map.1 hg
     have:=(hl e he).2.2.1
     omega
    ·rw[List.length_append] at hbl
     have hpl:(Wf.V.mk 82 [] 0 (l.map fun(e:Wf.Fd × Wf.V)=>Wf.V.mk 61 [] e.1.tag [e.2])).print.length≤10000:=by rw[Wf.print_rec];exact hlen
     omega
    ·intro i g1 g2
     have g3:i<l.length:=by simpa using g2
     have he:=List.getElem_mem g3
     have:=Wf.bytes_len n _ _ (hl _ he).2.2.2.1 (by have:=hpr _ he;omega)
     have:=hpr _ he
     refine .inl ⟨by simpa using g3,by simp only[List.getElem_map];omega, ?_⟩
     simp only[List.getElem_map]
     exact Wf.bytes_tag _ _
    ·intro i g1 g2 wz hz
     have g3:i<l.length:=by simpa using g2
     have g4:i<(l.map (·.2)).length:=by simpa using g3
     have hv:=hk2.get i g4 g1
     rw[List.getElem_map] at hv
     rw[List.getElem_map]
     exact ih (l[i]).1.kind (l[i]).2 (hl _ (List.getElem_mem g3)).2.2.2.1 P bs[i] W wz hv (hW.trans (hz.mono hW.size)) (hpr _ (List.getElem_mem g3))

set_option maxRecDepth 20000 in
set_option maxHeartbeats 1000000 in
theorem bytesPut_s (s kt v:ByteArray) (w:World) (hs:s.size≤1048576) (hv:v.size≤1048576):Calls Tryz.prog 12 #[.string s, .string kt, .string v] w fun e w'=>e=.returned (vfV (bytesVal s.data.toList kt.data.toList v.data.toList))∧Below w.heap.size w w':=by
 have HG:=hid (l4Of s kt v w hs hv)
 cases hvo:valOf s.data.toList kt.data.toList v.data.toList with
 | none =>
  have HD:=hid (show vfV (bytesVal s.data.toList kt.data.toList v.data.toList)=.tuple #[.string ⟨#[]⟩, .bool false] by unfold bytesVal;rw[hvo];rfl)
  have HO:=hid fun(e:Ending) (w':World) (h:LoOut s.data.toList kt.data.toList v.data.toList w.heap.size e w')=>(by unfold LoOut at h;rw[hvo] at h;exact h:∃ a n c p,e=.returned (.tuple #[.slice a n c, .pointer p, .bool false]))
  clear hvo
  go_enter Tryz.func12,Tryz.ntmps12
  go_wp2_with (go_at_call 29;refine HG.out.mono ?_;rintro e w2 ⟨ho,hb2⟩;obtain⟨a,n,c,p,rfl⟩:=HO.out _ _ ho;have HB2:=hid hb2;clear ho hb2)
  go_ret2
  exact⟨by rw[HD.out];rfl,HB2.out⟩
 | some y =>
  obtain⟨⟨x,k⟩,u⟩:=y
  obtain⟨_,hvi⟩:=valOf_some hvo
  obtain⟨hty,hsv,hlv⟩:=Wf.valIn_some hvi
  have hbv:bytesVal s.data.toList kt.data.toList v.data.toList=some u.bytes:=by unfold bytesVal;rw[hvo];rfl
  have hl:=bytesVal_len hbv
  obtain⟨R,hR⟩:∃ R:ByteArray,(⟨u.bytes.toArray⟩:ByteArray)=R:=⟨_,rfl⟩
  have hRs:R.size≤400:=by rw[← hR];exact hl
  have HD:=hid (show vfV (bytesVal s.data.toList kt.data.toList v.data.toList)=.tuple #[.string R, .bool true] by rw[hbv,← hR];rfl)
  have HBY:=hid fun(pb:Nat) (W wz:World) (hlv:LV W (fun z=>w.heap.size≤z) u pb) (hz:Below W.heap.size W wz)=>lbytes 12 k u hty _ pb W wz hlv hz (by rw[← hsv];omega)
  simp only[tx,hR] at HBY
  have HO:=hid fun(e:Ending) (w':World) (h:LoOut s.data.toList kt.data.toList v.data.toList w.heap.size e w')=>(by unfold LoOut at h;rw[hvo] at h;exact h:∃ b a c p,e=.returned (.tuple #[.slice a x.length c,ptr p, .bool true])∧ScSp w' w.heap.size b (.slice a x.length c) x∧LV w' (fun z=>w.heap.size≤z) u p)
  clear hvo hvi hty hbv hl hR hsv
  go_enter Tryz.func12,Tryz.ntmps12
  go_wp2_with (first|(go_at_call 30;have _u:=B3;refine(HBY.out _ w2 _ HLV.out HB23.out).mono ?_;rintro e w4 ⟨rfl,hb4⟩;have B4:=hid (below_join B3.out hb4);clear hb4)|(go_at_call 30;refine(HBY.out _ w2 _ HLV.out (Below.refl _ _)).mono ?_;rintro e w3 ⟨rfl,hb3⟩;have HB23:=hid hb3;have B3:=hid (below_join HB2.out hb3);clear hb3)|(go_at_call 29;refine HG.out.mono ?_;rintro e w2 ⟨ho,hb2⟩;obtain⟨b,a,c,p,rfl,_,hlv⟩:=HO.out _ _ ho;have HLV:=hid hlv;have HB2:=hid hb2;clear ho hb2 hlv))
  go_ret2
  exact⟨by rw[HD.out];rfl,B4.out⟩
end Go.Proofs.YtidjpalnmnehmaaGreatDoor

namespace Go.Proofs.YtidjpalnmnehmaaGreatDoor
open Go.ChangeShapes Go.WideShapes Go.ChangeAt Go.RowKit Go.Lib
set_option linter.unusedVariables false
end Go.Proofs.YtidjpalnmnehmaaGreatDoor

namespace Go.Proofs.YtidjpalnmnehmaaGreatDoor
open Go.ChangeShapes Go.WideShapes Go.ChangeAt Go.RowKit Go.Lib
set_option linter.unusedVariables false
set_option linter.unusedSimpArgs false

end Go.Proofs.YtidjpalnmnehmaaGreatDoor

namespace Go.Proofs.YtidjpalnmnehmaaGreatDoor
open Go.ChangeShapes Go.WideShapes Go.ChangeAt Go.RowKit Go.Lib
set_option linter.unusedVariables false
theorem ml_of (w:World) (h:w.ShapedOpen Tryz.prog):∃ m,ML m w:=Tryz.laysM145.s1_3 w h
theorem RowAt.lt {w:World} {b:Nat} {v:Value} {xs:List Value} (h:RowAt w b v xs):xs=[]∨b<w.heap.size:=by
 obtain⟨a,cap,h1,h2,h3,h4|⟨o,h5,h6,h7⟩⟩:=h
 ·exact .inl h4
 ·exact .inr h6
theorem ML.drewN {m:Int} {w:World} (h:ML m w) (n:Nat):ML m (w.drewN n):=h.below (bel_drewN (Below.refl _ _) n)
theorem ML.beside {m:Int} {w w':World} {rb:Nat} (h:ML m w) (hb:Beside rb w w') (hn:0≠rb):ML m w':=(hb.cell (p:=⟨0,0,none⟩) h.lt hn).trans h
theorem ML.ne {m:Int} {w:World} {k:Nat} (h:ML m w) (hk:w.heap.size≤k):0≠k:=by have:=h.lt;omega
end Go.Proofs.YtidjpalnmnehmaaGreatDoor

namespace Go.Proofs.YtidjpalnmnehmaaGreatDoor
open Go.ChangeShapes Go.WideShapes Go.ChangeAt Go.RowKit Go.Lib
set_option linter.unusedVariables false
set_option linter.unusedSimpArgs false



theorem kind_start (w:World) (SG BS NM:ByteArray):(w.alloc (.cells #[.string SG, .string BS, .string NM] 48)).cell? ⟨w.heap.size,0,none⟩=some (.string SG)∧(w.alloc (.cells #[.string SG, .string BS, .string NM] 48)).cell? ⟨w.heap.size,1,none⟩=some (.string BS)∧(w.alloc (.cells #[.string SG, .string BS, .string NM] 48)).cell? ⟨w.heap.size,2,none⟩=some (.string NM):=by
 refine⟨?_, ?_, ?_⟩ <;> simp[go_sem]
set_option maxRecDepth 20000 in
theorem record_no (sb:Nat) (SG BS NM:ByteArray) (w:World) (h:SG.toList.isEmpty=false∨(SG.toList.isEmpty=true∧(BS.toList==[64])=false)):Calls Tryz.prog 36 #[ptr sb, .agg #[.string SG, .string BS, .string NM]] w fun e w'=>e=.returned (.tuple #[.pointer none, .bool false])∧Below w.heap.size w w':=by
 rcases h with h|⟨h,h2⟩
 all_goals
  go_enter Tryz.func36,Tryz.ntmps36
  go_wp2_with fail
  all_goals exact bodyPost_ret (v:=.tuple #[.pointer none, .bool false]) (by simp[results,Tryz.results36,go_sem, *]) rfl ⟨rfl,(Below.refl _ _).alloc (Nat.le_refl _) _⟩
set_option maxRecDepth 20000 in
set_option maxHeartbeats 1000000 in
theorem record_yes (B:Bool) (sb mb tb q:Nat) (SG BS NM:ByteArray) (W w:World) (hW:Below W.heap.size W w) (hsb:sb<W.heap.size) (htb:tb<W.heap.size) (c1:W.cell? ⟨sb,1,none⟩=some (.map (some mb))) (t0:W.cell? ⟨tb,0,none⟩=some (.int .u8 q))
  (look:∀ wz,Below W.heap.size W wz→(Instr.lookup 114 (.map (some mb)) (.string NM) false).run Tryz.prog wz=.ok (ptr tb) wz) (hSG:SG.toList.isEmpty=true) (hSG2:SG.toList=[]) (hBS:BS.toList=[64]) (hq:((q:Int)==82)=B) :
  Calls Tryz.prog 36 #[ptr sb, .agg #[.string SG, .string BS, .string NM]] w fun e w'=>e=.returned (.tuple #[ptr tb, .bool B])∧Below w.heap.size w w':=by
 have HLK:=hid look
 obtain⟨k0,k1,k2⟩:=kind_start w SG BS NM
 have hBS2:(BS.toList==[64])=true:=by rw[hBS];rfl
 have B3:=hid (hW.alloc hW.size (.cells #[.string SG, .string BS, .string NM] 48))
 have BW3:=hid ((Below.refl w.heap.size w).alloc (Nat.le_refl _) (.cells #[.string SG, .string BS, .string NM] 48))
 have l0:=HLK.out _ B3.out
 have l1:=HLK.out _ B3.out.drew
 have m1:=(B3.out.cell (p:=⟨sb,1,none⟩) hsb).trans c1
 have u0:=(B3.out.cell (p:=⟨tb,0,none⟩) htb).trans t0
 have hsw:sb<w.heap.size:=Nat.lt_of_lt_of_le hsb hW.size
 have htw:tb<w.heap.size:=Nat.lt_of_lt_of_le htb hW.size
 clear look c1 t0 hBS
 cases B
 all_goals
  go_enter Tryz.func36,Tryz.ntmps36
  go_wp2_with fail
  obtain⟨W3,hW3⟩:∃ W3,w.alloc (.cells #[.string SG, .string BS, .string NM] 48)=W3:=⟨_,rfl⟩
  rw[hW3] at k0 k1 k2 B3 BW3 l0 l1 m1 u0
  rw[hW3]
  have hs3:w.heap.size<W3.heap.size:=by rw[← hW3];simp
  have hsb3:sb<W3.heap.size:=by omega
  have htb3:tb<W3.heap.size:=by omega
  clear hW3
  go_region_held3 (fun w'=>w'.cell? ⟨sb,1,none⟩=some (.map (some mb))∧w'.cell? ⟨w.heap.size,2,none⟩=some (.string NM)∧(Instr.lookup 114 (.map (some mb)) (.string NM) false).run Tryz.prog w'=.ok (ptr tb) w') (first|exact⟨m1,k2,l1⟩|go_keep) (fail)
  all_goals (go_wp2_with fail)
  all_goals (try go_quiet (fail))
  all_goals (go_wp2_with fail)
  all_goals exact bodyPost_ret (v:=.tuple #[ptr tb, .bool _]) (by simp[results,Tryz.results36,go_sem, *]) rfl ⟨rfl,by first|exact bdn BW3.out.drew _|exact bdn BW3.out _|exact BW3.out.drew⟩
theorem record (x:Wf.Sc) (hx:Wf.ScOk x) (lo sb:Nat) (k:Wf.K) (hk:KOk x k) (W w:World) (hsc:ScL W lo sb x) (hW:Below W.heap.size W w):Calls Tryz.prog 36 #[ptr sb,kV k] w fun e w'=>(match Wf.recTy x k with
  | some t=>∃ tb,e=.returned (.tuple #[ptr tb, .bool true])∧TyL W lo tb t
  | none=>∃ p,e=.returned (.tuple #[.pointer p, .bool false]))∧Below w.heap.size w w':=by
 cases k with
 | ref nm =>
  obtain⟨mb,hsz,hc1,hnm⟩:=hsc.named
  obtain⟨t,ht⟩:=Wf.hasRef_ref hk.ref
  have hnl:nm.length≤12:=by have:=kname_len (.ref nm);have h2:=hk.len;simp only[Wf.K.name] at this;omega
  rcases hnm ⟨nm.toArray⟩ (by rw[tx_size];omega) with⟨h0,_⟩|⟨t',b,h1,hT,hl⟩
  ·rw[show(⟨nm.toArray⟩:ByteArray).data.toList=nm from rfl,ht] at h0;cases h0
  rw[show(⟨nm.toArray⟩:ByteArray).data.toList=nm from rfl,ht] at h1
  obtain rfl:t=t':=Option.some.inj h1
  have hto:=hx.tys t (Wf.find_mem ht).1
  have hq:((t.sort.toNat:Int)==82)=decide (t.sort=82):=by
   rcases hto.sort with h|h|h <;> rw[h] <;> rfl
  refine(record_yes (decide (t.sort=82)) sb mb b t.sort.toNat ⟨#[]⟩ ⟨#[64]⟩ ⟨nm.toArray⟩ W w hW hsz hT.sort.1 hc1 hT.sort.2 hl (by rw[ByteArray.toList_eq];rfl) (by rw[ByteArray.toList_eq]) (by rw[ByteArray.toList_eq]) hq).mono fun e w' ⟨h1,h2⟩=>⟨?_,h2⟩
  have hr:Wf.recTy x (.ref nm)=if t.sort=82 then some t else none:=by simp only[Wf.recTy,ht,Option.bind_some]
  rw[hr]
  by_cases h82:t.sort=82
  ·rw[if_pos h82]
   rw[decide_eq_true h82] at h1
   exact⟨b,h1,hT⟩
  ·rw[if_neg h82]
   rw[decide_eq_false h82] at h1
   exact⟨_,h1⟩
 | num=>exact(record_no sb ⟨#[]⟩ ⟨#[110]⟩ ⟨#[]⟩ w (.inr ⟨by rw[ByteArray.toList_eq];rfl,by rw[ByteArray.toList_eq];rfl⟩)).mono fun e w' ⟨h1,h2⟩=>⟨⟨_,h1⟩,h2⟩
 | txt=>exact(record_no sb ⟨#[]⟩ ⟨#[116]⟩ ⟨#[]⟩ w (.inr ⟨by rw[ByteArray.toList_eq];rfl,by rw[ByteArray.toList_eq];rfl⟩)).mono fun e w' ⟨h1,h2⟩=>⟨⟨_,h1⟩,h2⟩
 | flag=>exact(record_no sb ⟨#[]⟩ ⟨#[102]⟩ ⟨#[]⟩ w (.inr ⟨by rw[ByteArray.toList_eq];rfl,by rw[ByteArray.toList_eq];rfl⟩)).mono fun e w' ⟨h1,h2⟩=>⟨⟨_,h1⟩,h2⟩
 | list k=>exact(record_no sb ⟨(Wf.K.signs (.list k)).toArray⟩ ⟨(Wf.K.base (.list k)).toArray⟩ ⟨(Wf.K.name (.list k)).toArray⟩ w (.inl (by rw[ByteArray.toList_eq];rfl))).mono fun e w' ⟨h1,h2⟩=>⟨⟨_,h1⟩,h2⟩
 | opt k=>exact(record_no sb ⟨(Wf.K.signs (.opt k)).toArray⟩ ⟨(Wf.K.base (.opt k)).toArray⟩ ⟨(Wf.K.name (.opt k)).toArray⟩ w (.inl (by rw[ByteArray.toList_eq];rfl))).mono fun e w' ⟨h1,h2⟩=>⟨⟨_,h1⟩,h2⟩

def RfdNo (e:Ending):Prop:=e=.returned (.tuple #[.pointer none, .agg #[.int .u8 0, .string ⟨#[]⟩, .int .i64 0, .slice none 0 0], .bool false])
def RfdOut (l kt s:List UInt8) (g:Int) (lo:Nat) (e:Ending) (w':World):Prop:=match valOf l kt s with
 | some y=>(match Wf.recFd y.1.1 y.1.2 g with
  | some f=>∃ fb o cs,e=.returned (.tuple #[.pointer (some ⟨fb,o,none⟩), .agg cs.toArray, .bool true])∧FdAt w' fb o 82 f∧VC w' (fun b=>lo≤b) y.2 cs
  | none=>RfdNo e)
 | none=>RfdNo e
theorem TyL.rowLo {w:World} {lo b:Nat} {t:Wf.Ty} (h:TyL w lo b t):∃ fb a c,lo≤fb∧b<w.heap.size∧w.cell? ⟨b,2,none⟩=some (.slice a t.fields.length c)∧t.fields.length≤c∧c≤maxLen∧∀ i (hi:i<t.fields.length),∃ o,a=some ⟨fb,o,none⟩∧FdAt w fb (o+i * 6) t.sort t.fields[i]:=by
 obtain⟨fb,a,c,line,_,hlo,hb,_,_,c2,_,hr⟩:=h
 have hl:t.fields.length≤c∧c≤maxLen:=by
  obtain⟨a',cap',e1,e2,e3,_⟩:=hr
  simp only[Value.slice.injEq] at e1
  rw[List.length_map] at e2
  omega
 refine⟨fb,a,c,hlo,hb,c2,hl.1,hl.2,fun i hi => ?_⟩
 obtain⟨o,ha,hfb,_,_,hcell⟩:=hr.get (i:=i) (by rw[List.length_map];exact hi)
 have e0:(t.fields.map (fdC t.sort))[i]'(by rw[List.length_map];exact hi)=fdC t.sort t.fields[i]:=by rw[List.getElem_map]
 rw[e0] at hcell
 refine⟨o,ha,hfb,fun j u hu=>hcell j u ?_ hu⟩
 have:=(List.getElem?_eq_some_iff.1 hu).1
 rw[fdC_len] at this
 exact this
def FieldLo (W:World) (t:Wf.Ty) (g:Int) (lo:Nat) (e:Ending):Prop:=match fieldI t g with
 | some f=>∃ fb o,e=.returned (.pointer (some ⟨fb,o,none⟩))∧FdAt W fb o t.sort f∧lo≤fb
 | none=>e=.returned (.pointer none)
set_option maxRecDepth 20000 in
set_option maxHeartbeats 1000000 in
theorem fieldLo (t:Wf.Ty) (ht:t.fields.length≤1000) (g:Int) (lo tb:Nat) (W w:World) (hW:Below W.heap.size W w) (hT:TyL W lo tb t):Calls Tryz.prog 40 #[ptr tb, .int .i64 g] w fun e w'=>FieldLo W t g lo e∧w=w':=by
 obtain⟨fb,a,c,hlo,hb,c2,hnc,hcm,hrow⟩:=hT.rowLo
 have HROW:=hid hrow
 obtain⟨n,hn⟩:∃ n,t.fields.length=n:=⟨_,rfl⟩
 have HN:=hid hn
 rw[hn] at ht c2 hnc
 have y2:=(hW.cell (p:=⟨tb,2,none⟩) hb).trans c2
 have HW:=hid hW
 clear hrow hn c2 hT
 go_enter Tryz.func40,Tryz.ntmps40
 go_wp2_with fail
 go_loop [11] (fun v=>∃ k:Nat,k≤n∧v=.int .i64 k∧Hid (∀ j (hj:j<t.fields.length),j<k→((t.fields[j]).tag:Int)≠g)) (fun v=>n-(RowKit.intOf v).toNat)
 case atStart=>exact⟨0,Nat.zero_le _,rfl,hid fun j hj h=>by omega⟩
 case round =>
  obtain⟨k,hk,rfl,hno⟩:=hrel
  by_cases hlt:k<n
  ·have hkx:k<t.fields.length:=by rw[HN.out];exact hlt
   obtain⟨o,rfl,hfd⟩:=HROW.out k hkx
   have HFD:=hid hfd
   have e0:(fdC t.sort t.fields[k])[0]? = some (.int .i64 (t.fields[k]).tag):=by
    obtain⟨_,_,_,_,h⟩:=fdC_form t.sort t.fields[k]
    rw[h];rfl
   have z0:w.cell? ⟨fb,o+k * 6,none⟩=some (.int .i64 (t.fields[k]).tag):=(HW.out.cell (p:=⟨fb,o+k * 6,none⟩) hfd.1).trans (hfd.2 0 _ e0)
   obtain⟨G,hG⟩:∃ G,(t.fields[k]).tag=G:=⟨_,rfl⟩
   rw[hG] at z0
   have HG:=hid hG
   clear hfd e0 hG
   cases hq:((G:Int)==g) with
   | true =>
    have HF:=hid (show fieldI t g=some t.fields[k] from fieldI_at hkx hno.out (by rw[HG.out];simpa using hq))
    have hge:(G:Int)=g:=by simpa using hq
    subst hge
    clear hq
    go_wp2_with fail
    go_ret
    exact⟨by unfold FieldLo;rw[HF.out];exact⟨fb,o+k * 6,rfl,HFD.out,hlo⟩,rfl⟩
   | false =>
    have hne:Hid ((G:Int)≠g):=hid (by simpa using hq)
    go_wp2_with fail
    go_round
    case rel=>exact⟨k+1,by omega,by go_num,hid fun j hj hjk=>by
     by_cases hj2:j=k
     ·subst hj2;rw[HG.out];exact hne.out
     ·exact hno.out j hj (by omega)⟩
    case measure=>simp[RowKit.intOf];omega
  ·have hkn:k=n:=by omega
   subst hkn
   have HF:=hid (show fieldI t g=none from fieldI_not fun j hj=>hno.out j hj (by rw[← HN.out];exact hj))
   go_wp2_with fail
   go_ret
   exact⟨by unfold FieldLo;rw[HF.out];rfl,rfl⟩
theorem FdAt.over {w w':World} {fb o lo:Nat} {q:UInt8} {f:Wf.Fd} (h:FdAt w fb o q f) (hlo:lo≤fb) (hb:Over lo w w'):FdAt w' fb o q f :=
 ⟨Nat.lt_of_lt_of_le h.1 hb.size,fun j u hu=>(World.cell?_of_block (w:=w) (w':=w') (a:=⟨fb,o+j,none⟩) (hb.block fb hlo h.1)).trans (h.2 j u hu)⟩
set_option maxRecDepth 20000 in
set_option maxHeartbeats 4000000 in
theorem recordField (s kt v:ByteArray) (g:Int) (m:Int) (w:World) (hm:ML m w) (hs:s.size≤1048576) (hkt:kt.size≤1048576) (hv:v.size≤1048576):Calls Tryz.prog 43 #[.string s, .string kt, .string v, .int .i64 g] w fun e w'=>RfdOut s.data.toList kt.data.toList v.data.toList g w.heap.size e w'∧Below w.heap.size w w':=by
 have W0:=(Below.refl w.heap.size w).alloc (Nat.le_refl _) (.cells #[.int .u8 0, .string ⟨#[]⟩, .int .i64 0, .slice none 0 0] 51)
 have HG:=hid (given s kt v m _ (hm.below W0) hs hkt hv)
 clear hm W0
 cases hvo:valOf s.data.toList kt.data.toList v.data.toList with
 | none =>
  have HO:=hid fun lo e w' (h:GivOut s.data.toList kt.data.toList v.data.toList lo e w')=>(by unfold GivOut at h;rw[hvo] at h;exact h:∃ p a b c,e=.returned (.tuple #[.pointer p, .agg #[.string a, .string b, .string c], .agg #[.int .u8 0, .string ⟨#[]⟩, .int .i64 0, .slice none 0 0], .bool false]))
  have HD:=hid fun(e:Ending) (w':World) (h:RfdNo e)=>(show RfdOut s.data.toList kt.data.toList v.data.toList g w.heap.size e w' by unfold RfdOut;rw[hvo];exact h)
  clear hvo
  go_enter Tryz.func43,Tryz.ntmps43
  go_wp2_with (go_at_call 27;refine HG.out.mono ?_;rintro e w2 ⟨ho,hb2⟩;obtain⟨p,a,b,c,rfl⟩:=HO.out _ _ _ ho;have Z2:=hid ((zero_new w).below hb2 (by simp));have HB2:=hid (below_join ((Below.refl w.heap.size w).alloc (Nat.le_refl _) _) hb2);obtain⟨zl,zr0,zr1,zr2,zr3,zf0,zf1,zf2,zf3⟩:=Z2.out;clear ho hb2)
  all_goals exact bodyPost_ret (v:=.tuple #[.pointer none, .agg #[.int .u8 0, .string ⟨#[]⟩, .int .i64 0, .slice none 0 0], .bool false]) (by simp[results,Tryz.results43,go_sem, *]) rfl ⟨HD.out _ _ rfl,by have B:=HB2.out;have hB:=B.size;repeat (first|with_reducible exact B|with_reducible refine Below.drew ?_|with_reducible refine Below.setCell ?_ (by first|(simp;done)|(simp;omega)) _|with_reducible refine Below.alloc ?_ (by first|exact B.size|(simp;omega)) _)⟩
 | some y =>
  obtain⟨⟨x,k⟩,u⟩:=y
  obtain⟨hko,hvi⟩:=valOf_some hvo
  obtain⟨hx,hk⟩:=kindOf_ok hko
  obtain⟨SG,hSG⟩:∃ SG:ByteArray,(⟨k.signs.toArray⟩:ByteArray)=SG:=⟨_,rfl⟩
  obtain⟨BS,hBS⟩:∃ BS:ByteArray,(⟨k.base.toArray⟩:ByteArray)=BS:=⟨_,rfl⟩
  obtain⟨NM,hNM⟩:∃ NM:ByteArray,(⟨k.name.toArray⟩:ByteArray)=NM:=⟨_,rfl⟩
  have hkv:kV k=.agg #[.string SG, .string BS, .string NM]:=by simp only[kV,tx,hSG,hBS,hNM]
  have HO:=hid fun lo e w' (h:GivOut s.data.toList kt.data.toList v.data.toList lo e w')=>(by unfold GivOut at h;rw[hvo] at h;dsimp only at h;rw[hkv] at h;exact h:∃ sb cs,e=.returned (.tuple #[ptr sb, .agg #[.string SG, .string BS, .string NM], .agg cs.toArray, .bool true])∧ScL w' lo sb x∧VC w' (fun b=>lo≤b) u cs)
  cases hrt:Wf.recTy x k with
  | none =>
   have HD:=hid fun(e:Ending) (w':World) (h:RfdNo e)=>(show RfdOut s.data.toList kt.data.toList v.data.toList g w.heap.size e w' by unfold RfdOut;rw[hvo];dsimp only;rw[show Wf.recFd x k g=none by unfold Wf.recFd;rw[hrt];rfl];exact h)
   have HR:=hid fun(lo sb:Nat) (W wz:World) (hsc:ScL W lo sb x) (hz:Below W.heap.size W wz)=>(by
    have h:=record x hx lo sb k hk W wz hsc hz
    rw[hrt,hkv] at h
    exact h:Calls Tryz.prog 36 #[ptr sb, .agg #[.string SG, .string BS, .string NM]] wz fun e w'=>(∃ p,e=.returned (.tuple #[.pointer p, .bool false]))∧Below wz.heap.size wz w')
   clear hvo hko hvi hSG hBS hNM hkv hrt
   go_enter Tryz.func43,Tryz.ntmps43
   go_wp2_with (first|(go_at_call 36;refine(HR.out _ _ _ _ HSC.out (by first|exact((Below.refl _ _).alloc (Nat.le_refl _) _).alloc (by simp) _)).mono ?_;rintro e w3 ⟨⟨p,rfl⟩,hb3⟩;have HB3:=hid (below_join ((HB2.out.alloc HB2.out.size _).alloc (by have:=HB2.out.size;simp;omega) _) hb3);obtain⟨zl,zr0,zr1,zr2,zr3,zf0,zf1,zf2,zf3⟩:=(Z2.out.below (((Below.refl w2.heap.size w2).alloc (Nat.le_refl _) _).alloc (by simp) _) Z2.out.lt).below hb3 (by have:=Z2.out.lt;simp;omega);clear hb3)|(go_at_call 27;refine HG.out.mono ?_;rintro e w2 ⟨ho,hb2⟩;obtain⟨sb,cs,rfl,hsc,hvc⟩:=HO.out _ _ _ ho;obtain⟨q,gg,n,d,T,sa,rfl⟩:=hvc.cells4;have HSC:=hid hsc;have Z2:=hid ((zero_new w).below hb2 (by simp));have HB2:=hid (below_join ((Below.refl w.heap.size w).alloc (Nat.le_refl _) _) hb2);clear ho hb2 hsc hvc))
   all_goals exact bodyPost_ret (v:=.tuple #[.pointer none, .agg #[.int .u8 0, .string ⟨#[]⟩, .int .i64 0, .slice none 0 0], .bool false]) (by simp[results,Tryz.results43,go_sem, *]) rfl ⟨HD.out _ _ rfl,by have B:=HB3.out;have hB:=B.size;repeat (first|with_reducible exact B|with_reducible refine Below.drew ?_|with_reducible refine Below.setCell ?_ (by first|(simp;done)|(simp;omega)) _|with_reducible refine Below.alloc ?_ (by first|exact B.size|(simp;omega)) _)⟩
  | some t =>
   obtain⟨nm,rfl,hft,h82⟩:=Wf.recTy_some hrt
   have htl:t.fields.length≤1000:=by have:=(hx.tys t (Wf.find_mem hft).1).len;omega
   have hrd:Wf.recFd x (.ref nm) g=fieldI t g:=by unfold Wf.recFd;rw[hrt];rfl
   have HR:=hid fun(lo sb:Nat) (W wz:World) (hsc:ScL W lo sb x) (hz:Below W.heap.size W wz)=>(by
    have h:=record x hx lo sb (.ref nm) hk W wz hsc hz
    rw[hrt,hkv] at h
    exact h:Calls Tryz.prog 36 #[ptr sb, .agg #[.string SG, .string BS, .string NM]] wz fun e w'=>(∃ tb,e=.returned (.tuple #[ptr tb, .bool true])∧TyL W lo tb t)∧Below wz.heap.size wz w')
   have HF:=hid fun(lo tb:Nat) (W wz:World) (hT:TyL W lo tb t) (hz:Below W.heap.size W wz)=>field t htl g lo tb W wz hz hT
   cases hfi:fieldI t g with
   | none =>
    have HFI:=hid hfi
    have HD:=hid fun(e:Ending) (w':World) (h:RfdNo e)=>(show RfdOut s.data.toList kt.data.toList v.data.toList g w.heap.size e w' by unfold RfdOut;rw[hvo];dsimp only;rw[hrd,hfi];exact h)
    clear hvo hko hvi hSG hBS hNM hkv hrt hfi hrd
    go_enter Tryz.func43,Tryz.ntmps43
    go_wp2_with (first|(go_at_call 40;refine(HF.out _ _ _ _ HT.out HB23.out).mono ?_;rintro e w4 ⟨ho,rfl⟩;obtain rfl:=ho.no HFI.out;clear ho)|(go_at_call 36;refine(HR.out _ _ _ _ HSC.out (by first|exact((Below.refl _ _).alloc (Nat.le_refl _) _).alloc (by simp) _)).mono ?_;rintro e w3 ⟨⟨tb,rfl,hT⟩,hb3⟩;have HT:=hid hT;have HB23:=hid (below_join (((Below.refl w2.heap.size w2).alloc (Nat.le_refl _) _).alloc (by simp) _) hb3);have HB3:=hid (below_join ((HB2.out.alloc HB2.out.size _).alloc (by have:=HB2.out.size;simp;omega) _) hb3);obtain⟨zl,zr0,zr1,zr2,zr3,zf0,zf1,zf2,zf3⟩:=(Z2.out.below (((Below.refl w2.heap.size w2).alloc (Nat.le_refl _) _).alloc (by simp) _) Z2.out.lt).below hb3 (by have:=Z2.out.lt;simp;omega);clear hb3 hT)|(go_at_call 27;refine HG.out.mono ?_;rintro e w2 ⟨ho,hb2⟩;obtain⟨sb,cs,rfl,hsc,hvc⟩:=HO.out _ _ _ ho;obtain⟨q,gg,n,d,T,sa,rfl⟩:=hvc.cells4;have HSC:=hid hsc;have Z2:=hid ((zero_new w).below hb2 (by simp));have HB2:=hid (below_join ((Below.refl w.heap.size w).alloc (Nat.le_refl _) _) hb2);clear ho hb2 hsc hvc))
    all_goals exact bodyPost_ret (v:=.tuple #[.pointer none, .agg #[.int .u8 0, .string ⟨#[]⟩, .int .i64 0, .slice none 0 0], .bool false]) (by simp[results,Tryz.results43,go_sem, *]) rfl ⟨HD.out _ _ rfl,by have B:=HB3.out;have hB:=B.size;repeat (first|with_reducible exact B|with_reducible refine Below.drew ?_|with_reducible refine Below.setCell ?_ (by first|(simp;done)|(simp;omega)) _|with_reducible refine Below.alloc ?_ (by first|exact B.size|(simp;omega)) _)⟩
   | some f =>
    have HFI:=hid hfi
    have H82:=hid h82
    have HF2:=hid fun(lo tb:Nat) (wz:World) (hT:TyL wz lo tb t)=>(by
     refine(fieldLo t htl g lo tb wz wz (Below.refl _ _) hT).mono (R':=fun e w'=>(∃ fb o,e=.returned (.pointer (some ⟨fb,o,none⟩))∧FdAt wz fb o 82 f∧lo≤fb)∧wz=w') fun e w' ⟨h1,h2⟩=>⟨?_,h2⟩
     unfold FieldLo at h1
     rw[hfi,h82] at h1
     exact h1:Calls Tryz.prog 40 #[ptr tb, .int .i64 g] wz fun e w'=>(∃ fb o,e=.returned (.pointer (some ⟨fb,o,none⟩))∧FdAt wz fb o 82 f∧lo≤fb)∧wz=w')
    have HD:=hid fun(e:Ending) (w':World) (h:∃ fb o cs,e=.returned (.tuple #[.pointer (some ⟨fb,o,none⟩), .agg cs.toArray, .bool true])∧FdAt w' fb o 82 f∧VC w' (fun b=>w.heap.size≤b) u cs)=>(show RfdOut s.data.toList kt.data.toList v.data.toList g w.heap.size e w' by unfold RfdOut;rw[hvo];dsimp only;rw[hrd,hfi];exact h)
    clear hvo hko hvi hSG hBS hNM hkv hrt hfi hrd h82
    go_enter Tryz.func43,Tryz.ntmps43
    go_wp2_with (first|(go_at_call 40;refine(HF.out _ _ _ _ HT.out HB23.out).mono ?_;rintro e w4 ⟨ho,rfl⟩;obtain⟨fb,o,rfl,hfd⟩:=ho.yes HFI.out;have HFD:=hid hfd;clear ho hfd)|(go_at_call 36;refine(HR.out _ _ _ _ HSC.out (by first|exact((Below.refl _ _).alloc (Nat.le_refl _) _).alloc (by simp) _)).mono ?_;rintro e w3 ⟨⟨tb,rfl,hT⟩,hb3⟩;have HT:=hid hT;have x0:w3.cell? ⟨w2.heap.size+1,0,none⟩=some (.int .u8 q):=(hb3.cell (p:=⟨w2.heap.size+1,0,none⟩) (by simp)).trans (by simp);have x1:w3.cell? ⟨w2.heap.size+1,1,none⟩=some (.string T):=(hb3.cell (p:=⟨w2.heap.size+1,1,none⟩) (by simp)).trans (by simp);have x2:w3.cell? ⟨w2.heap.size+1,2,none⟩=some (.int .i64 gg):=(hb3.cell (p:=⟨w2.heap.size+1,2,none⟩) (by simp)).trans (by simp);have x3:w3.cell? ⟨w2.heap.size+1,3,none⟩=some (.slice sa n d):=(hb3.cell (p:=⟨w2.heap.size+1,3,none⟩) (by simp)).trans (by simp);have hl3:w2.heap.size+1<w3.heap.size:=Nat.lt_of_lt_of_le (by simp) hb3.size;have HB23:=hid (below_join (((Below.refl w2.heap.size w2).alloc (Nat.le_refl _) _).alloc (by simp) _) hb3);have HB3:=hid (below_join ((HB2.out.alloc HB2.out.size _).alloc (by have:=HB2.out.size;simp;omega) _) hb3);obtain⟨zl,zr0,zr1,zr2,zr3,zf0,zf1,zf2,zf3⟩:=(Z2.out.below (((Below.refl w2.heap.size w2).alloc (Nat.le_refl _) _).alloc (by simp) _) Z2.out.lt).below hb3 (by have:=Z2.out.lt;simp;omega);clear hb3 hT)|(go_at_call 27;refine HG.out.mono ?_;rintro e w2 ⟨ho,hb2⟩;obtain⟨sb,cs,rfl,hsc,hvc⟩:=HO.out _ _ _ ho;obtain⟨q,gg,n,d,T,sa,rfl⟩:=hvc.cells4;have HSC:=hid hsc;have HVC:=hid hvc;have Z2:=hid ((zero_new w).below hb2 (by simp));have HB2:=hid (below_join ((Below.refl w.heap.size w).alloc (Nat.le_refl _) _) hb2);clear ho hb2 hsc hvc))
    have HT3:=hid (HT.out.below HB23.out)
    have HTO:=hid fun(wz:World) (h:Over (w.heap.size+1) w3 wz)=>HF2.out _ tb wz (TyL.keep HT3.out h.size (fun z h1 h2=>h.block z (by simpa using h1) h2))
    have hnz:¬ (w2.heap.size+1=w.heap.size):=by have:=Z2.out.lt;omega
    have hnz2:¬ (w.heap.size=w2.heap.size+1):=by have:=Z2.out.lt;omega
    go_region_law (((try go_simp);go_at_call 40;refine(HTO.out _ (by repeat (first|with_reducible exact Over.refl _ _|with_reducible refine Over.drew ?_|with_reducible refine Over.setCell ?_ (by simp) _))).mono ?_;rintro e w5 ⟨⟨fb5,o5,rfl,hfd5,hlo5⟩,rfl⟩;have HFD5:=hid hfd5;have HLO5:=hid hlo5;clear hfd5 hlo5))
    all_goals (go_wp2_with fail)
    all_goals exact bodyPost_ret (v:=.tuple #[.pointer (some ⟨fb5,o5,none⟩), .agg #[.int .u8 q, .string T, .int .i64 gg, .slice sa n d], .bool true]) (by simp[results,Tryz.results43,go_sem, *]) rfl (by
     have hR:∀ WF,Over (w.heap.size+1) w3 WF→FdAt WF fb5 o5 82 f→RfdOut s.data.toList kt.data.toList v.data.toList g w.heap.size (.returned (.tuple #[.pointer (some ⟨fb5,o5,none⟩), .agg #[.int .u8 q, .string T, .int .i64 gg, .slice sa n d], .bool true])) WF:=fun WF hO hF=>HD.out _ _ ⟨fb5,o5,[.int .u8 q, .string T, .int .i64 gg, .slice sa n d],rfl,hF,VC.keep (fun b hp hlt=>⟨Nat.le_trans (by simp) hp,(hO.block b (by simpa using hp) (Nat.lt_of_lt_of_le hlt HB23.out.size)).trans (HB23.out.block b hlt)⟩) (Nat.le_trans HB23.out.size hO.size) _ _ HVC.out⟩
     refine⟨hR _ ?_ (FdAt.over HFD5.out HLO5.out ?_), ?_⟩
     ·repeat (first|with_reducible exact Over.refl _ _|with_reducible refine Over.drew ?_|with_reducible refine Over.setCell ?_ (by simp) _)
     ·(repeat (first|with_reducible exact Over.refl _ _|with_reducible refine Over.drew ?_|with_reducible refine Over.setCell ?_ (by simp) _))
      all_goals exact⟨Nat.le_refl _,fun _ _ _=>rfl⟩
     ·have B:=HB3.out
      repeat (first|with_reducible exact B|with_reducible refine Below.drew ?_|with_reducible refine Below.setCell ?_ (by first|(simp;done)|(simp;omega)) _))

theorem vf_two (o:Option (List UInt8)):∃ (t:ByteArray) (b:Bool),vfV o=.tuple #[.string t, .bool b]:=by
 cases o with
 | none=>exact⟨_,_,rfl⟩
 | some s=>exact⟨_,_,rfl⟩
end Go.Proofs.YtidjpalnmnehmaaGreatDoor


