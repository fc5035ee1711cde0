/- Packed by pack.py: Yb. -/
import Derived.Test.YtmdacedmjbiekaaGreatDoorR32
import Derived.Test.YtmdacedmjbiekaaGreatDoorR27
import Derived.Deep.RegionHeld3
namespace Go.Proofs.YtmdacedmjbiekaaGreatDoor
open Go.ChangeShapes Go.WideShapes Go.ChangeAt Go.RowKit Go.Lib
set_option linter.unusedVariables false
set_option linter.unusedSimpArgs false
theorem refN_base:∀ k:Wf.K,k.refN=if k.base=[64] then some k.name else none
 | .num=>rfl
 | .txt=>rfl
 | .flag=>rfl
 | .ref n=>rfl
 | .list k=>refN_base k
 | .opt k=>refN_base k
structure MS (w wr:World) (sb:Nat) (blk:List UInt8→Nat) (out:List (List UInt8)):Prop where
 fr:Below w.heap.size w wr
 sz:w.heap.size+4≤wr.heap.size
 c0:wr.cell? ⟨w.heap.size,0,none⟩=some (ptr sb)
 c3:wr.cell? ⟨w.heap.size+1+1+1,0,none⟩=some (.func (.func 78) #[] #[ptr w.heap.size,ptr (w.heap.size+1+1),ptr (w.heap.size+1+1+1)])
 f2:wr.frozen? ⟨w.heap.size+1+1,0,none⟩=false
 row:∃ a c,wr.cell? ⟨w.heap.size+1+1,0,none⟩=some (.slice a out.length c)∧wr.ownsRow (w.heap.size+4) 62 1 (.slice a out.length c) out.length (out.map fun nm=>ptr (blk nm))
theorem MS.step {w wr w2:World} {sb:Nat} {blk:List UInt8→Nat} {out:List (List UInt8)} (h:MS w wr sb blk out) (hb:Below wr.heap.size wr w2):MS w w2 sb blk out:=by
 have hs:=h.sz
 obtain⟨a,c,h1,h2⟩:=h.row
 exact⟨h.fr.trans (hb.mono (by omega)),Nat.le_trans hs hb.size,(hb.cell (p:=⟨w.heap.size,0,none⟩) (by show w.heap.size<_;omega)).trans h.c0,(hb.cell (p:=⟨w.heap.size+1+1+1,0,none⟩) (by show w.heap.size+1+1+1<_;omega)).trans h.c3,(hb.frozen (p:=⟨w.heap.size+1+1,0,none⟩) (by show w.heap.size+1+1<_;omega)).trans h.f2,a,c,(hb.cell (p:=⟨w.heap.size+1+1,0,none⟩) (by show w.heap.size+1+1<_;omega)).trans h1,owns_below h2 hb⟩
set_option maxRecDepth 20000 in
set_option maxHeartbeats 4000000 in
theorem visit_no (w wr:World) (lo sb mb:Nat) (x:Wf.Sc) (blk:List UInt8→Nat) (out:List (List UInt8)) (k:Wf.K) (hsb:sb<w.heap.size) (c1:w.cell? ⟨sb,1,none⟩=some (.map (some mb))) (hB:BlkIs w lo mb x blk) (hnl:k.name.length≤12) (hm:MS w wr sb blk out) (hb:k.base≠[64]) :
  Calls Tryz.prog 78 #[kV k,ptr w.heap.size,ptr (w.heap.size+1+1),ptr (w.heap.size+1+1+1)] wr fun e w'=>e=.returned (.tuple #[])∧Below wr.heap.size wr w':=by
 obtain⟨SG,hSG⟩:∃ SG:ByteArray,(⟨k.signs.toArray⟩:ByteArray)=SG:=⟨_,rfl⟩
 obtain⟨BS,hBS⟩:∃ BS:ByteArray,(⟨k.base.toArray⟩:ByteArray)=BS:=⟨_,rfl⟩
 obtain⟨NM,hNM⟩:∃ NM:ByteArray,(⟨k.name.toArray⟩:ByteArray)=NM:=⟨_,rfl⟩
 have hkv:kV k=.agg #[.string SG, .string BS, .string NM]:=by simp only[kV,tx,hSG,hBS,hNM]
 rw[hkv]
 obtain⟨P,hP⟩:∃ P:Option Addr,∀ wz,Below w.heap.size w wz→(Instr.lookup 129 (.map (some mb)) (.string NM) false).run Tryz.prog wz=.ok (.pointer P) wz:=by
  have hns:NM.size≤1048576:=by rw[← hNM,tx_size];omega
  cases hf:x.find NM.data.toList with
  | none=>exact⟨_,fun wz hz=>hB.no NM hns hf wz hz⟩
  | some t=>exact⟨_,fun wz hz=>(hB.yes NM hns t hf).2 wz hz⟩
 have hbs:(BS.toList==[64])=false:=by
  rw[← hBS,ByteArray.toList_eq]
  exact beq_eq_false_iff_ne.2 hb
 have HLK:=hid hP
 have HFR:=hid hm.fr
 obtain⟨k0,k1,k2⟩:=kind_laid wr SG BS NM
 have B3:=hid (HFR.out.alloc HFR.out.size (.cells #[.string SG, .string BS, .string NM] 57))
 have BW3:=hid ((Below.refl wr.heap.size wr).alloc (Nat.le_refl _) (.cells #[.string SG, .string BS, .string NM] 57))
 have l0:=HLK.out _ B3.out
 have l1:=HLK.out _ B3.out.drew
 have m1:=(B3.out.cell (p:=⟨sb,1,none⟩) hsb).trans c1
 have m0:=(BW3.out.cell (p:=⟨w.heap.size,0,none⟩) (by have:=hm.sz;show w.heap.size<_;omega)).trans hm.c0
 have hws:=HFR.out.size
 clear hP c1 hm hSG hBS hNM hkv hnl hb hB
 go_enter Tryz.func78,Tryz.ntmps78
 go_upto_region 1 with fail
 obtain⟨W3,hW3⟩:∃ W3,wr.alloc (.cells #[.string SG, .string BS, .string NM] 57)=W3:=⟨_,rfl⟩
 rw[hW3] at k0 k1 k2 B3 BW3 l0 l1 m1 m0
 rw[hW3]
 have hs3:wr.heap.size<W3.heap.size:=by rw[← hW3];simp
 clear hW3
 go_region_held3 (fun w'=>w'.cell? ⟨w.heap.size,0,none⟩=some (ptr sb)∧w'.cell? ⟨sb,1,none⟩=some (.map (some mb))∧w'.cell? ⟨wr.heap.size,2,none⟩=some (.string NM)∧(Instr.lookup 129 (.map (some mb)) (.string NM) false).run Tryz.prog w'=.ok (.pointer P) w') (first|exact⟨m0,m1,k2,l1⟩|go_keep) (fail)
 all_goals (go_wp2_with fail)
 all_goals exact bodyPost_ret (v:=.tuple #[]) (by simp[results,Tryz.results78,go_sem]) rfl ⟨rfl,BW3.out.drew⟩
theorem MS.put {w wr wx w4:World} {sb:Nat} {blk:List UInt8→Nat} {out:List (List UInt8)} {a:Option Addr} {c m g cap:Nat} {nm:List UInt8} (h:MS w wr sb blk out) (hx:Below wr.heap.size wr wx) (hm:out.length=m) (ho:wr.ownsRow (w.heap.size+4) 62 1 (.slice a m c) m (out.map fun nm=>ptr (blk nm))) (hg:wx.grownBy w4 (Value.slice a m c).ownBlock)
  (h4:w4.ownsRow (w.heap.size+4) 62 1 (.slice (some ⟨g,0,none⟩) (m+1) cap) (m+1) ((out.map fun nm=>ptr (blk nm))++[ptr (blk nm)])):MS w (w4.setCell ⟨w.heap.size+1+1,0,none⟩ (.slice (some ⟨g,0,none⟩) (m+1) cap)) sb blk (out++[nm]):=by
 have hs:=h.step hx
 have hz:=hs.sz
 have hB:Below (w.heap.size+4) wx w4:=below_grown2 hg (fun y hy=>(owns_lt ho y hy).1) hz
 obtain⟨a1,c1,r1,_⟩:=hs.row
 have r4:=(hB.cell (p:=⟨w.heap.size+1+1,0,none⟩) (by show w.heap.size+1+1<_;omega)).trans r1
 refine⟨(hs.fr.trans (hB.mono (by omega))).setCell (by show w.heap.size≤w.heap.size+1+1;omega) _, ?_, ?_, ?_, ?_,some ⟨g,0,none⟩,cap, ?_, ?_⟩
 ·have:=hB.size
  simp;omega
 ·exact(World.cell?_setCell_other w4 _ _ _ (by simp)).trans ((hB.cell (p:=⟨w.heap.size,0,none⟩) (by show w.heap.size<_;omega)).trans hs.c0)
 ·exact(World.cell?_setCell_other w4 _ _ _ (by simp)).trans ((hB.cell (p:=⟨w.heap.size+1+1+1,0,none⟩) (by show w.heap.size+1+1+1<_;omega)).trans hs.c3)
 ·have:=(hB.frozen (p:=⟨w.heap.size+1+1,0,none⟩) (by show w.heap.size+1+1<_;omega)).trans hs.f2
  simpa using this
 ·rw[List.length_append,List.length_singleton,hm]
  exact World.cell?_setCell_same w4 _ _ r4
 ·rw[List.length_append,List.length_singleton,hm,List.map_append,List.map_singleton]
  exact ownsRow_setCell_below h4 (by show w.heap.size+1+1<_;omega) _
theorem list_app_tp {ops:Array Oper} {rest:List Oper} {o:Oper} {act:Act} {Q:Exit→Act→World→Prop} {wx:World} {base m c:Nat} {a:Option Addr} {xs:List Value} {p:Nat} (s x:Operand) (hgd:o.guard=none) (ho:o.op=.call { callee:=.builtin .append,args:=#[s,x],argTypes:=#[60,60] })
  (hb:base≤wx.heap.size) (hown:wx.ownsRow base 62 1 (.slice a m c) m xs) (hm1:m≤1000) {zb:Nat} (hz:wx.heap[zb]? = some (.cells #[ptr p] 62)) (hs:act.eval s=.slice a m c) (hx2:act.eval x=.slice (some ⟨zb,0,none⟩) 1 1)
  (h:∀ g cap w4,w4.ownsRow base 62 1 (.slice (some ⟨g,0,none⟩) (m+1) cap) (m+1) (xs++[ptr p])→wx.grownBy w4 (Value.slice a m c).ownBlock→Below base wx w4→wpList Tryz.prog ops Q rest (act.put o.dst (.slice (some ⟨g,0,none⟩) (m+1) cap)) w4) :
  wpList Tryz.prog ops Q (o::rest) act wx:=by
 obtain⟨i0,hi0,hz0,hz1,hz2⟩:=info_parts info_ty
 refine wpList_append_lies wx hgd s x 60 ho base 62 i0 (.pointer none) 1 8 Tryz.underlying60 hi0 hz0 hz1 hz2 rfl (by decide) (.slice a m c) m _ hs hown ⟨zb,0,none⟩ 1 1 [ptr p] hx2 rfl (World.news_of_block hz) (by intro u hu;rw[List.mem_singleton.1 hu];rfl) (by decide) (by unfold maxLen;omega) (by omega) hb _ rfl fun g cap w4 h1 h2 h3 h4 => ?_
 exact h g cap w4 h1 h2 (below_grown2 h2 (fun g hg=>(owns_lt hown g hg).1) hb)
set_option maxRecDepth 20000 in
set_option maxHeartbeats 4000000 in
theorem visitP (w:World) (lo sb mb:Nat) (x:Wf.Sc) (hx:Wf.ScOk x) (blk:List UInt8→Nat) (hsb:sb<w.heap.size) (c1:w.cell? ⟨sb,1,none⟩=some (.map (some mb))) (hB:BlkIs w lo mb x blk):∀ (n:Nat) (k:Wf.K) (out:List (List UInt8)) (wr:World),Wf.left x out<n→k.text.length≤12→Wf.hasRef x k=true→(∀ nm∈out,∃ t,x.find nm=some t)→out.length+Wf.left x out≤1000→MS w wr sb blk out →
  Calls Tryz.prog 78 #[kV k,ptr w.heap.size,ptr (w.heap.size+1+1),ptr (w.heap.size+1+1+1)] wr fun e w'=>e=.returned (.tuple #[])∧MS w w' sb blk (Wf.visit x Wf.insE n k out)∧(∀ nm∈Wf.visit x Wf.insE n k out,∃ t,x.find nm=some t)∧(Wf.visit x Wf.insE n k out).length+Wf.left x (Wf.visit x Wf.insE n k out)≤1000:=by
 intro n
 induction n with
 | zero=>intro k out wr h;omega
 | succ n ih =>
  intro k out wr hl hk12 hr hf hs1 hm
  have hnl:k.name.length≤12:=by have:=kname_len k;omega
  by_cases hb:k.base=[64]
  ·have hrn:k.refN=some k.name:=by rw[refN_base,if_pos hb]
   obtain⟨t,ht⟩:∃ t,x.find k.name=some t:=by
    unfold Wf.hasRef at hr
    rw[hb] at hr
    simp at hr
    exact Option.isSome_iff_exists.1 hr
   obtain⟨SG,hSG⟩:∃ SG:ByteArray,(⟨k.signs.toArray⟩:ByteArray)=SG:=⟨_,rfl⟩
   obtain⟨BS,hBS⟩:∃ BS:ByteArray,(⟨k.base.toArray⟩:ByteArray)=BS:=⟨_,rfl⟩
   obtain⟨NM,hNM⟩:∃ NM:ByteArray,(⟨k.name.toArray⟩:ByteArray)=NM:=⟨_,rfl⟩
   have hkv:kV k=.agg #[.string SG, .string BS, .string NM]:=by simp only[kV,tx,hSG,hBS,hNM]
   have hnd:NM.data.toList=k.name:=by rw[← hNM]
   have hns:NM.size≤1048576:=by rw[← hNM,tx_size];omega
   obtain⟨hT,hlook⟩:=hB.yes NM hns t (by rw[hnd];exact ht)
   rw[hnd] at hT hlook
   obtain⟨tb,htb⟩:∃ tb,blk k.name=tb:=⟨_,rfl⟩
   have hbs:BS.toList=[64]:=by rw[← hBS,ByteArray.toList_eq];exact hb
   have hbs2:(BS.toList==[64])=true:=by rw[hbs];rfl
   obtain⟨a,c,r1,r2⟩:=hm.row
   obtain⟨m,hml⟩:∃ m,out.length=m:=⟨_,rfl⟩
   have hwhole:∀ nm∈out,Whole wr (blk nm):=fun nm hn=>by
    obtain⟨t2,ht2⟩:=hf nm hn
    have hn2:nm.length≤1000:=by
     have h:=(hx.tys t2 (Wf.find_mem ht2).1).name
     rw[(Wf.find_mem ht2).2] at h
     unfold Wf.isName at h
     simp only[Bool.and_eq_true,decide_eq_true_eq] at h
     omega
    have:=(hB.yes ⟨nm.toArray⟩ (by rw[tx_size];omega) t2 ht2).1
    exact(this.below hm.fr).whole
   rw[hkv]
   rw[htb] at hT hlook
   rw[hml] at r1 r2
   have hinj:∀ nm∈out,(blk nm=tb↔nm=k.name):=fun nm hn=>by
    obtain⟨t2,ht2⟩:=hf nm hn
    exact⟨fun e=>hB.inj _ _ _ _ ht2 ht (e.trans htb.symm),fun e=>by rw[e];exact htb⟩
   have hdec:decide (tb∈out.map blk)=decide (k.name∈out):=by
    apply decide_eq_decide.2
    rw[List.mem_map]
    constructor
    ·rintro⟨nm,h1,h2⟩
     rw[← (hinj nm h1).1 h2];exact h1
    ·intro h
     exact⟨k.name,h,htb⟩
   have hm1000:m≤1000:=by omega
   have HFR:=hid hm.fr
   have hwz:=hm.sz
   obtain⟨rb,hrb,hrow⟩:=RowAt.of_owns (w:=wr) (by rw[List.length_map,hml];exact r2)
   have hrow2:RowAt wr rb (.slice a m c) ((out.map blk).map ptr):=by rw[List.map_map];exact hrow
   obtain⟨k0,k1,k2⟩:=kind_laid wr SG BS NM
   have B3:=hid (HFR.out.alloc HFR.out.size (.cells #[.string SG, .string BS, .string NM] 57))
   have BW3:=hid ((Below.refl wr.heap.size wr).alloc (Nat.le_refl _) (.cells #[.string SG, .string BS, .string NM] 57))
   have HLK:=hid hlook
   have l0:=HLK.out _ B3.out
   have l1:=HLK.out _ B3.out.drew
   have m1:=(B3.out.cell (p:=⟨sb,1,none⟩) hsb).trans c1
   have m0:=(BW3.out.cell (p:=⟨w.heap.size,0,none⟩) (by show w.heap.size<_;omega)).trans hm.c0
   have m2:=(BW3.out.cell (p:=⟨w.heap.size+1+1,0,none⟩) (by show w.heap.size+1+1<_;omega)).trans r1
   obtain⟨BI,hBI⟩:∃ BI,decide (k.name∈out)=BI:=⟨_,rfl⟩
   rw[hBI] at hdec
   have HCT:=hid fun(wz:World) (hz:Below wr.heap.size wr wz)=>(by
    have h:=containsP a m c rb (out.map blk) tb wz (by rw[List.length_map,hml]) hm1000 (hrow2.below hz id) ((hT.below (HFR.out.trans (hz.mono HFR.out.size))).whole) (fun q hq=>by
     obtain⟨nm,h1,rfl⟩:=List.mem_map.1 hq
     obtain⟨cs,T,h⟩:=hwhole nm h1
     exact⟨cs,T,(hz.block _ (by have:=Array.getElem?_eq_some_iff.1 h;exact this.1)).trans h⟩)
    rw[hdec] at h
    exact h:Calls Tryz.prog 79 #[.slice a m c,ptr tb] wz fun e w'=>e=.returned (.bool BI)∧wz=w')
   have HBI:=hid hBI
   have HM:=hid hm
   have HR2:=hid r2
   have HML:=hid hml
   have HTY:=hid hT
   have HIH:=hid ih
   clear ih hm r2 hml hT hlook hrow hrow2 hrb hdec hinj hwhole hBI r1 hSG hBS hNM hkv
   cases BI
   ·obtain⟨VV,hVV⟩:∃ VV,Wf.visit x Wf.insE (n+1) k out=VV:=⟨_,rfl⟩
    rw[hVV]
    have HVV:=hid hVV
    clear hVV
    go_enter Tryz.func78,Tryz.ntmps78
    go_upto_region 1 with fail
    obtain⟨W3,hW3⟩:∃ W3,wr.alloc (.cells #[.string SG, .string BS, .string NM] 57)=W3:=⟨_,rfl⟩
    rw[hW3] at k0 k1 k2 B3 BW3 l0 l1 m1 m0 m2
    rw[hW3]
    have hs3:wr.heap.size<W3.heap.size:=by rw[← hW3];simp
    clear hW3
    have hz4:w.heap.size+4≤W3.heap.size:=by omega
    have htl:tb<w.heap.size:=HTY.out.lt
    have htl3:tb<W3.heap.size:=by omega
    have hn2:w.heap.size+1+1<W3.heap.size:=by omega
    have mf:=(BW3.out.frozen (p:=⟨w.heap.size+1+1,0,none⟩) (by show w.heap.size+1+1<wr.heap.size;omega)).trans HM.out.f2
    have HOWN:=hid ((owns_below HR2.out BW3.out))
    have NZ:=hid (heap_alloc_last W3 (.cells #[ptr tb] 62))
    have HQ:=hid HTY.out.sort.2
    obtain⟨q,hq⟩:∃ q,t.sort.toNat=q:=⟨_,rfl⟩
    rw[hq] at HQ
    go_region_held3 (fun w'=>w'.cell? ⟨w.heap.size,0,none⟩=some (ptr sb)∧w'.cell? ⟨sb,1,none⟩=some (.map (some mb))∧w'.cell? ⟨wr.heap.size,2,none⟩=some (.string NM)∧(Instr.lookup 129 (.map (some mb)) (.string NM) false).run Tryz.prog w'=.ok (ptr tb) w') (first|exact⟨m0,m1,k2,l1⟩|go_keep) (fail)
    go_upto_region 4 with(first|(at_builtin;refine list_app_tp (p:=tb) (.tmp 23) (.tmp 25) rfl rfl (base:=w.heap.size+4) (by simp;omega) ((HOWN.out.drew).alloc _) hm1000 NZ.out (by rfl) (by rfl) ?_;intro g cap w4 hown4 hgrow4 b4;have HG4:=hid hgrow4;have HOWN4:=hid hown4;have B4:=hid b4;have y2:=(b4.cell (p:=⟨w.heap.size+1+1,0,none⟩) (by show w.heap.size+1+1<_;omega)).trans ((World.cell?_alloc_lt W3 (.cells #[ptr tb] 62) ⟨w.heap.size+1+1,0,none⟩ hn2).trans m2);have yf:=(b4.frozen (p:=⟨w.heap.size+1+1,0,none⟩) (by show w.heap.size+1+1<_;omega)).trans ((((Below.refl W3.heap.size W3).alloc (Nat.le_refl _) (.cells #[ptr tb] 62)).frozen (p:=⟨w.heap.size+1+1,0,none⟩) hn2).trans mf);clear hgrow4 hown4 b4)|(go_at_call 79;refine(HCT.out _ BW3.out.drew).mono ?_;rintro e w5 ⟨rfl,rfl⟩))
    have hni:k.name ∉ out:=of_decide_eq_false HBI.out
    have B34:=hid ((BW3.out.drew).alloc (by have:=BW3.out.size;simpa using this) (.cells #[ptr tb] 62))
    have MS4:=hid (HM.out.put (nm:=k.name) B34.out HML.out HR2.out HG4.out (by rw[htb];exact HOWN4.out))
    generalize hW6:w4.setCell ⟨w.heap.size+1+1,0,none⟩ (.slice (some ⟨g,0,none⟩) (m+1) cap)=W6
    rw[hW6] at MS4
    clear hW6 HOWN4 HG4 B4 y2 yf
    have hin0:Wf.insE k.name out=out++[k.name]:=rfl
    have hlt0:=Wf.left_lt Wf.insE_ok (o:=out) ht hni
    rw[hin0] at hlt0
    have hf0:∀ nm∈out++[k.name],∃ t,x.find nm=some t:=fun nm hn=>by
     rcases List.mem_append.1 hn with h|h
     ·exact hf nm h
     ·rw[List.mem_singleton.1 h];exact⟨t,ht⟩
    have hs0:(out++[k.name]).length+Wf.left x (out++[k.name])≤1000:=by
     rw[List.length_append,List.length_singleton];omega
    have u0:=(MS4.out.fr.cell (p:=⟨tb,0,none⟩) htl).trans HQ.out
    have hvis:VV=if t.sort=69 then out++[k.name] else t.fields.foldl (fun o f=>Wf.visit x Wf.insE n f.kind o) (out++[k.name]):=by
     rw[← HVV.out]
     simp only[Wf.visit,hrn,if_neg hni,ht,hin0]
    by_cases h69:t.sort=69
    ·rw[if_pos h69] at hvis
     clear HVV
     subst hvis
     have hq69:((q:Int)==69)=true:=by rw[← hq,h69];rfl
     clear hq
     go_wp2_with fail
     exact bodyPost_ret (v:=.tuple #[]) (by simp[results,Tryz.results78,go_sem]) rfl ⟨rfl,MS4.out,hf0,hs0⟩
    ·rw[if_neg h69] at hvis
     clear HVV
     subst hvis
     have hq69:((q:Int)==69)=false:=by
      rw[← hq]
      exact beq_eq_false_iff_ne.2 fun e=>h69 (UInt8.toNat_inj.1 (by show t.sort.toNat=69;omega))
     obtain⟨fb,fa,fc,_,c2,hnc,hcm,hrow⟩:=HTY.out.row
     obtain⟨nf,hnf⟩:∃ nf,t.fields.length=nf:=⟨_,rfl⟩
     have HROW:=hid hrow
     have HNF:=hid hnf
     rw[hnf] at c2 hnc
     have u2:=(MS4.out.fr.cell (p:=⟨tb,2,none⟩) htl).trans c2
     clear hq hrow hnf c2
     have hacc:∀ i,i<t.fields.length→(t.fields.take (i+1)).foldl (fun o f=>Wf.visit x Wf.insE n f.kind o) (out++[k.name])=Wf.visit x Wf.insE n (t.fields[i]!).kind ((t.fields.take i).foldl (fun o f=>Wf.visit x Wf.insE n f.kind o) (out++[k.name])):=fun i hi=>by
      rw[List.take_add_one,List.getElem?_eq_getElem hi,List.foldl_append]
      simp[List.getElem!_eq_getElem?_getD,List.getElem?_eq_getElem hi]
     have hnf8:nf≤8:=by rw[← HNF.out];exact(hx.tys t (Wf.find_mem ht).1).len
     have HACC:=hid hacc
     clear hacc
     go_wp2_with fail
     go_loopw [37] (fun s37 wl=>∃ (i:Nat) (acc:List (List UInt8)),s37=.int .i64 i∧i≤nf∧Hid (acc=(t.fields.take i).foldl (fun o f=>Wf.visit x Wf.insE n f.kind o) (out++[k.name])∧MS w wl sb blk acc∧(∀ nm∈acc,∃ t,x.find nm=some t)∧acc.length+Wf.left x acc≤1000∧Wf.left x acc<n)) (fun s37 _=>nf-(RowKit.intOf s37).toNat)
     case atStart=>exact⟨0,out++[k.name],rfl,Nat.zero_le _,hid ⟨rfl,MS4.out,hf0,hs0,by omega⟩⟩
     case round =>
      obtain⟨i,acc,rfl,hi,hh⟩:=hrel
      by_cases hlt:i<nf
      ·have hix:i<t.fields.length:=by rw[HNF.out];exact hlt
       obtain⟨o,rfl,hfd⟩:=HROW.out i hix
       have hfm:t.fields[i]∈t.fields:=List.getElem_mem hix
       have hak:=HACC.out i hix
       rw[List.getElem!_eq_getElem?_getD,List.getElem?_eq_getElem hix,Option.getD_some] at hak
       obtain⟨f,hfe⟩:∃ f,t.fields[i]=f:=⟨_,rfl⟩
       rw[hfe] at hfd hfm hak
       have htx:=(Wf.find_mem ht).1
       have hfk:=fd_kind ((hx.tys t htx).fds f hfm)
       have hrf:=hx.refs t htx h69 f hfm
       obtain⟨S2,hS2⟩:∃ S2:ByteArray,(⟨f.kind.signs.toArray⟩:ByteArray)=S2:=⟨_,rfl⟩
       obtain⟨B2,hB2⟩:∃ B2:ByteArray,(⟨f.kind.base.toArray⟩:ByteArray)=B2:=⟨_,rfl⟩
       obtain⟨N2,hN2⟩:∃ N2:ByteArray,(⟨f.kind.name.toArray⟩:ByteArray)=N2:=⟨_,rfl⟩
       have hkv2:kV f.kind=.agg #[.string S2, .string B2, .string N2]:=by simp only[kV,tx,hS2,hB2,hN2]
       have hfc:fdC t.sort f=[.int .i64 f.tag,tx f.name, .string S2, .string B2, .string N2,tx f.given]:=by
        unfold fdC;rw[if_neg h69];simp only[tx,hS2,hB2,hN2]
       obtain⟨G,hG⟩:∃ G,f.tag=G:=⟨_,rfl⟩
       obtain⟨A1,hA1⟩:∃ A1:ByteArray,(⟨f.name.toArray⟩:ByteArray)=A1:=⟨_,rfl⟩
       obtain⟨A5,hA5⟩:∃ A5:ByteArray,(⟨f.given.toArray⟩:ByteArray)=A5:=⟨_,rfl⟩
       rw[hG,tx,tx,hA1,hA5] at hfc
       have hfbl:=hfd.1
       have HFR2:=hid hh.out.2.1.fr
       have hz2:=hh.out.2.1.sz
       have hfbr:fb<wr.heap.size:=by have:=HFR2.out.size;omega
       have z0:wr.cell? ⟨fb,o+i * 6,none⟩=some (.int .i64 G):=(HFR2.out.cell (p:=⟨fb,o+i * 6,none⟩) hfbl).trans (hfd.2 0 _ (by rw[hfc];rfl))
       have z1:wr.cell? ⟨fb,o+i * 6+1,none⟩=some (.string A1):=(HFR2.out.cell (p:=⟨fb,o+i * 6+1,none⟩) hfbl).trans (hfd.2 1 _ (by rw[hfc];rfl))
       have z2:wr.cell? ⟨fb,o+i * 6+2,none⟩=some (.string S2):=(HFR2.out.cell (p:=⟨fb,o+i * 6+2,none⟩) hfbl).trans (hfd.2 2 _ (by rw[hfc];rfl))
       have z3:wr.cell? ⟨fb,o+i * 6+3,none⟩=some (.string B2):=(HFR2.out.cell (p:=⟨fb,o+i * 6+3,none⟩) hfbl).trans (hfd.2 3 _ (by rw[hfc];rfl))
       have z4:wr.cell? ⟨fb,o+i * 6+4,none⟩=some (.string N2):=(HFR2.out.cell (p:=⟨fb,o+i * 6+4,none⟩) hfbl).trans (hfd.2 4 _ (by rw[hfc];rfl))
       have z5:wr.cell? ⟨fb,o+i * 6+5,none⟩=some (.string A5):=(HFR2.out.cell (p:=⟨fb,o+i * 6+5,none⟩) hfbl).trans (hfd.2 5 _ (by rw[hfc];rfl))
       have v3:=hh.out.2.1.c3
       have hv3:w.heap.size+1+1+1<wr.heap.size:=by omega
       have HCALL:=hid fun(wz:World) (hz:Below wr.heap.size wr wz)=>(by
        have h:=HIH.out f.kind acc wz hh.out.2.2.2.2 hfk hrf hh.out.2.2.1 hh.out.2.2.2.1 (hh.out.2.1.step hz)
        rw[hkv2] at h
        exact h:Calls Tryz.prog 78 #[.agg #[.string S2, .string B2, .string N2],ptr w.heap.size,ptr (w.heap.size+1+1),ptr (w.heap.size+1+1+1)] wz fun e w'=>e=.returned (.tuple #[])∧MS w w' sb blk (Wf.visit x Wf.insE n f.kind acc)∧(∀ nm∈Wf.visit x Wf.insE n f.kind acc,∃ t,x.find nm=some t)∧(Wf.visit x Wf.insE n f.kind acc).length+Wf.left x (Wf.visit x Wf.insE n f.kind acc)≤1000)
       have hll:Wf.left x (Wf.visit x Wf.insE n f.kind acc)<n:=Nat.lt_of_le_of_lt (Wf.left_le fun a ha=>Wf.visit_sub Wf.insE_ok n f.kind acc a ha) hh.out.2.2.2.2
       have HAK:=hid (show Wf.visit x Wf.insE n f.kind acc=(t.fields.take (i+1)).foldl (fun o f=>Wf.visit x Wf.insE n f.kind o) (out++[k.name]) by rw[hak,hh.out.1])
       clear hfd hfc hak hfm hfe hkv2 hS2 hB2 hN2 hG hA1 hA5 hrf hfk htx
       go_wp2_with (go_at_call 78;refine(HCALL.out _ ((Below.refl wr.heap.size wr).alloc (Nat.le_refl _) _)).mono ?_;rintro e w7 ⟨rfl,hm7,hf7,hs7⟩;have MS7:=hid hm7;have HF7:=hid hf7;clear hm7 hf7)
       go_roundw
       case rel=>exact⟨i+1,_,by go_num,by omega,hid ⟨HAK.out,MS7.out,HF7.out,hs7,hll⟩⟩
       case measure=>simp[RowKit.intOf];omega
      ·have hin:i=nf:=by omega
       subst hin
       have hfin:acc=t.fields.foldl (fun o f=>Wf.visit x Wf.insE n f.kind o) (out++[k.name]):=by
        rw[hh.out.1,List.take_of_length_le (by rw[HNF.out];exact Nat.le_refl _)]
       have HFIN:=hid hfin
       clear hfin
       go_wp2_with fail
       go_end0
       rw[← HFIN.out]
       exact⟨rfl,hh.out.2.1,hh.out.2.2.1,hh.out.2.2.2.1⟩
   ·have hin:k.name∈out:=of_decide_eq_true HBI.out
    have hv:Wf.visit x Wf.insE (n+1) k out=out:=by simp only[Wf.visit,hrn,if_pos hin]
    rw[hv]
    go_enter Tryz.func78,Tryz.ntmps78
    go_upto_region 1 with fail
    obtain⟨W3,hW3⟩:∃ W3,wr.alloc (.cells #[.string SG, .string BS, .string NM] 57)=W3:=⟨_,rfl⟩
    rw[hW3] at k0 k1 k2 B3 BW3 l0 l1 m1 m0 m2
    rw[hW3]
    have hs3:wr.heap.size<W3.heap.size:=by rw[← hW3];simp
    clear hW3
    go_region_held3 (fun w'=>w'.cell? ⟨w.heap.size,0,none⟩=some (ptr sb)∧w'.cell? ⟨sb,1,none⟩=some (.map (some mb))∧w'.cell? ⟨wr.heap.size,2,none⟩=some (.string NM)∧(Instr.lookup 129 (.map (some mb)) (.string NM) false).run Tryz.prog w'=.ok (ptr tb) w') (first|exact⟨m0,m1,k2,l1⟩|go_keep) (fail)
    all_goals (go_wp2_with (go_at_call 79;refine(HCT.out _ BW3.out.drew).mono ?_;rintro e w5 ⟨rfl,rfl⟩))
    all_goals exact bodyPost_ret (v:=.tuple #[]) (by simp[results,Tryz.results78,go_sem]) rfl ⟨rfl,HM.out.step BW3.out.drew,hf,hs1⟩
  ·have hrn:k.refN=none:=by rw[refN_base,if_neg hb]
   have hv:Wf.visit x Wf.insE (n+1) k out=out:=by simp only[Wf.visit,hrn]
   rw[hv]
   refine(visit_no w wr lo sb mb x blk out k hsb c1 hB hnl hm hb).mono ?_
   rintro e w' ⟨rfl,hb'⟩
   exact⟨rfl,hm.step hb',hf,hs1⟩
end Go.Proofs.YtmdacedmjbiekaaGreatDoor
