/- Packed by pack.py: Yc Sy. -/
import Derived.Test.YtmdacedmjbiekaaGreatDoorR33
import Derived.Laws.EntriesVeiled
import Derived.Test.YtmdacedmjbiekaaGreatDoorR29
namespace Go.Proofs.YtmdacedmjbiekaaGreatDoor
open Go.ChangeShapes Go.WideShapes Go.ChangeAt Go.RowKit Go.Lib
set_option linter.unusedVariables false
set_option linter.unusedSimpArgs false
def metL (x:Wf.Sc) (k:Wf.K):List (List UInt8):=Wf.visit x Wf.insE (x.length+1) k []
theorem start_met (w:World) (sb:Nat) (SG BS NM:ByteArray) (blk:List UInt8→Nat) (T1 T3 T4:TypeId) (W1:World) (hW:((((w.alloc (.cells #[ptr sb] T1)).alloc (.cells #[.string SG, .string BS, .string NM] 57)).alloc (.cells #[.slice none 0 0] T3)).alloc (.cells #[.func (.func 78) #[] #[ptr w.heap.size,ptr (w.heap.size+1+1),ptr (w.heap.size+1+1+1)]] T4))=W1):MS w W1 sb blk []:=by
 subst hW
 refine⟨?_,by simp, ?_, ?_, ?_,none,0, ?_,World.ownsRow_nil _ _ _ _⟩
 ·exact((((Below.refl _ _).alloc (Nat.le_refl _) _).alloc (by simp) _).alloc (by simp;omega) _).alloc (by simp;omega) _
 all_goals simp[go_sem]
set_option maxRecDepth 20000 in
set_option maxHeartbeats 2000000 in
theorem met (w:World) (lo sb:Nat) (x:Wf.Sc) (hx:Wf.ScOk x) (hx8:x.length≤900) (hsc:ScL w lo sb x) (k:Wf.K) (hk12:k.text.length≤12) (hkr:Wf.hasRef x k=true):Calls Tryz.prog 38 #[ptr sb,kV k] w fun e w'=>∃ (mb:Nat) (blk:List UInt8→Nat) (a:Option Addr) (c:Nat),e=.returned (.slice a (metL x k).length c)∧BlkIs w lo mb x blk∧(∀ nm∈metL x k,∃ t,x.find nm=some t)∧w'.ownsRow (w.heap.size+4) 62 1 (.slice a (metL x k).length c) (metL x k).length ((metL x k).map fun nm=>ptr (blk nm))∧Below w.heap.size w w':=by
 obtain⟨mb,blk,hsb,c1,hB⟩:=hsc.blk
 obtain⟨SG,hSG⟩:∃ SG:ByteArray,(⟨k.signs.toArray⟩:ByteArray)=SG:=⟨_,rfl⟩
 obtain⟨BS,hBS⟩:∃ BS:ByteArray,(⟨k.base.toArray⟩:ByteArray)=BS:=⟨_,rfl⟩
 obtain⟨NM,hNM⟩:∃ NM:ByteArray,(⟨k.name.toArray⟩:ByteArray)=NM:=⟨_,rfl⟩
 have hkv:kV k=.agg #[.string SG, .string BS, .string NM]:=by simp only[kV,tx,hSG,hBS,hNM]
 have ST:=hid fun T1 T3 T4 W1 h=>start_met w sb SG BS NM blk T1 T3 T4 W1 h
 have hl:=Wf.left_len x []
 have HV:=hid fun(wz:World) (h:MS w wz sb blk [])=>(by
  have h2:=visitP w lo sb mb x hx blk hsb c1 hB (x.length+1) k [] wz (by omega) hk12 hkr (by simp) (by simp;omega) h
  rw[hkv] at h2
  exact h2:Calls Tryz.prog 78 #[.agg #[.string SG, .string BS, .string NM],ptr w.heap.size,ptr (w.heap.size+1+1),ptr (w.heap.size+1+1+1)] wz fun e w'=>e=.returned (.tuple #[])∧MS w w' sb blk (metL x k)∧(∀ nm∈metL x k,∃ t,x.find nm=some t)∧(metL x k).length+Wf.left x (metL x k)≤1000)
 rw[hkv]
 have HB:=hid hB
 clear hkv hSG hBS hNM c1 hB hsc
 obtain⟨L,hL⟩:∃ L,metL x k=L:=⟨_,rfl⟩
 rw[hL] at HV
 rw[hL]
 clear hL
 go_enter Tryz.func38,Tryz.ntmps38
 go_upto_region 4 with fail
 go_wp2_with (go_at_call 78;refine(HV.out _ (ST.out _ _ _ _ rfl)).mono ?_;rintro e w2 ⟨rfl,hm2,hf2,hs2⟩;obtain⟨a,c,r1,r2⟩:=hm2.row;have HM:=hid hm2;have HR:=hid r2;have HF:=hid hf2;obtain⟨m,hml⟩:∃ m,L.length=m:=⟨_,rfl⟩;have HML:=hid hml;rw[hml] at r1;clear hm2 r2 hf2 hml)
 exact bodyPost_ret (v:=.slice a m c) (by simp[results,Tryz.results38,go_sem, *]) rfl ⟨mb,blk,a,c,by rw[HML.out],HB.out,HF.out,HR.out,HM.out.fr⟩
end Go.Proofs.YtmdacedmjbiekaaGreatDoor

namespace Go.Proofs.YtmdacedmjbiekaaGreatDoor
open Go.ChangeShapes Go.WideShapes Go.ChangeAt Go.RowKit Go.Lib
set_option linter.unusedVariables false
def kindOf (l kt:List UInt8):Option (Wf.Sc × Wf.K):=match Wf.schemaOf l with
 | none=>none
 | some x=>match Wf.parseK kt with
  | none=>none
  | some k=>if Wf.hasRef x k=true then some (x,k) else none
def LkOut (l kt:List UInt8) (lo:Nat) (e:Ending) (w':World):Prop:=match kindOf l kt with
 | some y=>∃ b a c,e=.returned (.tuple #[.slice a y.1.length c, .bool true])∧ScSp w' lo b (.slice a y.1.length c) y.1
 | none=>∃ a n c,e=.returned (.tuple #[.slice a n c, .bool false])
theorem kindOf_text {l kt:List UInt8} {y:Wf.Sc × Wf.K} (h:kindOf l kt=some y):Wf.schemaOf l=some y.1∧Wf.parseK kt=some y.2∧Wf.hasRef y.1 y.2=true∧y.2.text=kt∧kt.length≤12:=by
 unfold kindOf at h
 cases hs:Wf.schemaOf l with
 | none=>rw[hs] at h;cases h
 | some x =>
  rw[hs] at h
  cases hk:Wf.parseK kt with
  | none=>rw[hk] at h;cases h
  | some k =>
   rw[hk] at h
   dsimp only at h
   split at h
   ·rename_i hr
    simp only[Option.some.injEq] at h
    subst h
    have hl:=parseK_len hk
    unfold Wf.parseK at hk
    split at hk
    ·exact⟨rfl,rfl,hr,Wf.kindIn_text hk,by assumption⟩
    ·cases hk
   ·cases h
theorem lk_fin {l kt:List UInt8} {x:Wf.Sc} {k:Wf.K} {is ok:Bool} {n lo b c:Nat} {a:Option Addr} {w':World} (h:kindOf l kt=if (!is || ok)=true then some (x,k) else none) (hn:x.length=n) (hs:ScSp w' lo b (.slice a n c) x) {r:Bool} (hr:r=(!is || ok)):LkOut l kt lo (.returned (.tuple #[.slice a n c, .bool r])) w':=by
 subst hr
 unfold LkOut
 rw[h]
 cases hb:(!is || ok) with
 | true=>rw[if_pos rfl];exact⟨b,a,c,by rw[hn],by rw[hn];exact hs⟩
 | false=>rw[if_neg (by decide)];exact⟨_,_,_,rfl⟩
set_option maxRecDepth 20000 in
set_option maxHeartbeats 1000000 in
theorem l3Kind (s kt:ByteArray) (w:World) (hs:s.size≤1048576):Calls Tryz.prog 35 #[.string s, .string kt] w fun e w'=>LkOut s.data.toList kt.data.toList w.heap.size e w'∧Below w.heap.size w w':=by
 have HOF:=hid fun wz=>l3Of s wz hs
 have HOK:=hid fun wz=>kindOk_spec kt.size kt wz (Nat.le_refl _)
 cases hsc:Wf.schemaOf s.data.toList with
 | none =>
  have HO:=hid fun e lo wz (h:OfOut s.data.toList lo e wz)=>(by unfold OfOut at h;rw[hsc] at h;exact h:∃ a n c,e=.returned (.tuple #[.slice a n c, .bool false]))
  have HF:=hid (show kindOf s.data.toList kt.data.toList=none by unfold kindOf;rw[hsc])
  clear hsc
  go_enter Tryz.func35,Tryz.ntmps35
  go_wp2_with (go_at_call 71;refine(HOF.out _).mono ?_;rintro e w2 ⟨ho,hb2⟩;obtain⟨a,n,c,rfl⟩:=HO.out _ _ _ ho;have HB2:=hid hb2;clear ho hb2)
  go_ret2
  exact⟨by unfold LkOut;rw[HF.out];exact⟨_,_,_,rfl⟩,HB2.out⟩
 | some x =>
  have hx8:=(Wf.schemaOf_ok hsc).len
  have HO:=hid fun e lo wz (h:OfOut s.data.toList lo e wz)=>(by unfold OfOut at h;rw[hsc] at h;obtain⟨b,v,he,hsp⟩:=h;obtain⟨a,c,rfl,_⟩:=hsp.slice;exact⟨b,a,c,he,hsp⟩:∃ b a c,e=.returned (.tuple #[.slice a x.length c, .bool true])∧ScSp wz lo b (.slice a x.length c) x)
  obtain⟨n,hn⟩:∃ n,x.length=n:=⟨_,rfl⟩
  rw[hn] at HO
  have HN:=hid hn
  cases hk:Wf.parseK kt.data.toList with
  | none =>
   rw[ok_none hk] at HOK
   have HF:=hid (show kindOf s.data.toList kt.data.toList=none by unfold kindOf;rw[hsc];dsimp only;rw[hk])
   clear hsc hk hn
   go_enter Tryz.func35,Tryz.ntmps35
   go_wp2_with (first|(go_at_call 72;refine(HOK.out _).mono ?_;rintro e w3 ⟨rfl,rfl⟩)|(go_at_call 71;refine(HOF.out _).mono ?_;rintro e w2 ⟨ho,hb2⟩;obtain⟨b,a,c,rfl,hs2⟩:=HO.out _ _ _ ho;have HB2:=hid hb2;clear ho hb2 hs2))
   go_ret2
   exact⟨by unfold LkOut;rw[HF.out];exact⟨_,_,_,rfl⟩,HB2.out⟩
  | some k =>
   rw[ok_some hk] at HOK
   have hkl:=parseK_len hk
   have hkt:tx k.text=.string kt:=by
    unfold Wf.parseK at hk
    split at hk
    ·rw[Wf.kindIn_text hk]
    ·cases hk
   have HCORE:=hid fun wz=>l2Core_text k (by omega) wz
   have hcl:=core_len k
   have HREF:=hid fun wz=>l2Ref_text k.core (by omega) wz
   obtain⟨NM,is,hri,hhas⟩:=core_is x k
   rw[hri] at HREF
   have HFIND:=hid fun wz lo b v (h:ScSp wz lo b v x)=>(l3findAny x lo b v NM wz wz (Below.refl _ _) (by omega) h)
   obtain⟨CT,hCT⟩:∃ CT:ByteArray,(⟨k.core.text.toArray⟩:ByteArray)=CT:=⟨_,rfl⟩
   rw[hkt] at HCORE
   simp only[tx,hCT] at HCORE HREF
   obtain⟨ok,hokk⟩:∃ ok,(x.find NM.data.toList).isSome=ok:=⟨_,rfl⟩
   rw[hokk] at hhas HFIND
   have HF:=hid (show kindOf s.data.toList kt.data.toList=if (!is || ok)=true then some (x,k) else none by unfold kindOf;rw[hsc];dsimp only;rw[hk];dsimp only;rw[hhas])
   clear hsc hk hn hhas hokk hCT hri hcl hkl hkt
   have hcs:(is=false)∨(is=true∧ok=true)∨(is=true∧ok=false):=by cases is <;> cases ok <;> simp
   go_enter Tryz.func35,Tryz.ntmps35
   go_wp2_with (first|(go_at_call 75;refine(HFIND.out _ _ _ _ HS.out).mono ?_;rintro e w5 ⟨⟨fq,fN,fA,fM,fC,rfl⟩,hb5⟩;have HB5:=hid hb5;clear hb5)|(go_at_call 73;refine(HREF.out _).mono ?_;rintro e w4 ⟨rfl,rfl⟩)|(go_at_call 74;refine(HCORE.out _).mono ?_;rintro e w3 ⟨rfl,rfl⟩)|(go_at_call 72;refine(HOK.out _).mono ?_;rintro e w3 ⟨rfl,rfl⟩)|(go_at_call 71;refine(HOF.out _).mono ?_;rintro e w2 ⟨ho,hb2⟩;obtain⟨b,a,c,rfl,hs2⟩:=HO.out _ _ _ ho;have HS:=hid hs2;have HB2:=hid hb2;clear ho hb2 hs2))
   all_goals go_ret2
   ·exact⟨lk_fin (is:=is) (ok:=ok) HF.out HN.out (HS.out.below HB5.out |>.below ((Below.refl _ _).alloc (Nat.le_refl _) _)) (by simp[*]),(HB2.out.trans (HB5.out.mono HB2.out.size)).alloc (Nat.le_trans HB2.out.size HB5.out.size) _⟩
   ·exact⟨lk_fin (is:=is) (ok:=ok) HF.out HN.out (HS.out.below HB5.out |>.below ((Below.refl _ _).alloc (Nat.le_refl _) _)) (by simp[*]),(HB2.out.trans (HB5.out.mono HB2.out.size)).alloc (Nat.le_trans HB2.out.size HB5.out.size) _⟩
def okL (l:List UInt8):Bool:=(Wf.schemaOf l).isSome
theorem of_ok {l:List UInt8} {lo:Nat} {e:Ending} {w':World} (h:OfOut l lo e w'):∃ a n c,e=.returned (.tuple #[.slice a n c, .bool (okL l)]):=by
 unfold OfOut at h
 unfold okL
 cases hs:Wf.schemaOf l with
 | none=>rw[hs] at h;exact h
 | some x =>
  rw[hs] at h
  obtain⟨b,v,he,hsp⟩:=h
  obtain⟨a,c,rfl,_⟩:=hsp.slice
  exact⟨_,_,_,he⟩
set_option maxRecDepth 20000 in
theorem schemaOk_s (s:ByteArray) (w:World) (hs:s.size≤1048576):Calls Tryz.prog 83 #[.string s] w fun e w'=>e=.returned (.bool (okL s.data.toList))∧Below w.heap.size w w':=by
 have HOF:=hid fun wz=>l3Of s wz hs
 go_enter Tryz.func83,Tryz.ntmps83
 go_wp2_with (go_at_call 71;refine(HOF.out _).mono ?_;rintro e w2 ⟨ho,hb2⟩;obtain⟨a,n,c,rfl⟩:=of_ok ho;have HB2:=hid hb2;clear ho hb2)
 go_ret
 exact⟨rfl,HB2.out⟩
theorem apart_step {v v':Value} {wx w':World} (hg:wx.grownBy w' v.ownBlock) (hl:v'.ownBlock=v.ownBlock∨v'.ownBlock=some wx.heap.size) {b:Nat} (hb:b<wx.heap.size) (ha:some b≠v.ownBlock):w'.heap[b]? = wx.heap[b]? ∧ some b≠v'.ownBlock:=by
 refine⟨hg.block b hb ha, ?_⟩
 rcases hl with h|h
 ·rw[h];exact ha
 ·rw[h];intro e;have:=Option.some.inj e;omega
structure Gat (w w2 wr:World) (e:TypeId) (b:Nat) (v:Value) (n:Nat) (xs:List Value):Prop where
 own:wr.ownsRow w.heap.size e 1 v n xs
 size:w2.heap.size≤wr.heap.size
 block:wr.heap[b]? = w2.heap[b]?
 apart:some b≠v.ownBlock
 below:Below w.heap.size w wr
theorem Gat.cell {w w2 wr:World} {e:TypeId} {b:Nat} {v:Value} {n:Nat} {xs:List Value} (h:Gat w w2 wr e b v n xs) {o:Nat} {u:Value} (hu:w2.cell? ⟨b,o,none⟩=some u):wr.cell? ⟨b,o,none⟩=some u:=(World.cell?_of_block (w:=w2) (a:=⟨b,o,none⟩) h.block).trans hu
theorem Gat.put {w w2 wr w':World} {e:TypeId} {b:Nat} {v v':Value} {n m:Nat} {xs ys:List Value} {o:Obj} (h:Gat w w2 wr e b v n xs) (hb:b<w2.heap.size) (hg:(wr.alloc o).grownBy w' v.ownBlock) (hl:v'.ownBlock=v.ownBlock∨v'.ownBlock=some (wr.alloc o).heap.size) (ho:w'.ownsRow w.heap.size e 1 v' m ys):Gat w w2 w' e b v' m ys:=by
 have hbr:b<wr.heap.size:=Nat.lt_of_lt_of_le hb h.size
 have hs:(wr.alloc o).heap.size=wr.heap.size+1:=by simp
 obtain⟨a1,a2⟩:=apart_step hg hl (by omega) h.apart
 refine⟨ho, ?_, ?_,a2, ?_⟩
 ·have:=hg.size;have:=h.size;omega
 ·rw[a1]
  have hA:=(Below.refl wr.heap.size wr).alloc (Nat.le_refl _) o
  rw[hA.block b hbr,h.block]
 ·refine(h.below.alloc h.below.size o).trans ?_
  refine below_grown2 hg (fun g hgk=>(owns_lt h.own g hgk).1) ?_
  have:=h.below.size;omega
end Go.Proofs.YtmdacedmjbiekaaGreatDoor
