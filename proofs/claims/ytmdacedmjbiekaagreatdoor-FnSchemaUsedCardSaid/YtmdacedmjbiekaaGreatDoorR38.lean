/- Packed by pack.py: Yg Jg Ib La5 Yh Kw. -/
import Derived.Test.YtmdacedmjbiekaaGreatDoorR36
import Derived.Test.YtmdacedmjbiekaaGreatDoorR37
import Derived.Test.YtmdacedmjbiekaaGreatDoorR9
import Derived.BigQuiet
import Derived.Laws.Cover1
import Derived.WalkSpells
import Derived.Test.YtmdacedmjbiekaaGreatDoorR8
import Derived.Test.YtmdacedmjbiekaaGreatDoorR7
namespace Go.Proofs.YtmdacedmjbiekaaGreatDoor
open Go.ChangeShapes Go.WideShapes Go.ChangeAt Go.RowKit Go.Lib
set_option linter.unusedVariables false
set_option linter.unusedSimpArgs false
set_option maxRecDepth 20000 in
set_option maxHeartbeats 2000000 in
theorem schemaUsed_s (s kt:ByteArray) (w:World) (hs:s.size≤1048576):Calls Tryz.prog 14 #[.string s, .string kt] w fun e w'=>(∃ b v,e=.returned (.tuple #[v, .bool (kindOf s.data.toList kt.data.toList).isSome])∧True∧RowAt w' b v ((usedL s.data.toList kt.data.toList).map tx))∧Below w.heap.size w w':=by
 have HLK:=hid fun wz=>l3Kind s kt wz hs
 cases hty:kindOf s.data.toList kt.data.toList with
 | none =>
  have HO:=hid fun lo e wz (h:LkOut s.data.toList kt.data.toList lo e wz)=>(by unfold LkOut at h;rw[hty] at h;exact h:∃ a n c,e=.returned (.tuple #[.slice a n c, .bool false]))
  have HF:=hid (show usedL s.data.toList kt.data.toList=[] by unfold usedL;rw[hty])
  clear hty
  go_enter Tryz.func14,Tryz.ntmps14
  go_wp2_with (go_at_call 35;refine(HLK.out _).mono ?_;rintro e w2 ⟨ho,hb2⟩;obtain⟨a,n,c,rfl⟩:=HO.out _ _ _ ho;have HB2:=hid hb2;clear ho hb2)
  go_ret2
  refine⟨⟨w2.heap.size, .slice (some ⟨w2.heap.size,0,none⟩) 0 0,rfl,trivial, ?_⟩,by have B:=HB2.out;repeat (first|with_reducible exact B|with_reducible refine Below.drew ?_|with_reducible refine Below.alloc ?_ (by first|exact B.size|(simp;done)|(simp;omega)|omega) _)⟩
  rw[HF.out]
  exact⟨_,0,rfl,Nat.le_refl _,by unfold maxLen;omega, .inl rfl⟩
 | some y =>
  obtain⟨hsc,hpk,hhas,hkt,hkl⟩:=kindOf_text hty
  obtain⟨x,k⟩:=y
  have hx:Wf.ScOk x:=Wf.schemaOf_ok hsc
  have HO:=hid fun lo e wz (h:LkOut s.data.toList kt.data.toList lo e wz)=>(by unfold LkOut at h;rw[hty] at h;exact h:∃ b a c,e=.returned (.tuple #[.slice a x.length c, .bool true])∧ScSp wz lo b (.slice a x.length c) x)
  have HF:=hid (show usedL s.data.toList kt.data.toList=Wf.usedN x k by unfold usedL;rw[hty])
  have HUS:=hid fun wz lo b v (h:ScSp wz lo b v x) w2 (h2:Below wz.heap.size wz w2)=>(by
   have hl:=Wf.left_len x []
   have h1:=usedP x hx lo b v wz h (x.length+1) k [] w2.heap.size (.slice (some ⟨w2.heap.size-1,0,none⟩) 0 0) w2 (by omega) (by rw[show k.text=kt.data.toList from hkt];exact hkl) hhas List.Pairwise.nil (by have:=hx.len;simp;omega) h2 ⟨_,0,rfl,Nat.le_refl _,by unfold maxLen;omega, .inl rfl⟩
   rw[show k.text=kt.data.toList from hkt] at h1
   exact h1:Calls Tryz.prog 36 #[v, .string kt, .slice (some ⟨w2.heap.size-1,0,none⟩) 0 0] w2 fun e w'=>(∃ b' v',e=.returned v'∧RowAt w' b' v' ((Wf.usedN x k).map tx))∧Below w2.heap.size w2 w')
  clear hty hsc hpk hhas hkt hkl hx
  go_enter Tryz.func14,Tryz.ntmps14
  go_wp2_with (first|(go_at_call 36;have h:=HUS.out _ _ _ _ HS.out (w2.alloc (.cells #[] 9)) ((Below.refl w2.heap.size w2).alloc (Nat.le_refl _) _);simp only[World.size_alloc,Nat.add_sub_cancel] at h;refine h.mono ?_;clear h;rintro e w3 ⟨⟨b3,v3,rfl,r3⟩,hb3⟩;have R3:=hid r3;have HB3:=hid hb3;clear r3 hb3)|(go_at_call 35;refine(HLK.out _).mono ?_;rintro e w2 ⟨ho,hb2⟩;obtain⟨b,a,c,rfl,hs2⟩:=HO.out _ _ _ ho;have HS:=hid hs2;have HB2:=hid hb2;clear ho hb2 hs2))
  go_ret2
  refine⟨⟨b3,v3,rfl,trivial,by rw[HF.out];exact R3.out⟩, ?_⟩
  have B:=HB2.out.alloc HB2.out.size (.cells #[] 9)
  exact B.trans (HB3.out.mono (by have:=HB2.out.size;omega))

theorem FieldOut.no {W:World} {t:Wf.Ty} {g:Int} {e:Ending} (h:FieldOut W t g e) (hl:fieldI t g=none):e=.returned (.pointer none):=by
 unfold FieldOut at h;rw[hl] at h;exact h
theorem FieldOut.yes {W:World} {t:Wf.Ty} {g:Int} {e:Ending} {f:Wf.Fd} (h:FieldOut W t g e) (hl:fieldI t g=some f):∃ fb o,e=.returned (.pointer (some ⟨fb,o,none⟩))∧FdAt W fb o t.sort f:=by
 unfold FieldOut at h;rw[hl] at h;exact h

def MarkedI (w:World) (b o k n i:Nat):Prop:=b<w.heap.size∧∀ j,j<n→∃ s:Int,w.cell? ⟨b,o+j,none⟩=some (.int .i64 s)∧w.frozen? ⟨b,o+j,none⟩=false∧(j<i→s=((k+j:Nat):Int))
theorem MarkedI.step {w:World} {b o k n i:Nat} (h:MarkedI w b o k n i) (hi:i<n):MarkedI (w.setCell ⟨b,o+i,none⟩ (.int .i64 ((k:Int)+i))) b o k n (i+1):=by
 obtain⟨h1,h2⟩:=h
 refine⟨Nat.lt_of_lt_of_le h1 (by simp),fun j hj => ?_⟩
 obtain⟨s,h3,h4,h5⟩:=h2 j hj
 by_cases hji:j=i
 ·subst hji
  exact⟨_,World.cell?_setCell_same w _ _ h3,by simpa using h4,fun _=>by simp⟩
 ·exact⟨s,(World.cell?_setCell_other w _ _ _ (by first|(simp;done)|(simp;omega))).trans h3,by simpa using h4,fun hlt=>h5 (by omega)⟩
end Go.Proofs.YtmdacedmjbiekaaGreatDoor

namespace Go.Proofs.YtmdacedmjbiekaaGreatDoor
open Go.ChangeShapes Go.WideShapes Go.ChangeAt Go.RowKit Go.Lib
set_option linter.unusedVariables false
theorem ml_of (w:World) (h:w.ShapedOpen Tryz.prog):∃ m,ML m w:=Tryz.laysM145.s1_3 w h
theorem RowAt.beside' {w w':World} {b rb:Nat} {v:Value} {xs:List Value} (h:RowAt w b v xs) (hb:Beside rb w w') (hB:xs=[]∨b≠rb):RowAt w' b v xs:=by
 rcases hB with hB|hB
 ·subst hB
  obtain⟨a,cap,h1,h2,h3,_⟩:=h
  exact⟨a,cap,h1,h2,h3, .inl rfl⟩
 ·exact h.beside hb hB
theorem RowAt.lt {w:World} {b:Nat} {v:Value} {xs:List Value} (h:RowAt w b v xs):xs=[]∨b<w.heap.size:=by
 obtain⟨a,cap,h1,h2,h3,h4|⟨o,h5,h6,h7⟩⟩:=h
 ·exact .inl h4
 ·exact .inr h6
theorem RowAt.below' {w w':World} {b:Nat} {v:Value} {xs:List Value} (h:RowAt w b v xs) (hb:Below w.heap.size w w'):RowAt w' b v xs:=h.below hb id
theorem marked1 (m:Int) (b:Nat) (v:Value) (w:World) (l:List (List UInt8)) (hn:l.length≤1000000) (hm:m=1+l.length) (H:RowAt w b v (l.map tx)):Calls Tryz.prog 17 #[v, .int .i64 1] w fun e w'=>e=.returned (.int .i64 m)∧RowAt w' b v (mks 1 l.length)∧Beside b w w':=by
 rw[hm];exact marked 1 (by omega) b v w l (by omega) H
theorem held1 (m:Int) (b:Nat) (v:Value) (w:World) (n:Nat) (hn:n≤1000000) (hm:m=1+n) (H:RowAt w b v (mks 1 n)):Calls Tryz.prog 18 #[v, .int .i64 1] w fun e w'=>e=.returned (.int .i64 m)∧Below w.heap.size w w':=by
 rw[hm];exact held 1 (by omega) b v w n (by omega) H
theorem ML.drewN {m:Int} {w:World} (h:ML m w) (n:Nat):ML m (w.drewN n):=h.below (bel_drewN (Below.refl _ _) n)
theorem ML.beside {m:Int} {w w':World} {rb:Nat} (h:ML m w) (hb:Beside rb w w') (hn:0≠rb):ML m w':=(hb.cell (p:=⟨0,0,none⟩) h.lt hn).trans h
theorem ML.ne {m:Int} {w:World} {k:Nat} (h:ML m w) (hk:w.heap.size≤k):0≠k:=by have:=h.lt;omega
end Go.Proofs.YtmdacedmjbiekaaGreatDoor

namespace Go.Proofs.YtmdacedmjbiekaaGreatDoor
open Go.ChangeShapes Go.WideShapes Go.ChangeAt Go.RowKit Go.Lib
theorem used_next {l kt nm:List UInt8} (h:nm∈usedL l kt):(kindOf l (64::(nm++[59]))).isSome=true∧(usedL l (64::(nm++[59]))).length≤(usedL l kt).length∧nm.length≤3:=by
 unfold usedL at h
 cases hk:kindOf l kt with
 | none=>rw[hk] at h;exact absurd h List.not_mem_nil
 | some y =>
  rw[hk] at h
  obtain⟨x,k⟩:=y
  obtain⟨h1,_,h3,_,_⟩:=kindOf_text hk
  have hx:=Wf.schemaOf_ok h1
  obtain⟨t,ht⟩:=Wf.usedN_found hx h3 h
  have hn:Wf.isName nm=true:=by
   have:=(hx.tys t (Wf.find_mem ht).1).name
   rw[(Wf.find_mem ht).2] at this
   exact this
  have hhas:Wf.hasRef x (.ref nm)=true:=by
   unfold Wf.hasRef
   rw[Bool.or_eq_true]
   exact .inr (by show(x.find nm).isSome=true;rw[ht];rfl)
  have hr:kindOf l (64::(nm++[59]))=some (x, .ref nm):=by
   unfold kindOf
   rw[h1]
   dsimp only
   rw[Wf.parseK_ref hn]
   dsimp only
   rw[if_pos hhas]
  refine⟨by rw[hr];rfl, ?_, ?_⟩
  ·unfold usedL
   rw[hr,hk]
   exact Wf.usedN_len h
  ·unfold Wf.isName at hn
   simp only[Bool.and_eq_true,decide_eq_true_eq] at hn
   exact hn.1.2
theorem used_asc (l kt:List UInt8):Wf.AscB (usedL l kt):=by
 unfold usedL
 cases kindOf l kt with
 | none=>exact List.Pairwise.nil
 | some y=>exact Wf.usedN_asc _ _
theorem asc_less {L:List (List UInt8)} (h:Wf.AscB L) {i:Nat} (hi:i+1<L.length) {X Y:ByteArray} (hX:X.data.toList=L[i]) (hY:Y.data.toList=L[i+1]):Op.bytesLess X.toList Y.toList=true:=by
 rw[less_eq,ByteArray.toList_eq,ByteArray.toList_eq,hX,hY]
 exact decide_eq_true (List.pairwise_iff_getElem.1 h i (i+1) (by omega) hi (by omega))
theorem at_name (X:ByteArray):((⟨#[64]⟩:ByteArray)++X++⟨#[59]⟩).data.toList=64::(X.data.toList++[59]):=by simp
end Go.Proofs.YtmdacedmjbiekaaGreatDoor

namespace Go.Proofs.YtmdacedmjbiekaaGreatDoor
open Go.ChangeShapes Go.WideShapes Go.ChangeAt Go.RowKit Go.Lib
set_option linter.unusedVariables false
theorem cell_pick (c:List Value) {w1 w2:World} {rb et:Nat} (hb:Beside rb (w1.alloc (.cells c.toArray et)) w2) (hr:rb<w1.heap.size) (v:Int) (h0:0≤v) (h1:v<c.length):∃ x∈c,w2.cell? ⟨w1.heap.size,v.toNat,none⟩=some x:=by
 refine⟨c[v.toNat]'(by omega),List.getElem_mem _, ?_⟩
 refine hb.cell_some ?_ (by omega)
 simp[List.getElem?_eq_getElem (show v.toNat<c.length by omega)]
theorem cell_picks (m:Nat) (l:List (List UInt8)) {w1 w2:World} {rb et:Nat} (hb:Beside rb (w1.alloc (.cells (l.map tx).toArray et)) w2) (hr:rb<w1.heap.size) (v:Int) (h0:0≤v) (h1:v<l.length) (hl:(l.all fun n=>decide (n.length≤m))=true):∃ x:ByteArray,x.size≤m∧x.data.toList∈l∧w2.cell? ⟨w1.heap.size,v.toNat,none⟩=some (.string x):=by
 obtain⟨x,hx,hc⟩:=cell_pick _ hb hr v h0 (by simpa using h1)
 obtain⟨n,hn,rfl⟩:=List.mem_map.1 hx
 have:=List.all_eq_true.1 hl n hn
 exact⟨⟨n.toArray⟩,by simpa[tx_size] using this,hn,hc⟩
set_option maxRecDepth 20000 in
set_option maxHeartbeats 1000000 in
theorem l91Kind (rb k:Nat) (w:World) (H:Rd w rb k) (hk:k≤900000) :
  Calls Tryz.prog 86 #[.pointer (some ⟨rb,0,none⟩)] w fun e w'=>∃ s:ByteArray,e=.returned (.string s)∧s.size≤100∧Rd w' rb (k+7)∧Beside rb w w':=by
 have R0:=H.lt
 go_enter Tryz.func86,Tryz.ntmps86
 go_wp2_with (first|(go_at_call 44;refine(pick rb (k+1) 4 _ hR2 (by omega) (by omega)).mono ?_;rintro e w3 ⟨n,rfl,hn,_,hR3,hBs3⟩;obtain⟨hn0,hn1⟩:=hn (by omega);have B3:=Lib.hid (B2.out.trans hBs3);clear hBs3)|(go_at_call 44;refine(pick rb k 8 _ (H.alloc _) (by omega) (by omega)).mono ?_;rintro e w2 ⟨v,rfl,hv,_,hR2,hBs⟩;obtain⟨hv0,hv1⟩:=hv (by omega);obtain⟨x,hx0,hx1,hxc⟩:=cell_picks 3 [[110],[116],[102],[110],[116],[64,97,59],[64,98,59],[64,99,59]] hBs H.lt v hv0 hv1 (by decide);have B2:=Lib.hid (((Beside.refl rb w).alloc _).trans hBs);clear hBs))
 go_loopw [3,4] (fun v3 v4 wr=>∃ (t:ByteArray) (i:Int) (m:Nat),v3=.string t∧v4=.int .i64 i∧0≤i∧i≤3∧m+i.toNat≤5∧t.size≤10 * m∧m≤5∧Rd wr rb (k+m)∧Hid (Beside rb w wr)) (fun _ v _=>(RowKit.intOf v).toNat)
 case atStart=>exact⟨x,n,2,rfl,rfl,hn0,by omega,by omega,by omega,by omega,hR3,B3⟩
 case round =>
  obtain⟨t,i,m,rfl,rfl,hi0,hi1,hm,ht,hm5,hR,hBB⟩:=hrel
  by_cases hi:1<i
  ·go_wp2_with (go_at_call 44;refine(pick rb (k+m) 3 _ (hR.alloc _) (by omega) (by omega)).mono ?_;rintro e w4 ⟨u,rfl,hu,_,hR4,hBs4⟩;obtain⟨hu0,hu1⟩:=hu (by omega);obtain⟨y,hy0,hy1,hyc⟩:=cell_picks 1 [[91],[63],[91]] hBs4 hR.lt u hu0 hu1 (by decide);have B4:=Lib.hid ((hBB.out.alloc _).trans hBs4);clear hBs4)
   go_roundw
   case rel=>exact⟨_,_,m+1,rfl,rfl,by omega,by omega,by omega,by simp[ByteArray.size_append];omega,by omega,hR4,B4⟩
   case measure=>simp[RowKit.intOf];omega
  ·go_wp2_with (first|(go_at_call 44;refine(pick rb (k+m+1) 8 _ (hR5.alloc _) (by omega) (by omega)).mono ?_;rintro e w6 ⟨v6,rfl,hv6,_,hR6,hBs6⟩;obtain⟨hv60,hv61⟩:=hv6 (by omega);obtain⟨z,hz0,hz1,hzc⟩:=cell_picks 20 [[],[120],[64,59],[64,65,59],[91],[63,63,63,63,63,63,63,63,63,63,63,63,63,63,110],[64,97],[110,110]] hBs6 hR5.lt v6 hv60 hv61 (by decide);have B6:=Lib.hid ((B5.out.alloc _).trans hBs6);clear hBs6)|(go_at_call 44;refine(pick rb (k+m) 30 _ hR (by omega) (by omega)).mono ?_;rintro e w5 ⟨v5,rfl,hv5,_,hR5,hBs5⟩;have B5:=Lib.hid (hBB.out.trans hBs5);clear hBs5 hv5))
   all_goals go_ret
   ·exact⟨z,rfl,by omega,hR6.mono (by omega),B6.out⟩
   ·exact⟨t,rfl,by omega,hR5.mono (by omega),B5.out⟩
end Go.Proofs.YtmdacedmjbiekaaGreatDoor
