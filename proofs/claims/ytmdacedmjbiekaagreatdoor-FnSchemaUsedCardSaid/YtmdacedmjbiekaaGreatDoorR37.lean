/- Packed by pack.py: Yf. -/
import Derived.Test.YtmdacedmjbiekaaGreatDoorR32
import Derived.Test.YtmdacedmjbiekaaGreatDoorR23
import Derived.Test.YtmdacedmjbiekaaGreatDoorR36
import Derived.Deep.RegionHeldLaw
namespace Go.Proofs.YtmdacedmjbiekaaGreatDoor
open Go.ChangeShapes Go.WideShapes Go.ChangeAt Go.RowKit Go.Lib
set_option linter.unusedVariables false
set_option linter.unusedSimpArgs false
theorem less_eq:∀ (x y:List UInt8),Op.bytesLess x y=decide (x<y)
 | [],[]=>by simp[Op.bytesLess]
 | _::_,[]=>by simp[Op.bytesLess]
 | [],_::_=>by simp[Op.bytesLess]
 | a::x,b::y=>by
  rw[Op.bytesLess,less_eq x y]
  simp only[List.cons_lt_cons_iff]
  by_cases h1:a<b <;> by_cases h2:a=b <;> by_cases h3:x<y <;> simp[h1,h2,h3]
theorem used_ref:∀ k:Wf.K,refV k.core.text=match k.refN with|some nm=>.tuple #[tx nm, .bool true]|none=>.tuple #[tx [], .bool false]
 | .num=>rfl
 | .txt=>rfl
 | .flag=>rfl
 | .ref n=>by
  show refV (64::(n++[59]))=.tuple #[tx n, .bool true]
  rw[refV,if_pos rfl,List.dropLast_concat]
 | .list k=>used_ref k
 | .opt k=>used_ref k
theorem one_map (l:List (List UInt8)):∀ u∈l.map tx,u.oneCell'=true:=fun u hu=>by
 obtain⟨a,_,rfl⟩:=List.mem_map.1 hu
 rfl
theorem step_first {ops:Array Oper} {o:Oper} {act:Act} {K:Act→World→Prop} {Q:Exit→Act→World→Prop} {E:Prop} {wr wx:World} {b49 n rb:Nat} {Y:Value} {xs:List Value} (s x:Operand) (hgd:o.guard=none) (ho:o.op=.call { callee:=.builtin .append,args:=#[s,x],argTypes:=#[22,22] })
  (hown:wx.ownsRow wr.heap.size 9 1 (.slice (some ⟨b49,0,none⟩) 0 0) 0 []) (hB:Below wr.heap.size wr wx) (hr:RowAt wr rb Y xs) (hl:xs.length=n) (h1:∀ u∈xs,u.oneCell'=true) (hn:n≤100) (hs:act.eval s=.slice (some ⟨b49,0,none⟩) 0 0) (hx:act.eval x=Y)
  (h:∀ v1 w4,w4.ownsRow wr.heap.size 9 1 v1 n xs→Below wr.heap.size wr w4→(∀ zb o,zb≠b49→wx.heap[zb]? = some o→w4.heap[zb]? = some o)→K (act.put o.dst v1) w4) :
  if Region.wanted o (yielded ops act.tmps)=true then Oper.wp Tryz.prog o act wx K Q else E:=by
 refine step_app_row s x hgd ho hB.size hown (hr.below hB id) h1 (by omega) hs hx fun v' w4 h2 h3 h4 => ?_
 rw[List.nil_append,Nat.zero_add,hl] at h2
 refine h v' w4 h2 (hB.trans h4) fun zb ob hz hob => ?_
 rw[h3.block zb (Array.getElem?_eq_some_iff.1 hob).1 (by intro e;exact hz (Option.some.inj e))]
 exact hob
theorem step_mid {ops:Array Oper} {o:Oper} {act:Act} {K:Act→World→Prop} {Q:Exit→Act→World→Prop} {E:Prop} {wr wx:World} {zb n:Nat} {v:Value} {xs:List Value} {NM:ByteArray} (s x:Operand) (hgd:o.guard=none) (ho:o.op=.call { callee:=.builtin .append,args:=#[s,x],argTypes:=#[22,22] })
  (hown:wx.ownsRow wr.heap.size 9 1 v n xs) (hB:Below wr.heap.size wr wx) (hz:wx.heap[zb]? = some (.cells #[.string NM] 9)) (hn:n≤100) (hs:act.eval s=v) (hx:act.eval x=.slice (some ⟨zb,0,none⟩) 1 1)
  (h:∀ v1 w4,w4.ownsRow wr.heap.size 9 1 v1 (n+1) (xs++[.string NM])→Below wr.heap.size wr w4→K (act.put o.dst v1) w4) :
  if Region.wanted o (yielded ops act.tmps)=true then Oper.wp Tryz.prog o act wx K Q else E :=
 step_app_row s x hgd ho hB.size hown (RowAt.one hz) (fun u hu=>by rw[List.mem_singleton.1 hu];rfl) (by simp;omega) hs hx fun v' w4 h2 h3 h4=>h v' w4 h2 (hB.trans h4)
theorem step_last {ops:Array Oper} {o:Oper} {act:Act} {K:Act→World→Prop} {Q:Exit→Act→World→Prop} {E:Prop} {wr wx:World} {rb n:Nat} {v Y:Value} {xs ys zs:List Value} (s x:Operand) (hgd:o.guard=none) (ho:o.op=.call { callee:=.builtin .append,args:=#[s,x],argTypes:=#[22,22] })
  (hown:wx.ownsRow wr.heap.size 9 1 v n xs) (hB:Below wr.heap.size wr wx) (hr:RowAt wr rb Y ys) (h1:∀ u∈ys,u.oneCell'=true) (hn:n+ys.length≤1000) (hz:xs++ys=zs) (hs:act.eval s=v) (hx:act.eval x=Y)
  (h:∀ v1 w4 b,RowAt w4 b v1 zs→Below wr.heap.size wr w4→K (act.put o.dst v1) w4) :
  if Region.wanted o (yielded ops act.tmps)=true then Oper.wp Tryz.prog o act wx K Q else E:=by
 subst hz
 refine step_app_row s x hgd ho hB.size hown (hr.below hB id) h1 hn hs hx fun v' w4 h2 h3 h4 => ?_
 have h5:(xs++ys).length=n+ys.length:=by have:=h2.1;omega
 rw[← h5] at h2
 obtain⟨b,_,h6⟩:=RowAt.of_owns h2
 exact h v' w4 b h6 (hB.trans h4)
set_option maxRecDepth 20000 in
set_option maxHeartbeats 4000000 in
theorem used_no (x:Wf.Sc) (n:Nat) (k:Wf.K) (hk:k.text.length≤12) (out:List (List UInt8)) (v vo:Value) (b:Nat) (wr:World) (hn:k.refN=none) (hr:RowAt wr b vo (out.map tx)):Calls Tryz.prog 36 #[v,tx k.text,vo] wr fun e w'=>(∃ b' v',e=.returned v'∧RowAt w' b' v' ((Wf.visit x Wf.insB n k out).map tx))∧Below wr.heap.size wr w':=by
 have HV:=hid (show Wf.visit x Wf.insB n k out=out by
  cases n with
  | zero=>rfl
  | succ n=>simp only[Wf.visit,hn])
 have hC:=l2Core_text k (by omega)
 have hF:=l2Ref_text k.core (by have:=core_len k;omega)
 rw[used_ref,hn] at hF
 obtain⟨KT,hKT⟩:∃ KT:ByteArray,(⟨k.text.toArray⟩:ByteArray)=KT:=⟨_,rfl⟩
 obtain⟨CT,hCT⟩:∃ CT:ByteArray,(⟨k.core.text.toArray⟩:ByteArray)=CT:=⟨_,rfl⟩
 simp only[tx,hKT,hCT] at hC hF
 rw[tx,hKT]
 have HC:=hid hC
 have HF:=hid hF
 have HR:=hid hr
 clear hC hF hKT hCT hr hn
 go_enter Tryz.func36,Tryz.ntmps36
 go_wp2_with (first|(go_at_call 73;refine(HF.out _).mono ?_;rintro e w2 ⟨rfl,rfl⟩)|(go_at_call 74;refine(HC.out _).mono ?_;rintro e w1 ⟨rfl,rfl⟩))
 exact bodyPost_ret (v:=vo) (by simp[results,Tryz.results36,go_sem, *]) rfl ⟨⟨b,vo,rfl,by rw[HV.out];exact HR.out⟩,Below.refl _ _⟩
set_option maxRecDepth 20000 in
set_option maxHeartbeats 4000000 in
theorem used_in (x:Wf.Sc) (n:Nat) (k:Wf.K) (hk:k.text.length≤12) (out:List (List UInt8)) (v vo:Value) (b:Nat) (wr:World) (nm:List UInt8) (hn:k.refN=some nm) (hasc:Wf.AscB out) (hin:nm∈out) (hlen:out.length≤100) (hr:RowAt wr b vo (out.map tx)):Calls Tryz.prog 36 #[v,tx k.text,vo] wr fun e w'=>(∃ b' v',e=.returned v'∧RowAt w' b' v' ((Wf.visit x Wf.insB n k out).map tx))∧Below wr.heap.size wr w':=by
 have HV:=hid (show Wf.visit x Wf.insB n k out=out by
  cases n with
  | zero=>rfl
  | succ n=>simp only[Wf.visit,hn,if_pos hin])
 have hC:=l2Core_text k (by omega)
 have hF:=l2Ref_text k.core (by have:=core_len k;omega)
 rw[used_ref,hn] at hF
 obtain⟨KT,hKT⟩:∃ KT:ByteArray,(⟨k.text.toArray⟩:ByteArray)=KT:=⟨_,rfl⟩
 obtain⟨CT,hCT⟩:∃ CT:ByteArray,(⟨k.core.text.toArray⟩:ByteArray)=CT:=⟨_,rfl⟩
 obtain⟨NM,hNM⟩:∃ NM:ByteArray,(⟨nm.toArray⟩:ByteArray)=NM:=⟨_,rfl⟩
 have hnm:NM.toList=nm:=by rw[← hNM,ByteArray.toList_eq]
 simp only[tx,hKT,hCT,hNM] at hC hF
 rw[tx,hKT]
 have HC:=hid hC
 have HF:=hid hF
 obtain⟨p,hp,hpe⟩:=List.getElem_of_mem hin
 obtain⟨m,hm⟩:∃ m,out.length=m:=⟨_,rfl⟩
 have hpm:p<m:=by omega
 have HL:=hid fun j (hj:j<out.length) (hjp:j<p)=>(show out[j]<nm by rw[← hpe];exact List.pairwise_iff_getElem.1 hasc j p hj hp hjp)
 have HP:=hid hpe
 have HR:=hid hr
 obtain⟨a,c,rfl⟩:∃ a c,vo=.slice a m c:=by
  obtain⟨a,c,h,_⟩:=hr
  exact⟨a,c,by rw[h,List.length_map,hm]⟩
 have HM:=hid hm
 have HNL:=hid hnm
 clear hC hF hKT hCT hNM hr hn hpe hin hasc hm hnm
 go_enter Tryz.func36,Tryz.ntmps36
 go_wp2_with (first|(go_at_call 73;refine(HF.out _).mono ?_;rintro e w2 ⟨rfl,rfl⟩)|(go_at_call 74;refine(HC.out _).mono ?_;rintro e w1 ⟨rfl,rfl⟩))
 go_loopw [9] (fun v9 wl=>∃ i:Nat,v9=.int .i64 i∧i≤p∧wr=wl) (fun v9 _=>p-(RowKit.intOf v9).toNat)
 case atStart=>exact⟨0,rfl,Nat.zero_le _,rfl⟩
 case round =>
  obtain⟨i,rfl,hi,rfl⟩:=hrel
  have him:i<m:=by omega
  have hix:i<out.length:=by rw[HM.out];exact him
  obtain⟨o,rfl,hb,_,_,ci⟩:=HR.out.nth (i:=i) (by rw[List.length_map];exact hix)
  rw[List.getElem_map] at ci
  obtain⟨X,hX⟩:∃ X:ByteArray,(⟨(out[i]).toArray⟩:ByteArray)=X:=⟨_,rfl⟩
  rw[tx,hX] at ci
  have hXl:X.toList=out[i]:=by rw[← hX,ByteArray.toList_eq]
  have hbl:=less_eq X.toList NM.toList
  rw[hXl,HNL.out] at hbl
  by_cases hlt:i<p
  ·rw[decide_eq_true (HL.out i hix hlt),← hXl,← HNL.out] at hbl
   clear hX hXl
   go_wp2
   go_roundw
   case rel=>exact⟨i+1,by go_num,by omega,by first|rfl|trivial⟩
   case measure=>simp[RowKit.intOf];omega
  ·have hip:i=p:=by omega
   subst hip
   have he:(X.toList==NM.toList)=true:=by rw[hXl,HNL.out,HP.out];exact beq_self_eq_true _
   rw[decide_eq_false (by rw[HP.out];exact Wf.bs_irrefl nm),← hXl,← HNL.out] at hbl
   clear hX hXl
   go_wp2
   exact bodyPost_ret (v:=.slice (some ⟨b,o,none⟩) m c) (by simp[results,Tryz.results36,go_sem, *]) rfl ⟨⟨b,_,rfl,by rw[HV.out];exact HR.out⟩,Below.refl _ _⟩
theorem asc_split (a:List UInt8):∀ l:List (List UInt8),∃ p,p≤l.length∧(∀ j (hj:j<l.length),j<p→l[j]<a)∧∀ h:p<l.length,¬ l[p]<a
 | []=>⟨0,Nat.le_refl _,fun j hj=>absurd hj (by simp),fun h=>absurd h (by simp)⟩
 | b::l=>by
  by_cases hb:b<a
  ·obtain⟨p,h1,h2,h3⟩:=asc_split a l
   refine⟨p+1,by simp;omega,fun j hj hjp => ?_,fun h=>by simpa using h3 (by simpa using h)⟩
   cases j with
   | zero=>exact hb
   | succ j=>exact h2 j (by simpa using hj) (by omega)
  ·exact⟨0,Nat.zero_le _,fun j _ h=>absurd h (by omega),fun _=>hb⟩
set_option maxRecDepth 20000 in
set_option maxHeartbeats 8000000 in
theorem usedP (x:Wf.Sc) (hx:Wf.ScOk x) (lo bsc:Nat) (v:Value) (W:World) (H:ScSp W lo bsc v x):∀ (n:Nat) (k:Wf.K) (out:List (List UInt8)) (b:Nat) (vo:Value) (wr:World),Wf.left x out<n→k.text.length≤12→Wf.hasRef x k=true→Wf.AscB out→out.length+Wf.left x out≤99→Below W.heap.size W wr→RowAt wr b vo (out.map tx) →
  Calls Tryz.prog 36 #[v,tx k.text,vo] wr fun e w'=>(∃ b' v',e=.returned v'∧RowAt w' b' v' ((Wf.visit x Wf.insB n k out).map tx))∧Below wr.heap.size wr w':=by
 intro n
 induction n with
 | zero=>intro k out b vo wr h;omega
 | succ n ih =>
  intro k out b vo wr hl hk hhas hasc hroom hW hrow
  cases hrn:k.refN with
  | none=>exact used_no x (n+1) k hk out v vo b wr hrn hrow
  | some nm =>
   by_cases hin:nm∈out
   ·exact used_in x (n+1) k hk out v vo b wr nm hrn hasc hin (by omega) hrow
   obtain⟨t,ht⟩:=Wf.refN_has hhas hrn
   have hC:=l2Core_text k (by omega)
   have hF:=l2Ref_text k.core (by have:=core_len k;omega)
   rw[used_ref,hrn] at hF
   obtain⟨KT,hKT⟩:∃ KT:ByteArray,(⟨k.text.toArray⟩:ByteArray)=KT:=⟨_,rfl⟩
   obtain⟨CT,hCT⟩:∃ CT:ByteArray,(⟨k.core.text.toArray⟩:ByteArray)=CT:=⟨_,rfl⟩
   obtain⟨NM,hNM⟩:∃ NM:ByteArray,(⟨nm.toArray⟩:ByteArray)=NM:=⟨_,rfl⟩
   have hnm:NM.toList=nm:=by rw[← hNM,ByteArray.toList_eq]
   have hnd:NM.data.toList=nm:=by rw[← hNM]
   simp only[tx,hKT,hCT,hNM] at hC hF
   rw[tx,hKT]
   have HC:=hid hC
   have HF:=hid hF
   obtain⟨m,hm⟩:∃ m,out.length=m:=⟨_,rfl⟩
   obtain⟨p,hp,hlo,hhi⟩:=asc_split nm out
   have hm99:m≤99:=by omega
   have hpm:p≤m:=by omega
   have HINS:=hid (Wf.insB_at hp hlo hhi)
   obtain⟨a,c,rfl⟩:∃ a c,vo=.slice a m c:=by
    obtain⟨a,c,h,_⟩:=hrow
    exact⟨a,c,by rw[h,List.length_map,hm]⟩
   obtain⟨Y1,Y2,ks1,ks2,r1,r2⟩:=hrow.cut hpm
   have HFIND:=hid fun(wz:World) (hz:Below W.heap.size W wz)=>(by
    have h:=l3find x lo bsc v NM W wz hz (by have:=hx.len;omega) H
    refine h.mono ?_
    rintro e w' ⟨ho,hb⟩
    unfold FindOut at ho
    rw[hnd,ht] at ho
    exact⟨ho,hb⟩:Calls Tryz.prog 75 #[v, .string NM] wz fun e w'=>(∃ fb a c,e=.returned (.tuple #[.agg #[.int .u8 t.sort.toNat,tx t.name, .slice a t.fields.length c], .bool true])∧lo≤fb∧RowK W fb (.slice a t.fields.length c) 4 (t.fields.map (fdS t.sort)))∧Below wz.heap.size wz w')
   obtain⟨q,hq⟩:∃ q,t.sort.toNat=q:=⟨_,rfl⟩
   obtain⟨TN,hTN⟩:∃ TN:ByteArray,(⟨t.name.toArray⟩:ByteArray)=TN:=⟨_,rfl⟩
   obtain⟨nf,hnf⟩:∃ nf,t.fields.length=nf:=⟨_,rfl⟩
   simp only[hq,tx,hTN,hnf] at HFIND
   have hV:Wf.visit x Wf.insB (n+1) k out=if t.sort=69 then Wf.insB nm out else t.fields.foldl (fun o f=>Wf.visit x Wf.insB n f.kind o) (Wf.insB nm out):=by
    simp only[Wf.visit,hrn,if_neg hin,ht]
   obtain⟨VV,hVV⟩:∃ VV,Wf.visit x Wf.insB (n+1) k out=VV:=⟨_,rfl⟩
   rw[hVV] at hV ⊢
   have hasc0:=Wf.asc_insB hasc nm hin
   have hlt0:=Wf.left_lt Wf.insB_ok (o:=out) ht hin
   have hroom0:(Wf.insB nm out).length+Wf.left x (Wf.insB nm out)≤99:=by rw[Wf.insB_len];omega
   obtain⟨A0,hA0⟩:∃ A0,Wf.insB nm out=A0:=⟨_,rfl⟩
   rw[hA0] at hV hasc0 hlt0 hroom0 HINS
   obtain⟨TK,hTK⟩:∃ TK,(out.map tx).take p=TK:=⟨_,rfl⟩
   obtain⟨TD,hTD⟩:∃ TD,(out.map tx).drop p=TD:=⟨_,rfl⟩
   have HZS:=hid (show(TK++[.string NM])++TD=A0.map tx by
    rw[HINS.out,← hTK,← hTD,List.map_append,List.map_cons,List.map_take,List.map_drop,tx,hNM]
    simp)
   have HTK1:=hid (show ∀ u∈TK,u.oneCell'=true from fun u hu=>one_map out u (by rw[← hTK] at hu;exact List.mem_of_mem_take hu))
   have HTD1:=hid (show ∀ u∈TD,u.oneCell'=true from fun u hu=>one_map out u (by rw[← hTD] at hu;exact List.mem_of_mem_drop hu))
   have HTKL:=hid (show TK.length=p by rw[← hTK,List.length_take,List.length_map];omega)
   have HTDL:=hid (show TD.length≤99 by rw[← hTD,List.length_drop,List.length_map];omega)
   rw[hTK] at r1
   rw[hTD] at r2
   have R1:=hid r1
   have R2:=hid r2
   have HROW:=hid hrow
   have HM:=hid hm
   have HNL:=hid hnm
   have HLO:=hid hlo
   have HHI:=hid fun(h:p<out.length)=>(⟨hhi h,fun e=>hin (by rw[← e];exact List.getElem_mem h)⟩:¬ out[p]<nm∧out[p]≠nm)
   have HWW:=hid hW
   have HIH:=hid ih
   have HV:=hid hV
   have HAS:=hid (show Wf.AscB A0∧A0.length+Wf.left x A0≤99∧Wf.left x A0<n from⟨hasc0,hroom0,by omega⟩)
   have HQ:=hid hq
   have HNF:=hid hnf
   have HT:=hid ht
   have OA:=hid (World.ownsRow_made (base:=wr.heap.size) (e:=9) (size:=1) wr #[] 0 (Nat.le_refl _) (by decide) rfl)
   have OC:=hid (show((wr.alloc (.cells #[.string NM] 9)).alloc (.cells #[] 9)).ownsRow wr.heap.size 9 1 (.slice (some ⟨wr.heap.size+1,0,none⟩) 0 0) 0 [] by
    have h:=World.ownsRow_made (base:=wr.heap.size) (e:=9) (size:=1) (wr.alloc (.cells #[.string NM] 9)) #[] 0 (by simp) (by decide) rfl
    simpa using h)
   have NB:=hid (show((wr.alloc (.cells #[] 9)).alloc (.cells #[.string NM] 9)).heap[wr.heap.size+1]? = some (.cells #[.string NM] 9) by
    have h:=heap_alloc_last (wr.alloc (.cells #[] 9)) (.cells #[.string NM] 9)
    simpa using h)
   have NC:=hid (show((wr.alloc (.cells #[.string NM] 9)).alloc (.cells #[] 9)).heap[wr.heap.size]? = some (.cells #[.string NM] 9) by
    exact(heap_alloc_old _ _ (by simp)).trans (heap_alloc_last wr _))
   clear hC hF hKT hCT hNM hnm hnd hin hhi hlo hp hm hrow r1 r2 hW ih hV hVV hasc0 hlt0 hroom0 hA0 hTK hTD HINS hq hTN hnf ht hhas hasc hl hroom hrn
   go_enter Tryz.func36,Tryz.ntmps36
   go_wp2_with (first|(go_at_call 73;refine(HF.out _).mono ?_;rintro e w2 ⟨rfl,rfl⟩)|(go_at_call 74;refine(HC.out _).mono ?_;rintro e w1 ⟨rfl,rfl⟩))
   go_loopw [9] (fun v9 wl=>∃ i:Nat,v9=.int .i64 i∧i≤p∧wr=wl) (fun v9 _=>p-(RowKit.intOf v9).toNat)
   case atStart=>exact⟨0,rfl,Nat.zero_le _,rfl⟩
   case round =>
    obtain⟨i,rfl,hi,rfl⟩:=hrel
    by_cases hlt:i<p
    ·have him:i<m:=by omega
     have hix:i<out.length:=by rw[HM.out];exact him
     obtain⟨o,rfl,hb,_,_,ci⟩:=HROW.out.nth (i:=i) (by rw[List.length_map];exact hix)
     rw[List.getElem_map] at ci
     obtain⟨X,hX⟩:∃ X:ByteArray,(⟨(out[i]).toArray⟩:ByteArray)=X:=⟨_,rfl⟩
     rw[tx,hX] at ci
     have hXl:X.toList=out[i]:=by rw[← hX,ByteArray.toList_eq]
     have hbl:=less_eq X.toList NM.toList
     rw[decide_eq_true (by rw[hXl,HNL.out];exact HLO.out i hix hlt)] at hbl
     clear hX hXl ks1 ks2
     go_wp2
     go_roundw
     case rel=>exact⟨i+1,by go_num,by omega,by first|rfl|trivial⟩
     case measure=>simp[RowKit.intOf];omega
    ·have hip:i=p:=by omega
     subst hip
     have hcase:(¬ i<m)∨(i<m∧∃ o X,a=some ⟨b,o,none⟩∧wr.cell? ⟨b,o+i,none⟩=some (.string X)∧Op.bytesLess X.toList NM.toList=false∧(X.toList==NM.toList)=false):=by
      by_cases him:i<m
      ·have hix:i<out.length:=by rw[HM.out];exact him
       obtain⟨o,ha,hb,_,_,ci⟩:=HROW.out.nth (i:=i) (by rw[List.length_map];exact hix)
       rw[List.getElem_map] at ci
       refine .inr ⟨him,o,⟨(out[i]).toArray⟩,ha,ci, ?_, ?_⟩
       ·rw[less_eq,HNL.out,ByteArray.toList_eq]
        exact decide_eq_false (HHI.out hix).1
       ·rw[HNL.out,ByteArray.toList_eq]
        exact beq_eq_false_iff_ne.2 (HHI.out hix).2
      ·exact .inl him
     have hrest:True:=trivial
     rcases hcase with him|⟨him,o,X,rfl,ci,hbl,hbe⟩
     all_goals go_upto_region 9 with fail
     all_goals (go_region_law (first|(refine step_last (wr:=wr) (rb:=b) (n:=i+1) (v:=v2) (Y:=Y2) (xs:=TK++[.string NM]) (ys:=TD) (zs:=A0.map tx) (.tmp 56) (.tmp 59) rfl rfl HO2.out (by repeat (first|with_reducible exact HB5.out|with_reducible refine Below.drew ?_|with_reducible refine Below.alloc ?_ (by have:=HB5.out.size;simp;try omega) _)) R2.out HTD1.out (by have:=HTDL.out;omega) HZS.out (by simp[Act.eval,Act.put]) (by simp[Act.eval,Act.put]) ?_;intro v3 w6 b6 hr6 hb6;have HR6:=hid hr6;have HB6:=hid hb6;clear hr6 hb6)|(refine step_mid (wr:=wr) (zb:=w4.heap.size) (n:=i) (v:=v1) (xs:=TK) (NM:=NM) (.tmp 53) (.tmp 55) rfl rfl (HO1.out.alloc _) (by repeat (first|with_reducible exact HB4.out|with_reducible refine Below.drew ?_|with_reducible refine Below.alloc ?_ (by have:=HB4.out.size;simp;try omega) _)) (heap_alloc_last w4 _) (by omega) (by simp[Act.eval,Act.put]) (by simp[Act.eval,Act.put]) ?_;intro v2 w5 ho2 hb5;have HO2:=hid ho2;have HB5:=hid hb5;clear ho2 hb5)|(refine step_mid (wr:=wr) (zb:=wr.heap.size+1) (n:=i) (v:=v1) (xs:=TK) (NM:=NM) (.tmp 53) (.tmp 55) rfl rfl (HO1.out) (by repeat (first|with_reducible exact HB4.out|with_reducible refine Below.drew ?_|with_reducible refine Below.alloc ?_ (by have:=HB4.out.size;simp;try omega) _)) (HZ4.out _ _ (by omega) NB.out) (by omega) (by simp[Act.eval,Act.put]) (by simp[Act.eval,Act.put]) ?_;intro v2 w5 ho2 hb5;have HO2:=hid ho2;have HB5:=hid hb5;clear ho2 hb5)|(refine step_mid (wr:=wr) (zb:=wr.heap.size) (n:=i) (v:=v1) (xs:=TK) (NM:=NM) (.tmp 53) (.tmp 55) rfl rfl (HO1.out) (by repeat (first|with_reducible exact HB4.out|with_reducible refine Below.drew ?_|with_reducible refine Below.alloc ?_ (by have:=HB4.out.size;simp;try omega) _)) (HZ4.out _ _ (by omega) NC.out) (by omega) (by simp[Act.eval,Act.put]) (by simp[Act.eval,Act.put]) ?_;intro v2 w5 ho2 hb5;have HO2:=hid ho2;have HB5:=hid hb5;clear ho2 hb5)|(refine step_first (wr:=wr) (b49:=wr.heap.size) (n:=i) (rb:=b) (Y:=Y1) (xs:=TK) (.tmp 49) (.tmp 52) rfl rfl (by first|exact OA.out|exact OA.out.alloc _) (by repeat (first|with_reducible exact Below.refl _ _|with_reducible refine Below.drew ?_|with_reducible refine Below.alloc ?_ (by first|(simp;done)|(simp;omega)) _)) R1.out HTKL.out HTK1.out (by omega) (by simp[Act.eval,Act.put]) (by simp[Act.eval,Act.put]) ?_;intro v1 w4 ho1 hb4 hz4;have HO1:=hid ho1;have HB4:=hid hb4;have HZ4:=hid hz4;clear ho1 hb4 hz4)|(refine step_first (wr:=wr) (b49:=wr.heap.size+1) (n:=i) (rb:=b) (Y:=Y1) (xs:=TK) (.tmp 49) (.tmp 52) rfl rfl (by first|exact OC.out|exact OC.out.alloc _) (by repeat (first|with_reducible exact Below.refl _ _|with_reducible refine Below.drew ?_|with_reducible refine Below.alloc ?_ (by first|(simp;done)|(simp;omega)) _)) R1.out HTKL.out HTK1.out (by omega) (by simp[Act.eval,Act.put]) (by simp[Act.eval,Act.put]) ?_;intro v1 w4 ho1 hb4 hz4;have HO1:=hid ho1;have HB4:=hid hb4;have HZ4:=hid hz4;clear ho1 hb4 hz4)))
     all_goals
      have HB6W:=hid (HWW.out.trans (HB6.out.mono HWW.out.size))
      have hs6:=HB6.out.size
      by_cases h69:t.sort=69
      ·have hVA:VV=A0:=by rw[HV.out,if_pos h69]
       have hq69:((q:Int) != 69)=false:=by rw[← HQ.out,h69];rfl
       have hnf0:0<nf:=by
        rw[← HNF.out]
        exact List.length_pos_iff.2 ((hx.tys t (Wf.find_mem HT.out).1).some (by rw[h69];decide))
       go_wp2_with (go_at_call 75;refine(HFIND.out _ HB6W.out).mono ?_;rintro e w7 ⟨⟨fb,fa,fc,rfl,_,hfrow⟩,hb7⟩;have HB7:=hid hb7;clear hfrow hb7)
       refine wp_loop_rounds 1 ?_
       rw[rounds_succ]
       go_wp2
       have B8:=hid (HB7.out.alloc (Nat.le_trans (Nat.le_refl _) HB7.out.size) (.cells #[.int .u8 q, .string TN, .slice fa nf fc] 82))
       exact bodyPost_ret (v:=v3) (by simp[results,Tryz.results36,go_sem, *]) rfl ⟨⟨b6,v3,rfl,by rw[hVA];exact HR6.out.below B8.out id⟩,HB6.out.trans (B8.out.mono hs6)⟩
      ·have hVA:VV=t.fields.foldl (fun o f=>Wf.visit x Wf.insB n f.kind o) A0:=by rw[HV.out,if_neg h69]
       have hq69:((q:Int) != 69)=true:=by
        rw[← HQ.out]
        apply bne_iff_ne.2
        intro h
        have h3:t.sort.toNat=69:=by omega
        exact h69 (UInt8.toNat_inj.1 h3)
       have HVA:=hid hVA
       have hnf8:nf≤8:=by rw[← HNF.out];exact(hx.tys t (Wf.find_mem HT.out).1).len
       clear hVA
       go_wp2_with (go_at_call 75;refine(HFIND.out _ HB6W.out).mono ?_;rintro e w7 ⟨⟨fb,fa,fc,rfl,_,hfrow⟩,hb7⟩;have HFR:=hid hfrow;have HB7:=hid hb7;clear hfrow hb7)
       have B8:=hid (HB7.out.alloc HB7.out.size (.cells #[.int .u8 q, .string TN, .slice fa nf fc] 82))
       have d0:(w7.alloc (.cells #[.int .u8 q, .string TN, .slice fa nf fc] 82)).cell? ⟨w7.heap.size,0,none⟩=some (.int .u8 q):=by simp[go_sem]
       have d2:(w7.alloc (.cells #[.int .u8 q, .string TN, .slice fa nf fc] 82)).cell? ⟨w7.heap.size,2,none⟩=some (.slice fa nf fc):=by simp[go_sem]
       obtain⟨W8,hW8⟩:∃ W8,w7.alloc (.cells #[.int .u8 q, .string TN, .slice fa nf fc] 82)=W8:=⟨_,rfl⟩
       rw[hW8] at B8 d0 d2 ⊢
       have hz8:w7.heap.size<W8.heap.size:=by rw[← hW8];simp
       have HW8:=hid (HB6W.out.trans (B8.out.mono HB6W.out.size))
       have hs8:=B8.out.size
       clear hW8
       go_loopw [2,12] (fun v2 v12 wl=>∃ (j:Nat) (acc:List (List UInt8)) (bb:Nat),v12=.int .i64 j∧j≤nf∧Hid (acc=(t.fields.take j).foldl (fun o f=>Wf.visit x Wf.insB n f.kind o) A0∧RowAt wl bb v2 (acc.map tx)∧Wf.AscB acc∧acc.length+Wf.left x acc≤99∧Wf.left x acc<n∧Below W8.heap.size W8 wl)) (fun _ v12 _=>nf-(RowKit.intOf v12).toNat)
       case atStart=>exact⟨0,A0,b6,rfl,Nat.zero_le _,hid ⟨rfl,HR6.out.below B8.out id,HAS.out.1,HAS.out.2.1,HAS.out.2.2,Below.refl _ _⟩⟩
       case round =>
        obtain⟨j,acc,bb,rfl,hj,hh⟩:=hrel
        have y0:=(hh.out.2.2.2.2.2.cell (p:=⟨w7.heap.size,0,none⟩) hz8).trans d0
        have y2:=(hh.out.2.2.2.2.2.cell (p:=⟨w7.heap.size,2,none⟩) hz8).trans d2
        have HWL:=hid (HW8.out.trans (hh.out.2.2.2.2.2.mono HW8.out.size))
        by_cases hjl:j<nf
        ·have hjx:j<t.fields.length:=by rw[HNF.out];exact hjl
         obtain⟨o2,rfl,hbw,h1,h2,hcell⟩:=RowK.get HFR.out (i:=j) (by rw[List.length_map];exact hjx)
         have e0:(t.fields.map (fdS t.sort))[j]'(by rw[List.length_map];exact hjx)=fdS t.sort t.fields[j]:=by rw[List.getElem_map]
         have g2:=(HWL.out.cell (p:=⟨fb,o2+j * 4+2,none⟩) hbw).trans (hcell 2 (tx (t.fields[j]).kind.text) (by decide) (by rw[e0,fdS,if_neg h69];rfl))
         have hfm:t.fields[j]∈t.fields:=List.getElem_mem hjx
         have hak:(t.fields.take (j+1)).foldl (fun o f=>Wf.visit x Wf.insB n f.kind o) A0=Wf.visit x Wf.insB n (t.fields[j]).kind acc:=by
          rw[hh.out.1,List.take_add_one,List.getElem?_eq_getElem hjx,Option.toList_some,List.foldl_append];rfl
         obtain⟨f,hf⟩:∃ f,t.fields[j]=f:=⟨_,rfl⟩
         rw[hf] at g2 hfm hak
         have htx:=(Wf.find_mem HT.out).1
         have hfk:=fd_kind ((hx.tys t htx).fds f hfm)
         have hrf:=hx.refs t htx h69 f hfm
         have HCALL:=hid (HIH.out f.kind acc bb u2 wr hh.out.2.2.2.2.1 hfk hrf hh.out.2.2.1 hh.out.2.2.2.1 HWL.out hh.out.2.1)
         obtain⟨K2,hK2⟩:∃ K2:ByteArray,(⟨f.kind.text.toArray⟩:ByteArray)=K2:=⟨_,rfl⟩
         rw[tx,hK2] at g2 HCALL
         have HAK:=hid hak
         have HACC:=hid (show Wf.AscB (Wf.visit x Wf.insB n f.kind acc)∧(Wf.visit x Wf.insB n f.kind acc).length+Wf.left x (Wf.visit x Wf.insB n f.kind acc)≤99∧Wf.left x (Wf.visit x Wf.insB n f.kind acc)<n from⟨Wf.visit_asc n f.kind acc hh.out.2.2.1,Wf.visit_room hx n f.kind acc hrf hh.out.2.2.2.1,Nat.lt_of_le_of_lt (Wf.left_le fun a ha=>Wf.visit_sub Wf.insB_ok n f.kind acc a ha) hh.out.2.2.2.2.1⟩)
         clear hcell e0 hfm hak hf htx hfk hrf hK2
         go_wp2_with (go_at_call 36;refine HCALL.out.mono ?_;rintro e w9 ⟨⟨b9,v9,rfl,r9⟩,hb9⟩;have R9:=hid r9;have HB9:=hid hb9;clear r9 hb9)
         go_roundw
         case rel=>exact⟨j+1,_,b9,by go_num,by omega,hid ⟨HAK.out.symm,R9.out,HACC.out.1,HACC.out.2.1,HACC.out.2.2,hh.out.2.2.2.2.2.trans (HB9.out.mono hh.out.2.2.2.2.2.size)⟩⟩
         case measure=>simp[RowKit.intOf];omega
        ·have hjn:j=nf:=by omega
         subst hjn
         have HFIN:=hid (show acc=VV by rw[HVA.out,hh.out.1,List.take_of_length_le (by rw[HNF.out];exact Nat.le_refl _)])
         go_wp2
         exact bodyPost_ret (v:=u2) (by simp[results,Tryz.results36,go_sem, *]) rfl ⟨⟨bb,u2,rfl,by rw[← HFIN.out];exact hh.out.2.1⟩,HB6.out.trans ((B8.out.trans (hh.out.2.2.2.2.2.mono hs8)).mono hs6)⟩
end Go.Proofs.YtmdacedmjbiekaaGreatDoor
