/- Packed by pack.py: Xv. -/
import Derived.Test.YtmdacedmjbiekaaGreatDoorQ49
import Derived.Test.YtmdacedmjbiekaaGreatDoorQ47
namespace Go.Proofs.YtmdacedmjbiekaaGreatDoor
open Go.ChangeShapes Go.WideShapes Go.ChangeAt Go.RowKit Go.Lib
set_option linter.unusedVariables false
set_option linter.unusedSimpArgs false
theorem backV_two (B:Bool) (S:ByteArray):∃ (T:ByteArray) (B2:Bool),backV B S=.tuple #[.string T, .bool B2]:=by
 cases B
 ·exact⟨_,_,rfl⟩
 ·exact⟨_,_,rfl⟩
theorem backV_vf (B:Bool) (l:List UInt8):vfV (if B=true then some l else none)=backV B ⟨l.toArray⟩:=by
 cases B <;> rfl
set_option maxRecDepth 20000 in
set_option maxHeartbeats 4000000 in
theorem valueSet_s (s kt v:ByteArray) (g:Int) (d:ByteArray) (w:World) (hs:s.size≤1048576) (hv:v.size≤1048576) (hd:d.size≤1048576):Calls Tryz.prog 30 #[.string s, .string kt, .string v, .int .i64 g, .string d] w fun e w'=>e=.returned (vfV (setVal s.data.toList kt.data.toList v.data.toList g d.data.toList))∧Below w.heap.size w w':=by
 have HG:=hid (l4Of s kt v w hs hv)
 cases hvo:valOf s.data.toList kt.data.toList v.data.toList with
 | none =>
  have HF:=hid (show vfV (setVal s.data.toList kt.data.toList v.data.toList g d.data.toList)=.tuple #[tx [], .bool false] by unfold setVal;rw[hvo];rfl)
  have HO:=hid fun(e:Ending) (w':World) (h:LoOut s.data.toList kt.data.toList v.data.toList w.heap.size e w')=>(by unfold LoOut at h;rw[hvo] at h;exact h:∃ a n c p,e=.returned (.tuple #[.slice a n c, .pointer p, .bool false]))
  clear hvo
  go_enter Tryz.func30,Tryz.ntmps30
  go_wp2_with (go_at_call 54;refine HG.out.mono ?_;rintro e w2 ⟨ho,hb2⟩;obtain⟨a,n,c,p,rfl⟩:=HO.out _ _ ho;have HB2:=hid hb2;clear ho hb2)
  exact bodyPost_ret (v:=.tuple #[tx [], .bool false]) (by simp[results,Tryz.results30,go_sem, *]) rfl ⟨by rw[HF.out],HB2.out⟩
 | some y =>
  obtain⟨⟨x,k⟩,u0⟩:=y
  obtain⟨hko,hvi⟩:=valOf_some hvo
  obtain⟨hx,hk⟩:=kindOf_ok hko
  obtain⟨_,_,_,hkt,_⟩:=kindOf_text hko
  obtain⟨hty,hsv,hs400⟩:=Wf.valIn_some hvi
  dsimp only at hx hk hty hsv hs400 hkt
  have hkk:tx k.text=.string kt:=by rw[tx,show k.text=kt.data.toList from hkt]
  obtain⟨xn,hxn⟩:∃ xn,x.length=xn:=⟨_,rfl⟩
  have HO:=hid fun(e:Ending) (w':World) (h:LoOut s.data.toList kt.data.toList v.data.toList w.heap.size e w')=>(by unfold LoOut at h;rw[hvo] at h;dsimp only at h;rw[hxn] at h;exact h:∃ b a c p,e=.returned (.tuple #[.slice a xn c,ptr p, .bool true])∧ScSp w' w.heap.size b (.slice a xn c) x∧LV w' (fun z=>w.heap.size≤z) u0 p)
  have HREC:=hid fun(wz:World) (b:Nat) (vv:Value) (hsp:ScSp wz w.heap.size b vv x)=>(by
   have h:=l4Record x hx w.heap.size b vv k hk g wz wz (Below.refl _ _) hsp
   rw[hkk] at h
   exact h:Calls Tryz.prog 57 #[vv, .string kt, .int .i64 g] wz fun e w'=>LrecOut x k g e∧Below wz.heap.size wz w')
  have HFV:=hid (show setVal s.data.toList kt.data.toList v.data.toList g d.data.toList=Wf.setIn x k u0 g d.data.toList by unfold setVal;rw[hvo];rfl)
  cases hrf:Wf.recFd x k g with
  | none =>
   have HF:=hid (show vfV (setVal s.data.toList kt.data.toList v.data.toList g d.data.toList)=.tuple #[tx [], .bool false] by rw[HFV.out];unfold Wf.setIn;rw[hrf];rfl)
   have HO2:=hid fun(e:Ending) (h:LrecOut x k g e)=>(by unfold LrecOut at h;rw[hrf] at h;exact h:∃ (m:Int) (a b c:ByteArray),e=.returned (.tuple #[.agg #[.int .i64 m, .string a, .string b, .string c], .bool false]))
   clear hvo hko hvi hrf hkk hxn
   go_enter Tryz.func30,Tryz.ntmps30
   go_wp2_with (first|(go_at_call 57;refine(HREC.out _ _ _ HSP.out).mono ?_;rintro e w3 ⟨ho,hb3⟩;obtain⟨m,fA,fB,fC,rfl⟩:=HO2.out _ ho;have HB3:=hid (below_join HB2.out hb3);clear ho hb3)|(go_at_call 54;refine HG.out.mono ?_;rintro e w2 ⟨ho,hb2⟩;obtain⟨b,a,c,p,rfl,hsp,hlv⟩:=HO.out _ _ ho;have HSP:=hid hsp;have HLV:=hid hlv;have HB2:=hid hb2;clear ho hb2 hsp hlv))
   exact bodyPost_ret (v:=.tuple #[tx [], .bool false]) (by simp[results,Tryz.results30,go_sem, *]) rfl ⟨by rw[HF.out],HB3.out.alloc HB3.out.size _⟩
  | some f =>
   obtain⟨nm,t,rfl,hft,h82,hfz⟩:=Wf.recFd_some hrf
   obtain⟨es,hes,rfl⟩:=Wf.rec_of hty hft h82
   obtain⟨hfm,hfg,hff⟩:=Wf.fieldZ_some hfz
   have htx:=(Wf.find_mem hft).1
   have h69:t.sort≠69:=by rw[h82];decide
   have hfo:=(hx.tys t htx).fds f hfm
   have hfk:=fd_kind hfo
   have hrl:(Wf.recV es).print.length≤400:=by rw[← hsv];exact hs400
   have hesl:=es_len4 hrl
   have hfg2:(f.tag:Int)=g:=hfg
   obtain⟨FN,hFN⟩:∃ FN:ByteArray,(⟨f.name.toArray⟩:ByteArray)=FN:=⟨_,rfl⟩
   obtain⟨FK,hFK⟩:∃ FK:ByteArray,(⟨f.kind.text.toArray⟩:ByteArray)=FK:=⟨_,rfl⟩
   obtain⟨FG,hFG⟩:∃ FG:ByteArray,(⟨f.given.toArray⟩:ByteArray)=FG:=⟨_,rfl⟩
   have HO2:=hid fun(e:Ending) (h:LrecOut x (.ref nm) g e)=>(by unfold LrecOut at h;rw[hrf] at h;dsimp only at h;rw[hfg2] at h;simp only[tx,hFN,hFK,hFG] at h;exact h:e=.returned (.tuple #[.agg #[.int .i64 g, .string FN, .string FK, .string FG], .bool true]))
   have HRD:=hid fun(W:World) (b:Nat) (vv:Value) (wz:World) (hsp:ScSp W w.heap.size b vv x) (hz:Below W.heap.size W wz)=>(by
    have h:=l4read x hx vv w.heap.size b W hsp 12 (by omega) f.kind (KOk.fld hx htx h69 hfm) d wz hd hz
    rw[tx,hFK] at h
    exact h:Calls Tryz.prog 63 #[.agg #[vv], .string d, .string FK, .int .i64 12] wz fun e w'=>LrOut (Wf.parse x 12 f.kind d.data.toList) wz e w'∧Below wz.heap.size wz w')
   cases hp:Wf.parse x 12 f.kind d.data.toList with
   | none =>
    have HF:=hid (show vfV (setVal s.data.toList kt.data.toList v.data.toList g d.data.toList)=.tuple #[tx [], .bool false] by rw[HFV.out,Wf.setIn_no hft h82 hfz (fun u h=>by rw[hp] at h;cases h)];rfl)
    have HO3:=hid fun(e:Ending) (w w':World) (h:LrOut (Wf.parse x 12 f.kind d.data.toList) w e w')=>(by rw[hp] at h;exact h:∃ (p:Option Addr) (r:ByteArray),e=.returned (.tuple #[.pointer p, .string r, .bool false]))
    clear hvo hko hvi hrf hty hsv hs400 hft h82 hfz hes hfm hfg hff htx h69 hfk hesl hfg2 hFN hFK hFG hx hk hkt hkk hxn hp hfo hrl
    go_enter Tryz.func30,Tryz.ntmps30
    go_wp2_with (first|(go_at_call 63;refine(HRD.out w2 _ _ _ HSP.out (HB23.out.alloc HB23.out.size _)).mono ?_;rintro e w4 ⟨ho,hb4⟩;obtain⟨p4,r4,rfl⟩:=HO3.out _ _ _ ho;have HB24:=hid (below_join (HB23.out.alloc HB23.out.size _) hb4);clear ho hb4)|(go_at_call 57;refine(HREC.out _ _ _ HSP.out).mono ?_;rintro e w3 ⟨ho,hb3⟩;obtain rfl:=HO2.out _ ho;have HB23:=hid hb3;clear ho hb3)|(go_at_call 54;refine HG.out.mono ?_;rintro e w2 ⟨ho,hb2⟩;obtain⟨b,a,c,p,rfl,hsp,hlv⟩:=HO.out _ _ ho;have HSP:=hid hsp;have HLV:=hid hlv;have HB2:=hid hb2;clear ho hb2 hsp hlv))
    exact bodyPost_ret (v:=.tuple #[tx [], .bool false]) (by simp[results,Tryz.results30,go_sem, *]) rfl ⟨by rw[HF.out],HB2.out.trans (HB24.out.mono HB2.out.size)⟩
   | some yy =>
    obtain⟨u,rr⟩:=yy
    obtain⟨RR,hRR⟩:∃ RR:ByteArray,(⟨rr.toArray⟩:ByteArray)=RR:=⟨_,rfl⟩
    have HO3:=hid fun(e:Ending) (w w':World) (h:LrOut (Wf.parse x 12 f.kind d.data.toList) w e w')=>(by unfold LrOut at h;rw[hp] at h;dsimp only at h;rw[tx,hRR] at h;exact h:∃ b,e=.returned (.tuple #[ptr b, .string RR, .bool true])∧LV w' (fun z=>w.heap.size≤z) u b)
    cases rr with
    | cons c0 q0 =>
     have HF:=hid (show vfV (setVal s.data.toList kt.data.toList v.data.toList g d.data.toList)=.tuple #[tx [], .bool false] by rw[HFV.out,Wf.setIn_no hft h82 hfz (fun u h=>by rw[hp] at h;cases h)];rfl)
     have hre:RR.toList.isEmpty=false:=by rw[← hRR,ByteArray.toList_eq];rfl
     have hre2:RR.toList≠[]:=by rw[← hRR,ByteArray.toList_eq];exact List.cons_ne_nil _ _
     clear hvo hko hvi hrf hty hsv hs400 hft h82 hfz hes hfm hfg hff htx h69 hfk hesl hfg2 hFN hFK hFG hx hk hkt hkk hxn hp hfo hrl hRR
     go_enter Tryz.func30,Tryz.ntmps30
     go_wp2_with (first|(go_at_call 63;refine(HRD.out w2 _ _ _ HSP.out (HB23.out.alloc HB23.out.size _)).mono ?_;rintro e w4 ⟨ho,hb4⟩;obtain⟨p4,rfl,_⟩:=HO3.out _ _ _ ho;have HB24:=hid (below_join (HB23.out.alloc HB23.out.size _) hb4);clear ho hb4)|(go_at_call 57;refine(HREC.out _ _ _ HSP.out).mono ?_;rintro e w3 ⟨ho,hb3⟩;obtain rfl:=HO2.out _ ho;have HB23:=hid hb3;clear ho hb3)|(go_at_call 54;refine HG.out.mono ?_;rintro e w2 ⟨ho,hb2⟩;obtain⟨b,a,c,p,rfl,hsp,hlv⟩:=HO.out _ _ ho;have HSP:=hid hsp;have HLV:=hid hlv;have HB2:=hid hb2;clear ho hb2 hsp hlv))
     exact bodyPost_ret (v:=.tuple #[tx [], .bool false]) (by simp[results,Tryz.results30,go_sem, *]) rfl ⟨by rw[HF.out],HB2.out.trans (HB24.out.mono HB2.out.size)⟩
    | nil =>
     have hre:RR.toList.isEmpty=true:=by rw[← hRR,ByteArray.toList_eq];rfl
     have hre2:RR.toList=[]:=List.isEmpty_iff.1 hre
     obtain⟨htyp,hset⟩:=Wf.setIn_back hx hft h82 hfz hes hp
     have hus:=(Wf.parse_say _ _ _ _ _ hp).2
     rw[List.append_nil] at hus
     have hul:u.print.length≤1048576:=by rw[← hus,size_list];exact hd
     have hsl:=Wf.set_len (x:=x) (es:=es) (u:=u) hfo.tag2
     obtain⟨O,hO⟩:∃ O:ByteArray,(⟨(Wf.recV (Wf.setEs x es f u)).print.toArray⟩:ByteArray)=O:=⟨_,rfl⟩
     obtain⟨ST,hST⟩:∃ ST:ByteArray,(⟨(Wf.standF x f).toArray⟩:ByteArray)=ST:=⟨_,rfl⟩
     have hOl:O.data.toList=(Wf.recV (Wf.setEs x es f u)).print:=by rw[← hO]
     have hOs:O.size≤1048576+1048576:=by rw[← size_list,hOl];omega
     have HST:=hid fun(W:World) (b:Nat) (vv:Value) (wz:World) (hsp:ScSp W w.heap.size b vv x) (hz:Below W.heap.size W wz)=>(by
      have h:=l3stand x hx w.heap.size b vv f W wz hz hsp hfk (hx.refs t htx h69 f hfm)
      rw[hfg2] at h
      simp only[tx,hFN,hFK,hFG,hST] at h
      exact h:Calls Tryz.prog 51 #[vv, .agg #[.int .i64 g, .string FN, .string FK, .string FG]] wz fun e w'=>e=.returned (.string ST)∧Below wz.heap.size wz w')
     have HOUT:=hid fun(p:Nat) (wz:World) (hlv:LV wz (fun _=>True) (Wf.recV (Wf.setEs x es f u)) p)=>(by
      have h:=out 13 (.ref nm) _ htyp _ p wz wz hlv (Below.refl _ _) (by omega)
      rw[tx,hO] at h
      exact h:Calls Tryz.prog 59 #[ptr p] wz fun e w'=>e=.returned (.string O)∧Below wz.heap.size wz w')
     obtain⟨BT,BB,hBT⟩:=backV_two (Wf.valIn x (.ref nm) (Wf.recV (Wf.setEs x es f u)).print).isSome O
     have HBK:=hid fun(W:World) (b:Nat) (vv:Value) (wz:World) (hsp:ScSp W w.heap.size b vv x) (hz:Below W.heap.size W wz)=>(by
      have h:=l4Back x hx w.heap.size b vv (.ref nm) hk O (by omega) W wz hz hsp
      rw[hkk,hOl,hBT] at h
      exact h:Calls Tryz.prog 64 #[vv, .string kt, .string O] wz fun e w'=>e=.returned (.tuple #[.string BT, .bool BB])∧Below wz.heap.size wz w')
     have HF:=hid (show vfV (setVal s.data.toList kt.data.toList v.data.toList g d.data.toList)=.tuple #[.string BT, .bool BB] by rw[HFV.out,hset,backV_vf,hO,hBT])
     have h2:=Wf.withL_set (x:=x) (f:=f) (y:=u) hes.1
     have hds:(d.toList==ST.toList)=decide (u.print=Wf.standF x f):=by
      rw[← hST,ByteArray.toList_eq,ByteArray.toList_eq,Bool.beq_eq_decide_eq]
      show decide (d.data.toList=Wf.standF x f)=_
      rw[hus]
     have hne:f.tag≤200:=hfo.tag2
     by_cases he:u.print=Wf.standF x f
     ·have heq:(d.toList==ST.toList)=true:=by rw[hds];exact decide_eq_true he
      rw[if_pos he,decide_eq_true he] at h2
      have HWI:=hid fun(p:Nat) (wz:World) (hlv:LV wz (fun _=>True) (Wf.recV es) p)=>(by
       have h:=lwith es hesl f none (.pointer none) p wz hlv (.inl ⟨rfl,rfl⟩)
       rw[Option.map_none,Option.isNone_none,h2,hfg2] at h
       exact h:Calls Tryz.prog 65 #[ptr p, .int .i64 g, .pointer none] wz fun e w'=>(∃ p,e=.returned (ptr p)∧LV w' (fun _=>True) (Wf.recV (Wf.setEs x es f u)) p)∧Below wz.heap.size wz w')
      clear hvo hko hvi hrf hty hsv hs400 hft h82 hfz hes hfm hfg hff htx h69 hfk hesl hfg2 hFN hFK hFG hx hk hkt hkk hxn hp hfo hrl hRR htyp hset hus hul hsl hO hST hOl hOs hBT h2 hds hne he
      go_enter Tryz.func30,Tryz.ntmps30
      go_wp2_with (first|(go_at_call 64;have _u:=HB27;refine(HBK.out w2 _ _ _ HSP.out HB27.out).mono ?_;rintro e w8 ⟨rfl,hb8⟩;have HB28:=hid (below_join HB27.out hb8);clear hb8)|(go_at_call 59;have _u:=HB26;refine(HOUT.out p6 w6 HLS.out).mono ?_;rintro e w7 ⟨rfl,hb7⟩;have HB27:=hid (below_join HB26.out hb7);clear hb7)|(go_at_call 65;have _u:=HB25;refine(HWI.out p w5 ((HLV.out.below HB25.out).mono fun _ _ _=>trivial)).mono ?_;rintro e w6 ⟨⟨p6,rfl,hl6⟩,hb6⟩;have HLS:=hid hl6;have HB26:=hid (below_join HB25.out hb6);clear hl6 hb6)|(go_at_call 51;have _u:=HB24;refine(HST.out w2 _ _ _ HSP.out HB24.out).mono ?_;rintro e w5 ⟨rfl,hb5⟩;have HB5:=hid hb5;have HB25:=hid (below_join HB24.out hb5);clear hb5)|(go_at_call 63;refine(HRD.out w2 _ _ _ HSP.out (HB23.out.alloc HB23.out.size _)).mono ?_;rintro e w4 ⟨ho,hb4⟩;obtain⟨yb,rfl,hly⟩:=HO3.out _ _ _ ho;have HLY:=hid hly;have HB24:=hid (below_join (HB23.out.alloc HB23.out.size _) hb4);have q0:=hb4.cell (p:=⟨w3.heap.size,0,none⟩) (by simp);have q1:=hb4.cell (p:=⟨w3.heap.size,1,none⟩) (by simp);have q2:=hb4.cell (p:=⟨w3.heap.size,2,none⟩) (by simp);have q3:=hb4.cell (p:=⟨w3.heap.size,3,none⟩) (by simp);simp only[go_sem] at q0 q1 q2 q3;clear ho hb4 hly)|(go_at_call 57;refine(HREC.out _ _ _ HSP.out).mono ?_;rintro e w3 ⟨ho,hb3⟩;obtain rfl:=HO2.out _ ho;have HB23:=hid hb3;clear ho hb3)|(go_at_call 54;refine HG.out.mono ?_;rintro e w2 ⟨ho,hb2⟩;obtain⟨b,a,c,p,rfl,hsp,hlv⟩:=HO.out _ _ ho;have HSP:=hid hsp;have HLV:=hid hlv;have HB2:=hid hb2;clear ho hb2 hsp hlv))
      exact bodyPost_ret (v:=.tuple #[.string BT, .bool BB]) (by simp[results,Tryz.results30,go_sem, *]) rfl ⟨by rw[HF.out],HB2.out.trans (HB28.out.mono HB2.out.size)⟩
     ·have heq:(d.toList==ST.toList)=false:=by rw[hds];exact decide_eq_false he
      rw[if_neg he,decide_eq_false he] at h2
      have HWI:=hid fun(p yb:Nat) (wz:World) (hlv:LV wz (fun _=>True) (Wf.recV es) p) (hly:LV wz (fun _=>True) u yb)=>(by
       have h:=lwith es hesl f (some u) (ptr yb) p wz hlv (.inr ⟨u,yb,rfl,rfl,hly⟩)
       rw[Option.map_some,Option.isNone_some,h2,hfg2] at h
       exact h:Calls Tryz.prog 65 #[ptr p, .int .i64 g,ptr yb] wz fun e w'=>(∃ p,e=.returned (ptr p)∧LV w' (fun _=>True) (Wf.recV (Wf.setEs x es f u)) p)∧Below wz.heap.size wz w')
      clear hvo hko hvi hrf hty hsv hs400 hft h82 hfz hes hfm hfg hff htx h69 hfk hesl hfg2 hFN hFK hFG hx hk hkt hkk hxn hp hfo hrl hRR htyp hset hus hul hsl hO hST hOl hOs hBT h2 hds hne he
      go_enter Tryz.func30,Tryz.ntmps30
      go_wp2_with (first|(go_at_call 64;have _u:=HB27;refine(HBK.out w2 _ _ _ HSP.out HB27.out).mono ?_;rintro e w8 ⟨rfl,hb8⟩;have HB28:=hid (below_join HB27.out hb8);clear hb8)|(go_at_call 59;have _u:=HB26;refine(HOUT.out p6 w6 HLS.out).mono ?_;rintro e w7 ⟨rfl,hb7⟩;have HB27:=hid (below_join HB26.out hb7);clear hb7)|(go_at_call 65;have _u:=HB25;refine(HWI.out p yb w5 ((HLV.out.below HB25.out).mono fun _ _ _=>trivial) ((HLY.out.below HB5.out).mono fun _ _ _=>trivial)).mono ?_;rintro e w6 ⟨⟨p6,rfl,hl6⟩,hb6⟩;have HLS:=hid hl6;have HB26:=hid (below_join HB25.out hb6);clear hl6 hb6)|(go_at_call 51;have _u:=HB24;refine(HST.out w2 _ _ _ HSP.out HB24.out).mono ?_;rintro e w5 ⟨rfl,hb5⟩;have HB5:=hid hb5;have HB25:=hid (below_join HB24.out hb5);clear hb5)|(go_at_call 63;refine(HRD.out w2 _ _ _ HSP.out (HB23.out.alloc HB23.out.size _)).mono ?_;rintro e w4 ⟨ho,hb4⟩;obtain⟨yb,rfl,hly⟩:=HO3.out _ _ _ ho;have HLY:=hid hly;have HB24:=hid (below_join (HB23.out.alloc HB23.out.size _) hb4);have q0:=hb4.cell (p:=⟨w3.heap.size,0,none⟩) (by simp);have q1:=hb4.cell (p:=⟨w3.heap.size,1,none⟩) (by simp);have q2:=hb4.cell (p:=⟨w3.heap.size,2,none⟩) (by simp);have q3:=hb4.cell (p:=⟨w3.heap.size,3,none⟩) (by simp);simp only[go_sem] at q0 q1 q2 q3;clear ho hb4 hly)|(go_at_call 57;refine(HREC.out _ _ _ HSP.out).mono ?_;rintro e w3 ⟨ho,hb3⟩;obtain rfl:=HO2.out _ ho;have HB23:=hid hb3;clear ho hb3)|(go_at_call 54;refine HG.out.mono ?_;rintro e w2 ⟨ho,hb2⟩;obtain⟨b,a,c,p,rfl,hsp,hlv⟩:=HO.out _ _ ho;have HSP:=hid hsp;have HLV:=hid hlv;have HB2:=hid hb2;clear ho hb2 hsp hlv))
      exact bodyPost_ret (v:=.tuple #[.string BT, .bool BB]) (by simp[results,Tryz.results30,go_sem, *]) rfl ⟨by rw[HF.out],HB2.out.trans (HB28.out.mono HB2.out.size)⟩
end Go.Proofs.YtmdacedmjbiekaaGreatDoor
