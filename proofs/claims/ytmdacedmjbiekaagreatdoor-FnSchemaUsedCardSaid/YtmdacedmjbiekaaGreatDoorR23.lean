/- Packed by pack.py: Sw. -/
import Derived.Test.YtmdacedmjbiekaaGreatDoorR22
namespace Go.Proofs.YtmdacedmjbiekaaGreatDoor
open Go.ChangeShapes Go.WideShapes Go.ChangeAt Go.RowKit Go.Lib
set_option linter.unusedVariables false
theorem l3findAny (x:Wf.Sc) (lo b:Nat) (v:Value) (nm:ByteArray) (W w:World) (hW:Below W.heap.size W w) (hx8:x.length≤1000) (H:ScSp W lo b v x):Calls Tryz.prog 75 #[v, .string nm] w fun e w'=>(∃ (q:Nat) (N:ByteArray) (a:Option Addr) (m c:Nat),e=.returned (.tuple #[.agg #[.int .u8 q, .string N, .slice a m c], .bool (x.find nm.data.toList).isSome]))∧Below w.heap.size w w' :=
 (l3find x lo b v nm W w hW hx8 H).mono fun e w' h=>⟨find_any h.1,h.2⟩
set_option maxRecDepth 20000 in
set_option maxHeartbeats 4000000 in
theorem l3valid (x:Wf.Sc) (lo b:Nat) (v:Value) (w:World) (hx8:x.length≤1000) (H:ScSp w lo b v x) (hx:∀ u∈x,Good u) :
  Calls Tryz.prog 103 #[v] w fun e w'=>e=.returned (.bool (validB x))∧Below w.heap.size w w':=by
 obtain⟨va,vc,rfl,hc1,hc2⟩:=H.slice
 have HX:=hid H
 have HG:=hid hx
 obtain⟨n,hn⟩:∃ n,x.length=n:=⟨_,rfl⟩
 have HN:=hid hn
 rw[hn] at hx8 hc1 HX ⊢
 obtain⟨VB,hVB⟩:∃ VB,validB x=VB:=⟨_,rfl⟩
 have HV:=hid hVB
 rw[hVB]
 clear H hn hx hVB
 go_enter Tryz.func103,Tryz.ntmps103
 go_wp2
 go_loopw [3] (fun v3 wr=>∃ i:Nat,v3=.int .i64 i∧i≤n∧Hid (Seen x i)∧Hid (Below w.heap.size w wr)) (fun v3 _=>n-(RowKit.intOf v3).toNat)
 case atStart=>exact⟨0,rfl,Nat.zero_le _,hid ⟨fun _ _ _ _ h=>by omega,fun _ _ h=>by omega⟩,hid (Below.refl _ _)⟩
 case round =>
  obtain⟨i,rfl,hi,hseen,hbel⟩:=hrel
  by_cases hlt:i<n
  ·have hix:i<x.length:=by rw[HN.out];exact hlt
   obtain⟨o,fb,fa,fc,hva,hbw,g0',g1',g2',hrow,_⟩:=HX.out.get hix
   obtain⟨T,hT⟩:∃ T,x[i]=T:=⟨_,rfl⟩
   rw[hT] at g0' g1' g2' hrow
   obtain⟨q,hq⟩:∃ q,T.sort.toNat=q:=⟨_,rfl⟩
   obtain⟨m,hm⟩:∃ m,T.fields.length=m:=⟨_,rfl⟩
   obtain⟨TN,hTN⟩:∃ TN:ByteArray,(⟨T.name.toArray⟩:ByteArray)=TN:=⟨_,rfl⟩
   rw[hq] at g0'
   rw[tx,hTN] at g1'
   rw[hm] at g2' hrow
   have g0:wr.cell? ⟨b,o+i * 3,none⟩=some (.int .u8 q):=(hbel.out.cell (p:=⟨b,o+i * 3,none⟩) hbw).trans g0'
   have g1:wr.cell? ⟨b,o+i * 3+1,none⟩=some (.string TN):=(hbel.out.cell (p:=⟨b,o+i * 3+1,none⟩) hbw).trans g1'
   have g2:wr.cell? ⟨b,o+i * 3+2,none⟩=some (.slice fa m fc):=(hbel.out.cell (p:=⟨b,o+i * 3+2,none⟩) hbw).trans g2'
   have HT:=hid hT
   have HQ:=hid hq
   have HM:=hid hm
   have HTN:=hid hTN
   have HROW:=hid hrow
   have HG0:=hid g0'
   have HG2:=hid g2'
   have hbwr:b<wr.heap.size:=Nat.lt_of_lt_of_le hbw hbel.out.size
   have hvv:Hid (va=some ⟨b,o,none⟩):=hid hva
   subst hva
   clear g0' g1' g2' hT hq hm hTN hrow hvv
   go_wp2
   go_loopw [4] (fun v4 wy=>∃ (k d:Nat),v4=.int .i64 k∧k≤i∧wy=wr.drewN d∧Hid (∀ a (ha:a<x.length),a<k→(x[a]).name≠T.name)) (fun v4 _=>i-(RowKit.intOf v4).toNat)
   case atStart=>exact⟨0,0,rfl,Nat.zero_le _,rfl,hid fun a _ h=>by omega⟩
   case round =>
    obtain⟨k,d,rfl,hk,rfl,hno⟩:=hrel
    by_cases hki:k<i
    ·have hkx:k<x.length:=by omega
     obtain⟨o',_,_,_,hva',_,_,k1',_,_,_⟩:=HX.out.get hkx
     have ho:o'=o:=by simpa using hva'.symm
     subst ho
     obtain⟨KN,hKN⟩:∃ KN:ByteArray,(⟨(x[k]).name.toArray⟩:ByteArray)=KN:=⟨_,rfl⟩
     rw[tx,hKN] at k1'
     have k1:wr.cell? ⟨b,o'+k * 3+1,none⟩=some (.string KN):=(hbel.out.cell (p:=⟨b,o'+k * 3+1,none⟩) hbw).trans k1'
     have HEQ:=hid (show(KN.toList==TN.toList)=decide ((x[k]).name=T.name) by rw[← hKN,← HTN.out,ByteArray.toList_eq,ByteArray.toList_eq,Bool.beq_eq_decide_eq])
     clear k1' hKN hva'
     cases hqq:(KN.toList==TN.toList) with
     | true =>
      have HF:=hid (show false=VB by rw[← HV.out];exact(valid_name hki hix (by rw[HT.out];exact of_decide_eq_true (by rw[← HEQ.out];exact hqq))).symm)
      go_wp2
      go_quiet (fail)
      go_wp2
      go_ret
      exact⟨ret_b HF.out,hbel.out.trans ⟨rfl,rfl,rfl,Nat.le_refl _,fun _ _=>rfl⟩⟩
     | false =>
      have HNE:=hid (show(x[k]).name≠T.name from of_decide_eq_false (by rw[← HEQ.out];exact hqq))
      go_wp2
      go_quiet (fail)
      go_wp2
      go_roundw
      case rel=>exact⟨k+1,_,by go_num,by omega,rfl,hid fun a ha hak=>by
       by_cases hak2:a=k
       ·subst hak2;exact HNE.out
       ·exact hno.out a ha (by omega)⟩
      case measure=>simp[RowKit.intOf];omega
    ·have hki2:k=i:=by omega
     subst hki2
     go_wp2
     have HNO:=hid hno.out
     go_loopw [5] (fun v5 wz=>∃ j:Nat,v5=.int .i64 j∧j≤m∧Hid (Below w.heap.size w wz)∧Hid (∀ a (ha:a<T.fields.length),a<j→Wf.hasRef x (T.fields[a]).kind=true)) (fun v5 _=>m-(RowKit.intOf v5).toNat)
     case atStart=>exact⟨0,rfl,Nat.zero_le _,hid (hbel.out.trans ⟨rfl,rfl,rfl,Nat.le_refl _,fun _ _=>rfl⟩),hid fun a _ h=>by omega⟩
     case round =>
      obtain⟨j,rfl,hj,hbz,hok⟩:=hrel
      have z0:=(hbz.out.cell (p:=⟨b,o+k * 3,none⟩) hbw).trans HG0.out
      have z2:=(hbz.out.cell (p:=⟨b,o+k * 3+2,none⟩) hbw).trans HG2.out
      have hbwz:b<wr.heap.size:=Nat.lt_of_lt_of_le hbw hbz.out.size
      by_cases h69:q=69
      ·subst h69
       have HS:=hid (seen_step hseen.out hix (by rw[HT.out];exact HNO.out) (.inl (by rw[HT.out];exact UInt8.toNat_inj.1 (by rw[HQ.out];rfl))))
       by_cases hjm:j<m
       ·go_wp2
        go_roundw
        case rel=>exact⟨k+1,by go_num,by omega,HS,hbz⟩
        case measure=>simp[RowKit.intOf];omega
       ·have hjm2:j=m:=by omega
        subst hjm2
        go_wp2
        go_roundw
        case rel=>exact⟨k+1,by go_num,by omega,HS,hbz⟩
        case measure=>simp[RowKit.intOf];omega
      ·have t69:((q:Int) != 69)=true:=by rw[bne_iff_ne];omega
       by_cases hjm:j<m
       ·have hjt:j<T.fields.length:=by rw[HM.out];exact hjm
        obtain⟨F,hF⟩:∃ F,T.fields[j]=F:=⟨_,rfl⟩
        have hjl:j<(T.fields.map (fdS T.sort)).length:=by rw[List.length_map];exact hjt
        obtain⟨go,rfl,hgw,hgm,hgc,hcell⟩:=RowK.get HROW.out hjl
        have hmx:m≤9223372036854775807:=Nat.le_trans hgm (Nat.le_trans hgc (by unfold maxLen;omega))
        have ht69:T.sort≠69:=fun h=>h69 (by rw[← HQ.out,h];rfl)
        have e0:(T.fields.map (fdS T.sort))[j]'hjl=fdS T.sort F:=by rw[List.getElem_map,hF]
        have k2':=hcell 2 (tx F.kind.text) (by decide) (by rw[e0,fdS,if_neg ht69];rfl)
        have k2:wr.cell? ⟨fb,go+j * 4+2,none⟩=some (tx F.kind.text):=(hbz.out.cell (p:=⟨fb,go+j * 4+2,none⟩) hgw).trans k2'
        have hFm:F∈T.fields:=by rw[← hF];exact List.getElem_mem hjt
        have hxT:T∈x:=by rw[← HT.out];exact List.getElem_mem hix
        have hkl:=(HG.out T hxT).2 F hFm
        have HCORE:=hid fun wz=>l2Core_text F.kind hkl wz
        have hcl:=core_len F.kind
        have HREF:=hid fun wz=>l2Ref_text F.kind.core (by omega) wz
        obtain⟨NM,is,hri,hhas⟩:=core_is x F.kind
        rw[hri] at HREF
        have HFIND:=hid fun wz (hz:Below w.heap.size w wz)=>(l3findAny x lo b (.slice (some ⟨b,o,none⟩) n vc) NM w wz hz (by rw[HN.out];exact hx8) HX.out)
        obtain⟨KT,hKT⟩:∃ KT:ByteArray,(⟨F.kind.text.toArray⟩:ByteArray)=KT:=⟨_,rfl⟩
        obtain⟨CT,hCT⟩:∃ CT:ByteArray,(⟨F.kind.core.text.toArray⟩:ByteArray)=CT:=⟨_,rfl⟩
        rw[tx,hKT] at k2
        simp only[tx,hKT,hCT] at HCORE HREF
        obtain⟨ok,hokk⟩:∃ ok,(x.find NM.data.toList).isSome=ok:=⟨_,rfl⟩
        rw[hokk] at hhas HFIND
        have HHAS:=hid hhas
        have HF':=hid hF
        have HJT:=hid hjt
        clear hhas hokk hCT hKT hri hcl hkl hxT hFm k2' e0 ht69 hcell hjl hF
        by_cases hbad:is=true∧ok=false
        ·obtain⟨rfl,rfl⟩:=hbad
         have HFF:=hid (show false=VB by
          rw[← HV.out]
          refine(valid_ref hix (j:=j) ?_ ?_ ?_).symm
          ·rw[HT.out];exact fun h=>h69 (by rw[← HQ.out,h];rfl)
          ·rw[HT.out];exact HJT.out
          ·simp only[HT.out,HF'.out];exact HHAS.out)
         go_wp2_with (first|(go_at_call 75;refine(HFIND.out _ hbz.out).mono ?_;rintro e w3 ⟨⟨fq,fN,fA,fM,fC,rfl⟩,hb3⟩;have HB3:=hid hb3;clear hb3)|(go_at_call 73;refine(HREF.out _).mono ?_;rintro e w2 ⟨rfl,rfl⟩)|(go_at_call 74;refine(HCORE.out _).mono ?_;rintro e w1 ⟨rfl,rfl⟩))
         go_ret
         exact⟨ret_b HFF.out,by have B:=hbz.out.trans (HB3.out.mono hbz.out.size);repeat (first|with_reducible exact B|with_reducible refine Below.drew ?_|with_reducible refine Below.setCell ?_ (by simp) _|with_reducible refine Below.alloc ?_ (by first|exact B.size|(simp;omega)) _)⟩
        ·have HK:=hid (show Wf.hasRef x F.kind=true by
          rw[HHAS.out];cases is <;> cases ok <;> simp_all)
         have HREL:=hid (show ∀ a (ha:a<T.fields.length),a<j+1→Wf.hasRef x (T.fields[a]).kind=true from fun a ha haj=>by
          by_cases haj2:a=j
          ·subst haj2;rw[HF'.out];exact HK.out
          ·exact hok.out a ha (by omega))
         have hio:(is && !ok)=false:=by cases is <;> cases ok <;> simp_all
         clear hbad
         rcases Bool.eq_false_or_eq_true is with rfl|rfl
         ·have hok1:ok=true:=by cases ok <;> simp_all
          subst hok1
          go_wp2_with (first|(go_at_call 75;refine(HFIND.out _ hbz.out).mono ?_;rintro e w3 ⟨⟨fq,fN,fA,fM,fC,rfl⟩,hb3⟩;have HB3:=hid hb3;clear hb3)|(go_at_call 73;refine(HREF.out _).mono ?_;rintro e w2 ⟨rfl,rfl⟩)|(go_at_call 74;refine(HCORE.out _).mono ?_;rintro e w1 ⟨rfl,rfl⟩))
          go_roundw
          case rel=>exact⟨j+1,by go_num,by omega,hid (by have B:=hbz.out.trans (HB3.out.mono hbz.out.size);repeat (first|with_reducible exact B|with_reducible refine Below.drew ?_|with_reducible refine Below.setCell ?_ (by simp) _|with_reducible refine Below.alloc ?_ (by first|exact B.size|(simp;omega)) _)),HREL⟩
          case measure=>simp[RowKit.intOf];omega
         ·go_wp2_with (first|(go_at_call 75;refine(HFIND.out _ hbz.out).mono ?_;rintro e w3 ⟨⟨fq,fN,fA,fM,fC,rfl⟩,hb3⟩;have HB3:=hid hb3;clear hb3)|(go_at_call 73;refine(HREF.out _).mono ?_;rintro e w2 ⟨rfl,rfl⟩)|(go_at_call 74;refine(HCORE.out _).mono ?_;rintro e w1 ⟨rfl,rfl⟩))
          go_roundw
          case rel=>exact⟨j+1,by go_num,by omega,hid (by have B:=hbz.out.trans (HB3.out.mono hbz.out.size);repeat (first|with_reducible exact B|with_reducible refine Below.drew ?_|with_reducible refine Below.setCell ?_ (by simp) _|with_reducible refine Below.alloc ?_ (by first|exact B.size|(simp;omega)) _)),HREL⟩
          case measure=>simp[RowKit.intOf];omega
       ·have hjm2:j=m:=by omega
        subst hjm2
        have HS:=hid (seen_step hseen.out hix (by rw[HT.out];exact HNO.out) (.inr (by
         rw[HT.out];intro f hf
         obtain⟨a,ha,rfl⟩:=List.mem_iff_getElem.1 hf
         exact hok.out a ha (by rw[← HM.out];exact ha))))
        go_wp2
        go_roundw
        case rel=>exact⟨k+1,by go_num,by omega,HS,hbz⟩
        case measure=>simp[RowKit.intOf];omega
  ·have hin:i=n:=by omega
   subst hin
   have HSEEN:=hid (show Seen x x.length by rw[HN.out];exact hseen.out)
   go_wp2
   go_loopw [10] (fun v10 wz=>∃ j:Nat,v10=.int .i64 j∧j≤i∧Hid (Below w.heap.size w wz)∧Hid (∀ a (ha:a<x.length),a<j→Wf.endsIn x (x.length+1) x[a]=true)) (fun v10 _=>i-(RowKit.intOf v10).toNat)
   case atStart=>exact⟨0,rfl,Nat.zero_le _,hbel,hid fun a _ h=>by omega⟩
   case round =>
    obtain⟨j,rfl,hj,hbz,hok⟩:=hrel
    by_cases hjn:j<i
    ·have hjx:j<x.length:=by rw[HN.out];exact hjn
     obtain⟨o,fb,fa,fc,rfl,hbw,g0',g1',g2',hrow,_⟩:=HX.out.get hjx
     have hbwr:b<wr.heap.size:=Nat.lt_of_lt_of_le hbw hbz.out.size
     obtain⟨T,hT⟩:∃ T,x[j]=T:=⟨_,rfl⟩
     rw[hT] at g0' g1' g2' hrow
     have g0:=(hbz.out.cell (p:=⟨b,o+j * 3,none⟩) hbw).trans g0'
     have g1:=(hbz.out.cell (p:=⟨b,o+j * 3+1,none⟩) hbw).trans g1'
     have g2:=(hbz.out.cell (p:=⟨b,o+j * 3+2,none⟩) hbw).trans g2'
     have HEND:=hid (l3ends x lo b (.slice (some ⟨b,o,none⟩) i vc) w wr hbz.out (by rw[HN.out];exact hx8) HX.out HG.out T (by rw[← hT];exact HG.out _ (List.getElem_mem hjx)) fb fa fc hrow)
     have HT:=hid hT
     have HJX:=hid hjx
     clear g0' g1' g2' hrow hT
     cases hEE:Wf.endsIn x (x.length+1) T with
     | false =>
      rw[hEE] at HEND
      have HFF:=hid (show false=VB by rw[← HV.out];exact(valid_end HJX.out (by rw[HT.out];exact hEE)).symm)
      clear hEE
      go_wp2_with (go_at_call 147;refine HEND.out.mono ?_;rintro e w3 ⟨rfl,hb3⟩;have HB3:=hid hb3;clear hb3)
      go_ret
      exact⟨ret_b HFF.out,by have B:=hbz.out.trans (HB3.out.mono hbz.out.size);repeat (first|with_reducible exact B|with_reducible refine Below.drew ?_)⟩
     | true =>
      rw[hEE] at HEND
      have HREL:=hid (show ∀ a (ha:a<x.length),a<j+1→Wf.endsIn x (x.length+1) x[a]=true from fun a ha haj=>by
       by_cases haj2:a=j
       ·subst haj2;rw[HT.out];exact hEE
       ·exact hok.out a ha (by omega))
      clear hEE
      go_wp2_with (go_at_call 147;refine HEND.out.mono ?_;rintro e w3 ⟨rfl,hb3⟩;have HB3:=hid hb3;clear hb3)
      go_roundw
      case rel=>exact⟨j+1,by go_num,by omega,hid (by have B:=hbz.out.trans (HB3.out.mono hbz.out.size);repeat (first|with_reducible exact B|with_reducible refine Below.drew ?_)),HREL⟩
      case measure=>simp[RowKit.intOf];omega
    ·have hji:j=i:=by omega
     subst hji
     have HFF:=hid (show true=VB by rw[← HV.out];exact(valid_yes HSEEN.out fun a ha=>hok.out a ha (by rw[← HN.out];exact ha)).symm)
     go_wp2
     go_ret
     exact⟨ret_b HFF.out,hbz.out⟩
end Go.Proofs.YtmdacedmjbiekaaGreatDoor
