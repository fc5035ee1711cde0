/- Packed by pack.py: Ds. -/
import Derived.Test.YtmdacedmjbiekaaGreatDoorR39
import Derived.Test.YtmdacedmjbiekaaGreatDoorR34
import Derived.Deep.RegionWith
import Derived.Deep.RegionHeld3
namespace Go.Proofs.YtmdacedmjbiekaaGreatDoor
open Go.ChangeShapes Go.WideShapes Go.ChangeAt Go.RowKit Go.Lib
set_option linter.unusedVariables false
set_option linter.unusedSimpArgs false
theorem mem_pos {x:ByteArray} {l:List (List UInt8)} (h:x.data.toList∈l) (hl:(l.all fun n=>decide (1≤n.length))=true):1≤x.size:=by
 have:=List.all_eq_true.1 hl _ h
 have h2:1≤x.data.toList.length:=by simpa using this
 rw[size_list] at h2
 exact h2
theorem el_picks (m:Nat) (l:List (List UInt8)) (v:Int) (h0:0≤v) (h1:v<l.length) (hl:(l.all fun n=>decide (n.length≤m))=true):∃ x:ByteArray,x.size≤m∧x.data.toList∈l∧∀ h:v.toNat<(l.map tx).length,(l.map tx)[v.toNat]'h=.string x:=by
 have hv:v.toNat<l.length:=by omega
 have:=List.all_eq_true.1 hl l[v.toNat] (List.getElem_mem _)
 exact⟨⟨(l[v.toNat]).toArray⟩,by simpa[tx_size] using this,List.getElem_mem _,fun h=>by rw[List.getElem_map]⟩
set_option maxRecDepth 20000 in
set_option maxHeartbeats 2000000 in
theorem l91Schema (rb k:Nat) (w:World) (H:Rd w rb k) (hk:k≤700000) :
  Calls Tryz.prog 42 #[.pointer (some ⟨rb,0,none⟩)] w fun e w'=>∃ s:ByteArray,e=.returned (.string s)∧s.size≤1900∧Rd w' rb (k+170)∧Beside rb w w':=by
 have R0:=H.lt
 have HH:=hid H
 clear H
 go_enter Tryz.func42,Tryz.ntmps42
 go_upto_region 2 with(first|(go_at_call 82;have _u:=hR5;refine(l91Type rb (k+102) x2 ⟨#[99]⟩ hx21 hx22 (show(1:Nat)≤1 by omega) _ hR5 (by omega)).mono ?_;rintro e w6 ⟨S3,rfl,hS31,hS32,hR6,hBs6⟩;have B6:=Lib.hid (B5.out.trans hBs6);clear hBs6)|(go_at_call 44;have _u:=hR4;refine(pick rb (k+101) 3 _ (hR4.alloc _) (by omega) (by omega)).mono ?_;rintro e w5 ⟨v5,rfl,hv5,_,hR5,hBs5⟩;obtain⟨hv50,hv51⟩:=hv5 (by omega);obtain⟨x2,hx21,hx2m,hx2c⟩:=cell_picks 1 [[82],[69],[85]] hBs5 hR4.lt v5 hv50 hv51 (by decide);have hx22:=mem_pos hx2m (by decide);have B5:=Lib.hid ((B4.out.alloc _).trans hBs5);clear hBs5)|(go_at_call 82;have _u:=hR3;refine(l91Type rb (k+51) x1 ⟨#[98]⟩ hx11 hx12 (show(1:Nat)≤1 by omega) _ hR3 (by omega)).mono ?_;rintro e w4 ⟨S2,rfl,hS21,hS22,hR4,hBs4⟩;have B4:=Lib.hid (B3.out.trans hBs4);clear hBs4)|(go_at_call 44;have _u:=hR2;refine(pick rb (k+50) 4 _ (hR2.alloc _) (by omega) (by omega)).mono ?_;rintro e w3 ⟨v3,rfl,hv3,_,hR3,hBs3⟩;obtain⟨hv30,hv31⟩:=hv3 (by omega);obtain⟨x1,hx11,hx1m,hx1c⟩:=cell_picks 1 [[82],[85],[85],[69]] hBs3 hR2.lt v3 hv30 hv31 (by decide);have hx12:=mem_pos hx1m (by decide);have B3:=Lib.hid ((B2.out.alloc _).trans hBs3);clear hBs3)|(go_at_call 82;refine(l91Type rb k ⟨#[82]⟩ ⟨#[97]⟩ (show(1:Nat)≤1 by omega) (show(1:Nat)≤1 by omega) (show(1:Nat)≤1 by omega) _ HH.out (by omega)).mono ?_;rintro e w2 ⟨S1,rfl,hS11,hS12,hR2,hBs2⟩;have B2:=Lib.hid hBs2;clear hBs2))
 go_cut [3,30] from 23 (fun s3 s30 wx=>∃ (S:ByteArray) (b:Bool),s3=.string S∧s30=.bool b∧1≤S.size∧S.size≤1800∧Rd wx rb (k+160)∧Hid (Beside rb w wx))
 case first =>
  have hsz:(S1++S2++S3).size≤1800:=by simp[ByteArray.size_append];omega
  have hsz1:1≤(S1++S2++S3).size:=by simp[ByteArray.size_append];omega
  have HSO:=hid fun wz=>schemaOk_s (S1++S2++S3) wz (by omega)
  obtain⟨B,hB⟩:∃ B,okL (S1++S2++S3).data.toList=B:=⟨_,rfl⟩
  rw[hB] at HSO
  clear hB
  go_wp2_with (first|(go_at_call 44;have _u:=hR7;refine(pick rb (k+152) 8 _ hR7 (by omega) (by omega)).mono ?_;rintro e w8 ⟨v8,rfl,hv8,_,hR8,hBs8⟩;have B8:=Lib.hid (B7.out.trans hBs8);clear hBs8)|(go_at_call 83;refine(HSO.out _).mono ?_;rintro e w7 ⟨rfl,hb7⟩;have hR7:=hR6.below hb7 hR6.lt;have B7:=Lib.hid (B6.out.trans (Beside.of_below hb7 (Nat.le_refl _)));clear hb7))
  all_goals go_meet
  all_goals exact⟨_,_,rfl,rfl,hsz1,hsz,by first|exact hR8.mono (by omega)|exact hR7.mono (by omega),by first|exact B8|exact B7⟩
 case rest =>
  obtain⟨S,b,rfl,rfl,hS1,hS2,hR,hB⟩:=hcut
  go_upto_if 30 with fail
  go_cut [3] from 23 (fun s3 wx=>∃ (S':ByteArray),s3=.string S'∧1≤S'.size∧S'.size≤1800∧wx=wc)
  case first =>
   cases b
   ·go_wp2_with fail
    go_meet
    exact⟨S,rfl,hS1,hS2,rfl⟩
   ·go_wp2_with fail
    go_meet
    exact⟨_,rfl,by decide,by decide,rfl⟩
  case rest =>
   obtain⟨S',rfl,hS3,hS4,rfl⟩:=hcut
   go_wp2_with (first|(go_at_call 44;have _u:=hR9;refine(pick rb (k+161) S'.size _ hR9 (by omega) (by omega)).mono ?_;rintro e w10 ⟨v10,rfl,hv10,_,hR10,hBs10⟩;obtain⟨hv100,hv101⟩:=hv10 (by omega);obtain⟨n10,rfl⟩:=Int.eq_ofNat_of_zero_le hv100;have B10:=Lib.hid (B9.out.trans hBs10);clear hBs10 hv10)|(go_at_call 44;refine(pick rb (k+160) 24 _ hR (by omega) (by omega)).mono ?_;rintro e w9 ⟨v9,rfl,hv9,_,hR9,hBs9⟩;have B9:=Lib.hid (hB.out.trans hBs9);clear hBs9 hv9))
   ·have kk1:n10<S'.size:=by omega
    have kk2:n10≤S'.size:=by omega
    have kk3:n10+1≤S'.size:=by omega
    have kk4:(0:Int)≤(n10:Int)+1:=by omega
    have kk5:(n10:Int)+1≤(S'.size:Int):=by omega
    have kw:IntKind.i64.wrap ((n10:Int)+1)=(n10:Int)+1:=by
     have:=wrap_nat_i64 (n10+1) (by omega)
     rw[show((n10+1:Nat):Int)=(n10:Int)+1 by omega] at this
     exact this
    have ks:∀ wz,(Instr.slice 9 (.string S') (some (.int .i64 ((n10:Int)+1))) none none).run Tryz.prog wz=.ok (.string (S'.extract (n10+1) S'.size)) wz:=fun wz=>run_slice_string_l wz 9 S' Tryz.underlying9 .i64 ((n10:Int)+1) kk4 kk5
    go_region_with (first|(go_at_call 44;refine(pick rb (k+162) 5 _ ((hR10.alloc _).drewN 1) (by omega) (by omega)).mono ?_;rintro e w11 ⟨v11,rfl,hv11,_,hR11,hBs11⟩;obtain⟨hv110,hv111⟩:=hv11 (by omega);obtain⟨x,hx0,hxm,hxc⟩:=cell_picks 1 [[],[44],[58],[49],[10]] (w1:=w10) (Beside.trans (Beside.drew (Beside.refl _ _)) hBs11) hR10.lt v11 hv110 hv111 (by decide);have a1:=fun wz=>run_string_add_sum (P:=Tryz.prog) (w:=wz) (S'.extract 0 n10) x (by rw[ByteArray.size_extract];omega);have a2:=fun wz=>run_string_add_sum (P:=Tryz.prog) (w:=wz) (S'.extract 0 n10++x) (S'.extract (n10+1) S'.size) (by rw[ByteArray.size_append,ByteArray.size_extract,ByteArray.size_extract];omega);have B11:=Lib.hid (((B10.out.alloc _).drew).trans hBs11);clear hBs11 hv11)|(go_at_call 44;refine(pick rb (k+162) 5 _ (hR10.drewN 1) (by omega) (by omega)).mono ?_;rintro e w11 ⟨v11,rfl,hv11,_,hR11,hBs11⟩;obtain⟨hv110,hv111⟩:=hv11 (by omega);obtain⟨x,hx0,hxm,hxc⟩:=el_picks 1 [[],[44],[58],[49],[10]] v11 hv110 hv111 (by decide);have hel:∀ h,[Value.string ⟨#[]⟩,Value.string ⟨#[44]⟩,Value.string ⟨#[58]⟩,Value.string ⟨#[49]⟩,Value.string ⟨#[10]⟩][v11.toNat]'h=.string x:=(fun h=>hxc h);clear hxc;have a1:=fun wz=>run_string_add_sum (P:=Tryz.prog) (w:=wz) (S'.extract 0 n10) x (by rw[ByteArray.size_extract];omega);have a2:=fun wz=>run_string_add_sum (P:=Tryz.prog) (w:=wz) (S'.extract 0 n10++x) (S'.extract (n10+1) S'.size) (by rw[ByteArray.size_append,ByteArray.size_extract,ByteArray.size_extract];omega);have B11:=Lib.hid ((B10.out.drew).trans hBs11);clear hBs11 hv11))
    all_goals go_wp2_with fail
    all_goals go_ret
    all_goals exact⟨_,rfl,by rw[ByteArray.size_append,ByteArray.size_append,ByteArray.size_extract,ByteArray.size_extract];omega,by first|exact hR11.mono (by omega)|exact(hR11.alloc _).mono (by omega),by first|exact B11.out|exact B11.out.alloc _⟩
   ·go_ret
    exact⟨S',rfl,by omega,hR9.mono (by omega),B9.out⟩
end Go.Proofs.YtmdacedmjbiekaaGreatDoor
