/- Packed by pack3.py: Ds Du Dv Dw. -/
import Derived.Test.YtidjpalnmnehmaaGreatDoorO0
import Derived.Deep.RegionWith
import Derived.Deep.RegionHeld3
set_option maxRecDepth 100000
set_option maxHeartbeats 40000000
set_option linter.unusedVariables false
set_option linter.unusedSimpArgs false
namespace Go.Proofs.YtidjpalnmnehmaaGreatDoor
open Go.ChangeShapes Go.WideShapes Go.ChangeAt Go.RowKit Go.Lib
theorem mem_pos {x:ByteArray} {l:List (List UInt8)} (h:x.data.toList∈l) (hl:(l.all fun n=>decide (1<=n.length))=true):1<=x.size:=by
 have:=List.all_eq_true.1 hl _ h
 have h2:1<=x.data.toList.length:=by simpa using this
 rw[size_list] at h2
 exact h2
theorem el_picks (m:Nat) (l:List (List UInt8)) (v:Int) (h0:0<=v) (h1:v<l.length) (hl:(l.all fun n=>decide (n.length<=m))=true):∃ x:ByteArray,x.size<=m/\x.data.toList∈l/\∀ h:v.toNat<(l.map tx).length,(l.map tx)[v.toNat]'h=.string x:=by
 have hv:v.toNat<l.length:=by omega
 have:=List.all_eq_true.1 hl l[v.toNat] (List.getElem_mem _)
 exact⟨⟨(l[v.toNat]).toArray⟩,by simpa[tx_size] using this,List.getElem_mem _,fun h=>by rw[List.getElem_map]⟩
theorem l91Schema (rb k:Nat) (w:World) (H:Rd w rb k) (hk:k<=700000) :
  Calls Tryz.prog 37 #[.pointer (some ⟨rb,0,none⟩)] w fun e w'=>∃ s:ByteArray,e=.returned (.string s)/\s.size<=1900/\Rd w' rb (k+170)/\Beside rb w w':=by
 have R0:=H.lt
 have HH:=hid H
 clear H
 go_enter Tryz.func37,Tryz.ntmps37
 go_upto_region 2 with(first|(go_at_call 61;have _u:=hR5;refine(l91Type rb (k+102) x2 ⟨#[99]⟩ hx21 hx22 (show(1:Nat)<=1 by omega) _ hR5 (by omega)).mono ?_;rintro e w6 ⟨S3,rfl,hS31,hS32,hR6,hBs6⟩;have B6:=Lib.hid (B5.out.trans hBs6);clear hBs6)|(go_at_call 62;have _u:=hR4;refine(pick rb (k+101) 3 _ (hR4.alloc _) (by omega) (by omega)).mono ?_;rintro e w5 ⟨v5,rfl,hv5,_,hR5,hBs5⟩;obtain⟨hv50,hv51⟩:=hv5 (by omega);obtain⟨x2,hx21,hx2m,hx2c⟩:=cell_picks 1 [[82],[69],[85]] hBs5 hR4.lt v5 hv50 hv51 (by decide);have hx22:=mem_pos hx2m (by decide);have B5:=Lib.hid ((B4.out.alloc _).trans hBs5);clear hBs5)|(go_at_call 61;have _u:=hR3;refine(l91Type rb (k+51) x1 ⟨#[98]⟩ hx11 hx12 (show(1:Nat)<=1 by omega) _ hR3 (by omega)).mono ?_;rintro e w4 ⟨S2,rfl,hS21,hS22,hR4,hBs4⟩;have B4:=Lib.hid (B3.out.trans hBs4);clear hBs4)|(go_at_call 62;have _u:=hR2;refine(pick rb (k+50) 4 _ (hR2.alloc _) (by omega) (by omega)).mono ?_;rintro e w3 ⟨v3,rfl,hv3,_,hR3,hBs3⟩;obtain⟨hv30,hv31⟩:=hv3 (by omega);obtain⟨x1,hx11,hx1m,hx1c⟩:=cell_picks 1 [[82],[85],[85],[69]] hBs3 hR2.lt v3 hv30 hv31 (by decide);have hx12:=mem_pos hx1m (by decide);have B3:=Lib.hid ((B2.out.alloc _).trans hBs3);clear hBs3)|(go_at_call 61;refine(l91Type rb k ⟨#[82]⟩ ⟨#[97]⟩ (show(1:Nat)<=1 by omega) (show(1:Nat)<=1 by omega) (show(1:Nat)<=1 by omega) _ HH.out (by omega)).mono ?_;rintro e w2 ⟨S1,rfl,hS11,hS12,hR2,hBs2⟩;have B2:=Lib.hid hBs2;clear hBs2))
 go_cut [3,30] from 23 (fun s3 s30 wx=>∃ (S:ByteArray) (b:Bool),s3=.string S/\s30=.bool b/\1<=S.size/\S.size<=1800/\Rd wx rb (k+160)/\Hid (Beside rb w wx))
 case first =>
  have hsz:(S1++S2++S3).size<=1800:=by simp[ByteArray.size_append];omega
  have hsz1:1<=(S1++S2++S3).size:=by simp[ByteArray.size_append];omega
  have HSO:=hid fun wz=>schemaOk_s (S1++S2++S3) wz (by omega)
  obtain⟨B,hB⟩:∃ B,okL (S1++S2++S3).data.toList=B:=⟨_,rfl⟩
  rw[hB] at HSO
  clear hB
  go_wp2_with (first|(go_at_call 62;have _u:=hR7;refine(pick rb (k+152) 8 _ hR7 (by omega) (by omega)).mono ?_;rintro e w8 ⟨v8,rfl,hv8,_,hR8,hBs8⟩;have B8:=Lib.hid (B7.out.trans hBs8);clear hBs8)|(go_at_call 63;refine(HSO.out _).mono ?_;rintro e w7 ⟨rfl,hb7⟩;have hR7:=hR6.below hb7 hR6.lt;have B7:=Lib.hid (B6.out.trans (Beside.of_below hb7 (Nat.le_refl _)));clear hb7))
  all_goals go_meet
  all_goals exact⟨_,_,rfl,rfl,hsz1,hsz,by first|exact hR8.mono (by omega)|exact hR7.mono (by omega),by first|exact B8|exact B7⟩
 case rest =>
  obtain⟨S,b,rfl,rfl,hS1,hS2,hR,hB⟩:=hcut
  go_upto_if 30 with fail
  go_cut [3] from 23 (fun s3 wx=>∃ (S':ByteArray),s3=.string S'/\1<=S'.size/\S'.size<=1800/\wx=wc)
  case first =>
   cases b
   ·go_wp2_with fail
    go_meet
    exact⟨S,rfl,hS1,hS2,rfl⟩
   ·go_wp2_with fail
    go_meet
    exact⟨_,rfl,by decide,by decide,rfl⟩
  case rest =>
   obtain⟨S',rfl,hS3,hS4,rfl⟩:=hcut
   go_wp2_with (first|(go_at_call 62;have _u:=hR9;refine(pick rb (k+161) S'.size _ hR9 (by omega) (by omega)).mono ?_;rintro e w10 ⟨v10,rfl,hv10,_,hR10,hBs10⟩;obtain⟨hv100,hv101⟩:=hv10 (by omega);obtain⟨n10,rfl⟩:=Int.eq_ofNat_of_zero_le hv100;have B10:=Lib.hid (B9.out.trans hBs10);clear hBs10 hv10)|(go_at_call 62;refine(pick rb (k+160) 24 _ hR (by omega) (by omega)).mono ?_;rintro e w9 ⟨v9,rfl,hv9,_,hR9,hBs9⟩;have B9:=Lib.hid (hB.out.trans hBs9);clear hBs9 hv9))
   ·have kk1:n10<S'.size:=by omega
    have kk2:n10<=S'.size:=by omega
    have kk3:n10+1<=S'.size:=by omega
    have kk4:(0:Int)<=(n10:Int)+1:=by omega
    have kk5:(n10:Int)+1<=(S'.size:Int):=by omega
    have kw:IntKind.i64.wrap ((n10:Int)+1)=(n10:Int)+1:=by
     have:=wrap_nat_i64 (n10+1) (by omega)
     rw[show((n10+1:Nat):Int)=(n10:Int)+1 by omega] at this
     exact this
    have ks:∀ wz,(Instr.slice 9 (.string S') (some (.int .i64 ((n10:Int)+1))) none none).run Tryz.prog wz=.ok (.string (S'.extract (n10+1) S'.size)) wz:=fun wz=>run_slice_string_l wz 9 S' Tryz.underlying9 .i64 ((n10:Int)+1) kk4 kk5
    go_region_with (first|(go_at_call 62;refine(pick rb (k+162) 5 _ ((hR10.alloc _).drewN 1) (by omega) (by omega)).mono ?_;rintro e w11 ⟨v11,rfl,hv11,_,hR11,hBs11⟩;obtain⟨hv110,hv111⟩:=hv11 (by omega);obtain⟨x,hx0,hxm,hxc⟩:=cell_picks 1 [[],[44],[58],[49],[10]] (w1:=w10) (Beside.trans (Beside.drew (Beside.refl _ _)) hBs11) hR10.lt v11 hv110 hv111 (by decide);have a1:=fun wz=>run_string_add_sum (P:=Tryz.prog) (w:=wz) (S'.extract 0 n10) x (by rw[ByteArray.size_extract];omega);have a2:=fun wz=>run_string_add_sum (P:=Tryz.prog) (w:=wz) (S'.extract 0 n10++x) (S'.extract (n10+1) S'.size) (by rw[ByteArray.size_append,ByteArray.size_extract,ByteArray.size_extract];omega);have B11:=Lib.hid (((B10.out.alloc _).drew).trans hBs11);clear hBs11 hv11)|(go_at_call 62;refine(pick rb (k+162) 5 _ (hR10.drewN 1) (by omega) (by omega)).mono ?_;rintro e w11 ⟨v11,rfl,hv11,_,hR11,hBs11⟩;obtain⟨hv110,hv111⟩:=hv11 (by omega);obtain⟨x,hx0,hxm,hxc⟩:=el_picks 1 [[],[44],[58],[49],[10]] v11 hv110 hv111 (by decide);have hel:∀ h,[Value.string ⟨#[]⟩,Value.string ⟨#[44]⟩,Value.string ⟨#[58]⟩,Value.string ⟨#[49]⟩,Value.string ⟨#[10]⟩][v11.toNat]'h=.string x:=(fun h=>hxc h);clear hxc;have a1:=fun wz=>run_string_add_sum (P:=Tryz.prog) (w:=wz) (S'.extract 0 n10) x (by rw[ByteArray.size_extract];omega);have a2:=fun wz=>run_string_add_sum (P:=Tryz.prog) (w:=wz) (S'.extract 0 n10++x) (S'.extract (n10+1) S'.size) (by rw[ByteArray.size_append,ByteArray.size_extract,ByteArray.size_extract];omega);have B11:=Lib.hid ((B10.out.drew).trans hBs11);clear hBs11 hv11))
    all_goals go_wp2_with fail
    all_goals go_ret
    all_goals exact⟨_,rfl,by rw[ByteArray.size_append,ByteArray.size_append,ByteArray.size_extract,ByteArray.size_extract];omega,by first|exact hR11.mono (by omega)|exact(hR11.alloc _).mono (by omega),by first|exact B11.out|exact B11.out.alloc _⟩
   ·go_ret
    exact⟨S',rfl,by omega,hR9.mono (by omega),B9.out⟩

theorem LkOut.form {l kt:List UInt8} {lo:Nat} {e:Ending} {w':World} (h:LkOut l kt lo e w'):∃ a n c b,e=.returned (.tuple #[.slice a n c,.bool b]):=by
 unfold LkOut at h
 cases hk:kindOf l kt with
 | none=>rw[hk] at h;obtain⟨a,n,c,rfl⟩:=h;exact⟨_,_,_,_,rfl⟩
 | some y=>rw[hk] at h;obtain⟨b,a,c,rfl,_⟩:=h;exact⟨_,_,_,_,rfl⟩
theorem l91Text (rb k:Nat) (w:World) (H:Rd w rb k) (hk:k<=900000) :
  Calls Tryz.prog 103 #[.pointer (some ⟨rb,0,none⟩)] w fun e w'=>∃ b:List UInt8,e=.returned (tx (39::(b++[39])))/\b.all Wf.isTxt=true/\b.length<=12/\Rd w' rb (k+1)/\Beside rb w w':=by
 have R0:=H.lt
 go_enter Tryz.func103,Tryz.ntmps103
 go_wp2_with (go_at_call 62;refine(pick rb k 6 _ (H.alloc _) (by omega) (by omega)).mono ?_;rintro e w3 ⟨n,rfl,hn,_,hR3,hBs3⟩;obtain⟨hn0,hn1⟩:=hn (by omega);obtain⟨x,hx0,hx1,hxc⟩:=cell_picks 12 [[],[97],[104,105],[97,32,98],[122,122,57],[97,98,99,100,101,102,103,104,105,106,107,108]] hBs3 R0 n hn0 hn1 (by decide);have B3:=Lib.hid (((Beside.refl rb w).alloc _).trans hBs3);clear hBs3)
 have hall:=List.all_eq_true.1 (show([[],[97],[104,105],[97,32,98],[122,122,57],[97,98,99,100,101,102,103,104,105,106,107,108]]:List (List UInt8)).all (fun b=>b.all Wf.isTxt&&decide (b.length<=12))=true by decide) _ hx1
 rw[Bool.and_eq_true,decide_eq_true_eq] at hall
 go_ret
 refine⟨x.data.toList,?_,hall.1,hall.2,hR3,B3.out⟩
 refine congrArg (fun s=>Ending.returned (Value.string s)) ?_
 rw[eq_list]
 simp[ByteArray.data_append]
theorem l91Some (rb k:Nat) (s:ByteArray) (hs:s.size<=1048576) (w:World) (H:Rd w rb k) (hk:k<=800000) :
  Calls Tryz.prog 38 #[.pointer (some ⟨rb,0,none⟩),.string s] w fun e w'=>∃ K:ByteArray,e=.returned (.string K)/\K.size<=100/\Rd w' rb (k+10)/\Beside rb w w':=by
 have R0:=H.lt
 have HK:=hid fun(kt:ByteArray) (wz:World)=>l3Kind s kt wz hs
 go_enter Tryz.func38,Tryz.ntmps38
 go_wp2_with (first|(go_at_call 50;refine(HK.out x _).mono ?_;rintro e w4 ⟨ho,hb4⟩;obtain⟨a,n,c,b,rfl⟩:=ho.form;have R4:=hid (hR3.below hb4 hR3.lt);have B4:=hid (B3.out.trans (Beside.of_below hb4 (Nat.le_refl _)));clear ho hb4;cases b)|(go_at_call 64;refine(l91Kind rb (k+1) _ hR2 (by omega)).mono ?_;rintro e w3 ⟨K,rfl,hK,hR4,hBs4⟩;have B5:=hid (B2.out.trans hBs4);clear hBs4)|(go_at_call 62;have _u:=hR2;refine(pick rb (k+1) 11 _ (hR2.alloc _) (by omega) (by omega)).mono ?_;rintro e w3 ⟨n,rfl,hn,_,hR3,hBs3⟩;obtain⟨hn0,hn1⟩:=hn (by omega);obtain⟨x,hx0,hx1,hxc⟩:=cell_picks 4 [[64,97,59],[64,97,59],[64,97,59],[64,98,59],[64,99,59],[91,110],[63,64,97,59],[110],[116],[91,64,98,59],[63,91,102]] hBs3 hR2.lt n hn0 hn1 (by decide);have B3:=Lib.hid ((B2.out.alloc _).trans hBs3);clear hBs3)|(go_at_call 62;refine(pick rb k 30 _ H (by omega) (by omega)).mono ?_;rintro e w2 ⟨v,rfl,hv,_,hR2,hBs⟩;obtain⟨hv0,hv1⟩:=hv (by omega);have B2:=Lib.hid hBs;clear hBs hv;rcases(Bool.eq_false_or_eq_true (v==(0:Int))) with hq|hq))
 all_goals go_ret
 all_goals first|exact⟨K,rfl,by omega,hR4.mono (by omega),B5.out⟩|exact⟨_,rfl,by decide,R4.out.mono (by omega),B4.out⟩|exact⟨x,rfl,by omega,R4.out.mono (by omega),B4.out⟩

def DrV (x:Wf.Sc) (v:Value) (rb lo bsc:Nat) (d:Int) (k:Wf.K) (C B N:Nat):Prop:=∀ (w:World) (k0:Nat),Rd w rb k0->k0+C<=900000->ScSp w lo bsc v x->rb<lo->Calls Tryz.prog 65 #[.pointer (some ⟨rb,0,none⟩),v,tx k.text,.int .i64 d] w fun e w'=>∃ (u:Wf.V) (p:Nat),e=.returned (ptr p)/\Wf.Typed x N k u/\u.print.length<=B/\LV w' (fun z=>w.heap.size<=z) u p/\Rd w' rb (k0+C)/\Beside rb w w'
theorem DrV.mono {x:Wf.Sc} {v:Value} {rb lo bsc:Nat} {d:Int} {k:Wf.K} {C B N C' B' N':Nat} (h:DrV x v rb lo bsc d k C B N) (hC:C<=C') (hB:B<=B') (hN:N<=N'):DrV x v rb lo bsc d k C' B' N':=fun w k0 hr hk hs hl =>
 (h w k0 hr (by omega) hs hl).mono fun e w' ⟨u,p,h1,h2,h3,h4,h5,h6⟩=>⟨u,p,h1,Wf.typed_mono _ _ _ h2 _ hN,by omega,h4,h5.mono (by omega),h6⟩
abbrev vNew (KT:ByteArray):Obj:=.cells #[.string KT,.string ⟨#[]⟩,.slice none 0 0,.slice none 0 0] 103
theorem vNew_cells {w w3:World} {rb:Nat} {KT:ByteArray} (hr:rb<w.heap.size) (hb:Beside rb (w.alloc (vNew KT)) w3):w.heap.size<w3.heap.size/\w3.cell? ⟨w.heap.size,0,none⟩=some (.string KT)/\w3.cell? ⟨w.heap.size,1,none⟩=some (.string ⟨#[]⟩)/\w3.cell? ⟨w.heap.size,2,none⟩=some (.slice none 0 0)/\w3.cell? ⟨w.heap.size,3,none⟩=some (.slice none 0 0)/\w3.frozen? ⟨w.heap.size,1,none⟩=false/\w3.frozen? ⟨w.heap.size,2,none⟩=false/\w3.frozen? ⟨w.heap.size,3,none⟩=false:=by
 have hlt:w.heap.size<(w.alloc (vNew KT)).heap.size:=by simp
 have hne:w.heap.size≠rb:=by omega
 have hblk:=hb.block w.heap.size hlt hne
 have cd:=fun o=>World.cell?_of_block (w:=w.alloc (vNew KT)) (w':=w3) (a:=⟨w.heap.size,o,none⟩) hblk
 have cf:=fun o=>World.frozen?_of_block (w:=w.alloc (vNew KT)) (w':=w3) (a:=⟨w.heap.size,o,none⟩) hblk
 refine⟨Nat.lt_of_lt_of_le hlt hb.size,(cd 0).trans ?_,(cd 1).trans ?_,(cd 2).trans ?_,(cd 3).trans ?_,(cf 1).trans ?_,(cf 2).trans ?_,(cf 3).trans ?_⟩ <;> simp[vNew,go_sem]
theorem LV.leaf {w w3:World} {rb:Nat} {KT X:ByteArray} {what:UInt8} {text:List UInt8} (hr:rb<w.heap.size) (hb:Beside rb (w.alloc (vNew KT)) w3) (hs:shapeR what text KT.data.toList X.data.toList) (h61:what≠61) (ht:tagsOf what 0 []=[]):LV (w3.setCell ⟨w.heap.size,1,none⟩ (.string X)) (fun z=>w.heap.size<=z) (.mk what text 0 []) w.heap.size:=by
 obtain⟨hlt,c0,c1,c2,c3,_,_,_⟩:=vNew_cells hr hb
 refine LV.mk (kd:=KT.data.toList) (t:=X.data.toList) (bs:=[]) (tb:=0) (kb:=0) (tv:=.slice none 0 0) (kv:=.slice none 0 0) h61 (Nat.le_refl _) (by simpa using hlt) ((World.cell?_setCell_other w3 _ _ _ (by simp)).trans c0) (World.cell?_setCell_same w3 _ _ c1) ((World.cell?_setCell_other w3 _ _ _ (by simp)).trans c2) ((World.cell?_setCell_other w3 _ _ _ (by simp)).trans c3) (by rw[ht];exact row_nil _ _) (.inl ht) (row_nil _ _) (.inl rfl) hs (by simp only[LVs])
theorem beside_set {rb:Nat} {w w3:World} (h:Beside rb w w3) {p:Addr} (hp:w.heap.size<=p.block) (u:Value):Beside rb w (w3.setCell p u):=by
 have hb:=(Below.refl w.heap.size w3).setCell hp u
 exact⟨hb.os.trans h.os,hb.tape.trans h.tape,hb.output.trans h.output,Nat.le_trans h.size hb.size,fun k hk hr=>(Below.heap_setCell w3 p u k (by omega)).trans (h.block k hk hr)⟩
theorem num_pick {w4:World} {a:Addr} {c:Value} {p:Nat} (hp:p<=999999) (hc:c∈[Value.int .i64 0,.int .i64 5,.int .i64 (p:Int),.int .i64 127,.int .i64 128,.int .i64 16383,.int .i64 16384,.int .i64 999999]) (hcc:w4.cell? a=some c):∃ y:Nat,y<=999999/\w4.cell? a=some (.int .i64 y):=by
 simp only[List.mem_cons,List.not_mem_nil,or_false] at hc
 rcases hc with rfl|rfl|rfl|rfl|rfl|rfl|rfl|rfl
 ·exact⟨0,by omega,hcc⟩
 ·exact⟨5,by omega,hcc⟩
 ·exact⟨p,hp,hcc⟩
 ·exact⟨127,by omega,hcc⟩
 ·exact⟨128,by omega,hcc⟩
 ·exact⟨16383,by omega,hcc⟩
 ·exact⟨16384,by omega,hcc⟩
 ·exact⟨999999,by omega,hcc⟩
section
variable (x:Wf.Sc) (v:Value) (rb lo bsc:Nat) (d:Int)
theorem dr_txt:DrV x v rb lo bsc d .txt 1 14 1:=fun w k0 H hk0 hsp hlo=>by
 have R0:=H.lt
 obtain⟨KT,hKT⟩:∃ KT:ByteArray,(⟨(Wf.K.text .txt).toArray⟩:ByteArray)=KT:=⟨_,rfl⟩
 have hk1:0<KT.size:=by rw[← hKT];decide
 have ek:∀ h,(KT[0]'h).toNat=116:=by rw[← hKT];intro h;rfl
 have HKH:=hid (show KT.data.toList.head? = some 116 by rw[← hKT];rfl)
 rw[tx,hKT]
 clear hKT
 go_enter Tryz.func65,Tryz.ntmps65
 go_wp2_with (go_at_call 103;refine(l91Text rb k0 _ (H.alloc _) (by omega)).mono ?_;rintro e w3 ⟨b,rfl,hb1,hb2,hR3,hBs3⟩;obtain⟨hlt,c0,c1,c2,c3,f1,f2,f3⟩:=vNew_cells R0 hBs3;have B3:=Lib.hid hBs3;have R3:=Lib.hid hR3;clear hBs3 hR3)
 go_ret
 refine⟨.mk 116 b 0 [],w.heap.size,rfl,⟨b,hb1,hb2,rfl⟩,by rw[Wf.print_txt];simp;omega,LV.leaf (X:=⟨(39::(b++[39])).toArray⟩) R0 B3.out ⟨HKH.out,rfl⟩ (by decide) rfl,R3.out.below ((Below.refl w.heap.size w3).setCell (Nat.le_refl _) _) R0,beside_set (((Beside.refl rb w).alloc _).trans B3.out) (Nat.le_refl _) _⟩
theorem dr_flag:DrV x v rb lo bsc d .flag 1 3 1:=fun w k0 H hk0 hsp hlo=>by
 have R0:=H.lt
 obtain⟨KT,hKT⟩:∃ KT:ByteArray,(⟨(Wf.K.text .flag).toArray⟩:ByteArray)=KT:=⟨_,rfl⟩
 have hk1:0<KT.size:=by rw[← hKT];decide
 have ek:∀ h,(KT[0]'h).toNat=102:=by rw[← hKT];intro h;rfl
 have HKH:=hid (show KT.data.toList.head? = some 102 by rw[← hKT];rfl)
 have hr1:rb<(w.alloc (vNew KT)).heap.size:=Nat.lt_of_lt_of_le R0 (by simp)
 rw[tx,hKT]
 clear hKT
 go_enter Tryz.func65,Tryz.ntmps65
 go_wp2_with (go_at_call 62;refine(pick rb k0 2 _ ((H.alloc _).alloc _) (by omega) (by omega)).mono ?_;rintro e w3 ⟨n,rfl,hn,_,hR3,hBs3⟩;obtain⟨hn0,hn1⟩:=hn (by omega);obtain⟨X,hx0,hx1,hxc⟩:=cell_picks 3 [[121,101,115],[110,111]] hBs3 hr1 n hn0 hn1 (by decide);have hxd:w3.cell? ⟨w.heap.size+1,n.toNat,none⟩=some (.string X):=(by have h:=hxc;rw[show(w.alloc (vNew KT)).heap.size=w.heap.size+1 by simp] at h;exact h);clear hxc;have B2:=Lib.hid (((Beside.refl rb (w.alloc (vNew KT))).alloc _).trans hBs3);obtain⟨hlt,c0,c1,c2,c3,f1,f2,f3⟩:=vNew_cells R0 B2.out;have R3:=Lib.hid hR3;clear hBs3 hR3)
 go_ret
 have hX:X.data.toList=[121,101,115]\/X.data.toList=[110,111]:=by simpa using hx1
 refine⟨.mk 102 X.data.toList 0 [],w.heap.size,rfl,?_,by rw[Wf.print_flag,size_list];exact hx0,LV.leaf (X:=X) R0 B2.out ⟨HKH.out,rfl⟩ (by decide) rfl,R3.out.below ((Below.refl w.heap.size w3).setCell (Nat.le_refl _) _) R0,beside_set (((Beside.refl rb w).alloc _).trans B2.out) (Nat.le_refl _) _⟩
 rcases hX with h|h
 ·exact .inl (by rw[h])
 ·exact .inr (by rw[h])
theorem dr_num:DrV x v rb lo bsc d .num 2 6 1:=fun w k0 H hk0 hsp hlo=>by
 have R0:=H.lt
 obtain⟨KT,hKT⟩:∃ KT:ByteArray,(⟨(Wf.K.text .num).toArray⟩:ByteArray)=KT:=⟨_,rfl⟩
 have hk1:0<KT.size:=by rw[← hKT];decide
 have ek:∀ h,(KT[0]'h).toNat=110:=by rw[← hKT];intro h;rfl
 have HKH:=hid (show KT.data.toList.head? = some 110 by rw[← hKT];rfl)
 have HD:=hid fun(m:Nat) (hm:m<=999999) (wz:World)=>l6Dec m m wz (Nat.le_refl _) (by omega)
 rw[tx,hKT]
 clear hKT
 go_enter Tryz.func65,Tryz.ntmps65
 go_wp2_with (first|(go_at_call 89;have _u:=hxd;refine(HD.out y (by omega) _).mono ?_;rintro e w5 ⟨rfl,hb5⟩;have B5:=Lib.hid (B4.out.trans (Beside.of_below hb5 (Nat.le_refl _)));have R5:=Lib.hid (R4.out.below hb5 R4.out.lt);obtain⟨hlt,c0,c1,c2,c3,f1,f2,f3⟩:=vNew_cells R0 B5.out;clear hb5)|(go_at_call 62;have _u:=hr3;refine(pick rb (k0+1) 8 _ (R3.out.alloc _) (by omega) (by omega)).mono ?_;rintro e w4 ⟨n,rfl,hn,_,hR4,hBs4⟩;obtain⟨hn0,hn1⟩:=hn (by omega);obtain⟨c,hc,hcc⟩:=cell_pick [.int .i64 0,.int .i64 5,.int .i64 (p:Int),.int .i64 127,.int .i64 128,.int .i64 16383,.int .i64 16384,.int .i64 999999] hBs4 hr3 n hn0 (by simpa using hn1);obtain⟨y,hy,hxd⟩:=num_pick (p:=p) (by omega) hc hcc;clear hc hcc;have hl4:w3.heap.size<w4.heap.size:=Nat.lt_of_lt_of_le (by simp) hBs4.size;have B4:=Lib.hid (B3.out.trans (((Beside.refl rb w3).alloc _).trans hBs4));have R4:=Lib.hid hR4;clear hBs4 hR4)|(go_at_call 62;refine(pick rb k0 200 _ (H.alloc _) (by omega) (by omega)).mono ?_;rintro e w3 ⟨p',rfl,hp,_,hR3,hBs3⟩;obtain⟨hp0,hp1⟩:=hp (by omega);obtain⟨p,rfl⟩:=Int.eq_ofNat_of_zero_le hp0;have B3:=Lib.hid hBs3;have R3:=Lib.hid hR3;have hr3:rb<w3.heap.size:=hR3.lt;clear hBs3 hR3))
 go_ret
 refine⟨.mk 110 (Wf.dec y) 0 [],w.heap.size,rfl,⟨y,hy,rfl⟩,by rw[Wf.print_num];exact Wf.dec_len6 hy,LV.leaf (X:=⟨(Wf.dec y).toArray⟩) R0 B5.out ⟨HKH.out,rfl⟩ (by decide) rfl,R5.out.below ((Below.refl w.heap.size w5).setCell (Nat.le_refl _) _) R0,beside_set (((Beside.refl rb w).alloc _).trans B5.out) (Nat.le_refl _) _⟩
end

theorem ScSp.beside {w w':World} {lo b rb:Nat} {v:Value} {x:Wf.Sc} (h:ScSp w lo b v x) (hb:Beside rb w w') (hr:rb<lo):ScSp w' lo b v x:=by
 obtain⟨cs,h0,h1,h2,h3⟩:=h
 refine⟨cs,h0,h1.keep hb.size fun hx=>hb.block b hx (by omega),h2,fun i hi hi'=>?_⟩
 obtain⟨fb,a,c,e1,e0,e2⟩:=h3 i hi hi'
 exact⟨fb,a,c,e1,e0,e2.keep hb.size fun hx=>hb.block fb hx (by omega)⟩
theorem KB.new {w:World} {KT:ByteArray}:KB w (w.alloc (vNew KT)) w.heap.size (w.heap.size+1) none 0 0 [] []:=by
 refine⟨by omega,Nat.le_refl _,by simp,?_,?_,World.ownsRow_nil _ _ _ _,rfl,by simp only[LVs]⟩
 all_goals (simp[vNew,go_sem];done)
theorem KB.stepB {w wr w2:World} {vb base m c rb:Nat} {a:Option Addr} {l:List Wf.V} {bs:List Nat} (h:KB w wr vb base a m c l bs) (hb:Beside rb wr w2) (hr:rb<w.heap.size):KB w w2 vb base a m c l bs:=by
 have hv:vb<wr.heap.size:=Nat.lt_of_lt_of_le h.lt h.sz
 have h1:=h.le
 have h2:=h.lt
 have hne:vb≠rb:=by omega
 have hblk:=hb.block vb hv hne
 exact⟨h.lt,h.le,Nat.le_trans h.sz hb.size,(World.cell?_of_block (w:=wr) (w':=w2) (a:=⟨vb,3,none⟩) hblk).trans h.v3,(World.frozen?_of_block (w:=wr) (w':=w2) (a:=⟨vb,3,none⟩) hblk).trans h.f3,owns_beside h.own hb (by omega),h.hl,LVs.keep (fun y hy hlt=>⟨hy,hb.block y hlt (by have:=hy.1;omega)⟩) hb.size _ _ h.vals⟩
theorem LV.empty {w w3:World} {rb:Nat} {KT:ByteArray} {what:UInt8} (hr:rb<w.heap.size) (hb:Beside rb (w.alloc (vNew KT)) w3) (hs:shapeR what [] KT.data.toList []) (h61:what≠61) (ht:tagsOf what 0 []=[]):LV w3 (fun z=>w.heap.size<=z) (.mk what [] 0 []) w.heap.size:=by
 obtain⟨hlt,c0,c1,c2,c3,_,_,_⟩:=vNew_cells hr hb
 exact LV.mk (kd:=KT.data.toList) (t:=[]) (bs:=[]) (tb:=0) (kb:=0) h61 (Nat.le_refl _) hlt c0 c1 c2 c3 (by rw[ht];exact row_nil _ _) (.inl ht) (row_nil _ _) (.inl rfl) hs (by simp only[LVs])
section
variable (x:Wf.Sc) (v:Value) (rb lo bsc:Nat) (d:Int)
theorem dr_opt_none (k:Wf.K) (hd:decide ((0:Int)<d)=false):DrV x v rb lo bsc d (.opt k) 0 1 1:=fun w k0 H hk0 hsp hlo=>by
 have R0:=H.lt
 obtain⟨KT,hKT⟩:∃ KT:ByteArray,(⟨(Wf.K.opt k).text.toArray⟩:ByteArray)=KT:=⟨_,rfl⟩
 obtain⟨hk1,ek⟩:=kd_first (kd:=(Wf.K.opt k).text) (c:=63) rfl
 rw[hKT] at hk1 ek
 have ek2:∀ h,(KT[0]'h).toNat=63:=ek
 have HKH:=hid (show KT.data.toList.head? = some 63 by rw[← hKT];rfl)
 rw[tx,hKT]
 clear hKT ek
 go_enter Tryz.func65,Tryz.ntmps65
 go_wp2_with fail
 go_ret
 exact⟨.mk 63 [] 0 [],w.heap.size,rfl,.inl rfl,by rw[Wf.print_none];simp,LV.empty R0 (Beside.refl rb _) ⟨HKH.out,rfl⟩ (by decide) rfl,H.alloc _,(Beside.refl rb w).alloc _⟩
end
end Go.Proofs.YtidjpalnmnehmaaGreatDoor
