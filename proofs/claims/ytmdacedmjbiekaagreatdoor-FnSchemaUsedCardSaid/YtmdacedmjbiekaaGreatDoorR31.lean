/- Packed by pack.py: Jc. -/
import Derived.Test.YtmdacedmjbiekaaGreatDoorR30
import Derived.Deep.RegionHeld3
namespace Go.Proofs.YtmdacedmjbiekaaGreatDoor
open Go.ChangeShapes Go.WideShapes Go.ChangeAt Go.RowKit Go.Lib
set_option linter.unusedVariables false
set_option linter.unusedSimpArgs false
section
variable (sb:Nat) (SG BS NM:ByteArray) (w:World)
set_option maxRecDepth 20000 in
theorem st_sign (q:Nat) (hq:q=91∨q=63) (hs:∀ wz,Calls Tryz.prog 122 #[.agg #[.string SG, .string BS, .string NM]] wz fun e w'=>e=.returned (.int .u8 q)∧Below wz.heap.size wz w'):Calls Tryz.prog 84 #[ptr sb, .agg #[.string SG, .string BS, .string NM]] w fun e w'=>e=.returned (if q=91 then tx [91,93] else tx [45])∧Below w.heap.size w w':=by
 have HS:=hid hs
 clear hs
 rcases hq with rfl|rfl
 all_goals
  go_enter Tryz.func84,Tryz.ntmps84
  go_wp2_with (go_at_call 122;refine(HS.out _).mono ?_;rintro e w2 ⟨rfl,hb2⟩;have HB2:=hid hb2;clear hb2)
  go_ret
  exact⟨rfl,((Below.refl _ _).alloc (Nat.le_refl _) _).trans (HB2.out.mono (by simp))⟩
set_option maxRecDepth 20000 in
theorem st_plain (hs:∀ wz,Calls Tryz.prog 122 #[.agg #[.string SG, .string BS, .string NM]] wz fun e w'=>e=.returned (.int .u8 (0:Nat))∧Below wz.heap.size wz w') (O:ByteArray) (h:BS=⟨#[110]⟩∧O=⟨#[48]⟩∨BS=⟨#[116]⟩∧O=⟨#[39,39]⟩∨BS=⟨#[102]⟩∧O=⟨#[110,111]⟩):Calls Tryz.prog 84 #[ptr sb, .agg #[.string SG, .string BS, .string NM]] w fun e w'=>e=.returned (.string O)∧Below w.heap.size w w':=by
 have HS:=hid hs
 clear hs
 rcases h with⟨rfl,rfl⟩|⟨rfl,rfl⟩|⟨rfl,rfl⟩
 all_goals
  go_enter Tryz.func84,Tryz.ntmps84
  go_wp2_with (go_at_call 122;refine(HS.out _).mono ?_;rintro e w2 ⟨rfl,hb2⟩;obtain⟨hc3,hc4⟩:=bcell hb2;have hz:w.heap.size<w2.heap.size:=(by have:=hb2.size;simp at this;omega);have HB2:=hid hb2;clear hb2)
  go_ret
  exact⟨rfl,((Below.refl _ _).alloc (Nat.le_refl _) _).trans (HB2.out.mono (by simp))⟩
end
structure At (W:World) (lo sb:Nat) (NM:ByteArray) (t:Wf.Ty) (mb b:Nat):Prop where
 sz:sb<W.heap.size
 c1:W.cell? ⟨sb,1,none⟩=some (.map (some mb))
 ty:TyL W lo b t
 look:∀ wz,Below W.heap.size W wz→(Instr.lookup 129 (.map (some mb)) (.string NM) false).run Tryz.prog wz=.ok (ptr b) wz
section
variable (W:World) (lo sb:Nat) (SG NM:ByteArray) (t:Wf.Ty) (mb b:Nat) (HA:At W lo sb NM t mb b) (w:World) (hW:Below W.heap.size W w)
 (hs:∀ wz,Calls Tryz.prog 122 #[.agg #[.string SG, .string ⟨#[64]⟩, .string NM]] wz fun e w'=>e=.returned (.int .u8 (0:Nat))∧Below wz.heap.size wz w')
include HA hW hs
set_option maxRecDepth 20000 in
theorem st_rec (h82:t.sort=82):Calls Tryz.prog 84 #[ptr sb, .agg #[.string SG, .string ⟨#[64]⟩, .string NM]] w fun e w'=>e=.returned (tx [123,125])∧Below w.heap.size w w':=by
 have HS:=hid hs
 have HW:=hid hW
 have HAT:=hid HA
 obtain⟨hbW,s0⟩:=HA.ty.sort
 rw[h82] at s0
 have hsw:sb<w.heap.size:=Nat.lt_of_lt_of_le HA.sz hW.size
 have hbw:b<w.heap.size:=Nat.lt_of_lt_of_le hbW hW.size
 have y1:=(hW.cell (p:=⟨sb,1,none⟩) HA.sz).trans HA.c1
 have y0:=(hW.cell (p:=⟨b,0,none⟩) hbW).trans s0
 clear hs s0 HA hW
 go_enter Tryz.func84,Tryz.ntmps84
 go_wp2_with (go_at_call 122;refine(HS.out _).mono ?_;rintro e w2 ⟨rfl,hb2⟩;obtain⟨hc3,hc4⟩:=bcell hb2;have hz:w.heap.size<w2.heap.size:=(by have:=hb2.size;simp at this;omega);have HB2:=hid (((Below.refl w.heap.size w).alloc (Nat.le_refl _) (.cells #[.string SG, .string ⟨#[64]⟩, .string NM] 57)).trans (hb2.mono (by simp)));have z1:=(HB2.out.cell (p:=⟨sb,1,none⟩) hsw).trans y1;have z0:=(HB2.out.cell (p:=⟨b,0,none⟩) hbw).trans y0;have hbw2:=Nat.lt_of_lt_of_le hbw HB2.out.size;have l0:=HAT.out.look w2 (HW.out.trans (HB2.out.mono HW.out.size));have l1:=HAT.out.look w2.drew (HW.out.trans (HB2.out.mono HW.out.size)).drew;clear hb2)
 go_region
 all_goals go_wp2_with fail
 all_goals go_ret
 all_goals exact⟨rfl,by have B:=HB2.out;repeat (first|with_reducible exact B|with_reducible refine Below.drew ?_|with_reducible refine Below.alloc ?_ (by first|exact B.size|(simp;done)|(simp;omega)|omega) _)⟩
set_option maxRecDepth 20000 in
set_option maxHeartbeats 1000000 in
theorem st_enum (h69:t.sort=69) (f:Wf.Fd) (fs:List Wf.Fd) (hf:t.fields=f::fs) (hG:f.tag≤999999) (O:ByteArray) (ho:O.data.toList=35::Wf.dec f.tag):Calls Tryz.prog 84 #[ptr sb, .agg #[.string SG, .string ⟨#[64]⟩, .string NM]] w fun e w'=>e=.returned (.string O)∧Below w.heap.size w w':=by
 have HS:=hid hs
 have HW:=hid hW
 have HAT:=hid HA
 obtain⟨hbW,s0⟩:=HA.ty.sort
 rw[h69] at s0
 obtain⟨fb,a,c,_,c2,hnc,hcm,hrow⟩:=HA.ty.row
 obtain⟨o,rfl,hfd⟩:=hrow 0 (by rw[hf];simp)
 have ef:t.fields[0]'(by rw[hf];simp)=f:=by simp[hf]
 rw[ef,Nat.zero_mul,Nat.add_zero] at hfd
 have e0:(fdC t.sort f)[0]? = some (.int .i64 f.tag):=by
  obtain⟨_,_,_,_,h⟩:=fdC_form t.sort f
  rw[h];rfl
 have f0:=hfd.2 0 _ e0
 rw[Nat.add_zero] at f0
 have hfb:=hfd.1
 obtain⟨n,hn⟩:∃ n,t.fields.length=n:=⟨_,rfl⟩
 have h0n:0<n:=by rw[← hn,hf];simp
 rw[hn] at c2 hnc
 obtain⟨G,hGG⟩:∃ G,f.tag=G:=⟨_,rfl⟩
 rw[hGG] at f0 hG ho
 have hsw:sb<w.heap.size:=Nat.lt_of_lt_of_le HA.sz hW.size
 have hbw:b<w.heap.size:=Nat.lt_of_lt_of_le hbW hW.size
 have hfw:fb<w.heap.size:=Nat.lt_of_lt_of_le hfb hW.size
 have y1:=(hW.cell (p:=⟨sb,1,none⟩) HA.sz).trans HA.c1
 have y0:=(hW.cell (p:=⟨b,0,none⟩) hbW).trans s0
 have y2:=(hW.cell (p:=⟨b,2,none⟩) hbW).trans c2
 have yf:=(hW.cell (p:=⟨fb,o,none⟩) hfb).trans f0
 have HD:=hid fun wz=>decimal G G wz (Nat.le_refl _) hG
 have ld:=Wf.dec_len6 hG
 obtain⟨D,hD⟩:∃ D:ByteArray,(⟨(Wf.dec G).toArray⟩:ByteArray)=D:=⟨_,rfl⟩
 simp only[tx,hD] at HD
 have hds:D.size≤6:=by rw[← hD,← size_list];simpa using ld
 have HO:=hid (show(⟨#[35]⟩:ByteArray)++D=O by rw[eq_list,ho,← hD];simp)
 have a1:=fun wz=>run_string_add_sum (P:=Tryz.prog) (w:=wz) ⟨#[35]⟩ D (by show 1+D.size≤_;omega)
 clear hs s0 HA hW ho hD ld c2 f0 e0 hfd ef hrow hf hGG
 go_enter Tryz.func84,Tryz.ntmps84
 go_wp2_with (go_at_call 122;refine(HS.out _).mono ?_;rintro e w2 ⟨rfl,hb2⟩;obtain⟨hc3,hc4⟩:=bcell hb2;have hz:w.heap.size<w2.heap.size:=(by have:=hb2.size;simp at this;omega);have HB2:=hid (((Below.refl w.heap.size w).alloc (Nat.le_refl _) (.cells #[.string SG, .string ⟨#[64]⟩, .string NM] 57)).trans (hb2.mono (by simp)));have z1:=(HB2.out.cell (p:=⟨sb,1,none⟩) hsw).trans y1;have z0:=(HB2.out.cell (p:=⟨b,0,none⟩) hbw).trans y0;have z2:=(HB2.out.cell (p:=⟨b,2,none⟩) hbw).trans y2;have zf:=(HB2.out.cell (p:=⟨fb,o,none⟩) hfw).trans yf;have hbw2:=Nat.lt_of_lt_of_le hbw HB2.out.size;have l0:=HAT.out.look w2 (HW.out.trans (HB2.out.mono HW.out.size));have l1:=HAT.out.look w2.drew (HW.out.trans (HB2.out.mono HW.out.size)).drew;clear hb2)
 go_region
 all_goals go_wp2_with (go_at_call 94;refine(HD.out _).mono ?_;rintro e w3 ⟨rfl,hb3⟩;have HB3:=hid hb3;clear hb3)
 all_goals go_ret
 all_goals exact⟨ret_str HO.out,by have B:=HB2.out.drew.trans (HB3.out.mono HB2.out.size);repeat (first|with_reducible exact B|with_reducible refine Below.drew ?_|with_reducible refine Below.alloc ?_ (by first|exact B.size|(simp;done)|(simp;omega)|omega) _)⟩
set_option maxRecDepth 20000 in
set_option maxHeartbeats 2000000 in
theorem st_union (h85:t.sort=85) (f:Wf.Fd) (fs:List Wf.Fd) (hf:t.fields=f::fs) (hG:f.tag≤999999) (S2 O:ByteArray) (hS2:S2.size≤200) (ho:O.data.toList=60::(Wf.dec f.tag++61::(S2.data.toList++[62])))
  (hrec:∀ wz,Below w.heap.size w wz→Calls Tryz.prog 84 #[ptr sb,kV f.kind] wz fun e w'=>e=.returned (.string S2)∧Below wz.heap.size wz w'):Calls Tryz.prog 84 #[ptr sb, .agg #[.string SG, .string ⟨#[64]⟩, .string NM]] w fun e w'=>e=.returned (.string O)∧Below w.heap.size w w':=by
 have HS:=hid hs
 have HW:=hid hW
 have HAT:=hid HA
 obtain⟨hbW,s0⟩:=HA.ty.sort
 rw[h85] at s0
 obtain⟨fb,a,c,_,c2,hnc,hcm,hrow⟩:=HA.ty.row
 obtain⟨o,rfl,hfd⟩:=hrow 0 (by rw[hf];simp)
 have ef:t.fields[0]'(by rw[hf];simp)=f:=by simp[hf]
 rw[ef,Nat.zero_mul,Nat.add_zero] at hfd
 have e0:fdC t.sort f=[.int .i64 f.tag,tx f.name,tx f.kind.signs,tx f.kind.base,tx f.kind.name,tx f.given]:=by unfold fdC;rw[if_neg (by rw[h85];decide)]
 have hfb:=hfd.1
 have hf2:=hfd.2
 rw[e0] at hf2
 obtain⟨S1,hS1⟩:∃ S1:ByteArray,(⟨f.kind.signs.toArray⟩:ByteArray)=S1:=⟨_,rfl⟩
 obtain⟨B1,hB1⟩:∃ B1:ByteArray,(⟨f.kind.base.toArray⟩:ByteArray)=B1:=⟨_,rfl⟩
 obtain⟨N1,hN1⟩:∃ N1:ByteArray,(⟨f.kind.name.toArray⟩:ByteArray)=N1:=⟨_,rfl⟩
 simp only[kV,tx,hS1,hB1,hN1] at hrec
 simp only[tx,hS1,hB1,hN1] at hf2
 have f0:W.cell? ⟨fb,o,none⟩=some (.int .i64 f.tag):=hf2 0 _ rfl
 have f1:=hf2 2 _ rfl
 have f2:=hf2 3 _ rfl
 have f3:=hf2 4 _ rfl
 obtain⟨n,hn⟩:∃ n,t.fields.length=n:=⟨_,rfl⟩
 have h0n:0<n:=by rw[← hn,hf];simp
 rw[hn] at c2 hnc
 obtain⟨G,hGG⟩:∃ G,f.tag=G:=⟨_,rfl⟩
 rw[hGG] at f0 hG ho
 have hsw:sb<w.heap.size:=Nat.lt_of_lt_of_le HA.sz hW.size
 have hbw:b<w.heap.size:=Nat.lt_of_lt_of_le hbW hW.size
 have hfw:fb<w.heap.size:=Nat.lt_of_lt_of_le hfb hW.size
 have y1:=(hW.cell (p:=⟨sb,1,none⟩) HA.sz).trans HA.c1
 have y0:=(hW.cell (p:=⟨b,0,none⟩) hbW).trans s0
 have y2:=(hW.cell (p:=⟨b,2,none⟩) hbW).trans c2
 have yf:=(hW.cell (p:=⟨fb,o,none⟩) hfb).trans f0
 have x1:=(hW.cell (p:=⟨fb,o+2,none⟩) hfb).trans f1
 have x2:=(hW.cell (p:=⟨fb,o+3,none⟩) hfb).trans f2
 have x3:=(hW.cell (p:=⟨fb,o+4,none⟩) hfb).trans f3
 have HD:=hid fun wz=>decimal G G wz (Nat.le_refl _) hG
 have ld:=Wf.dec_len6 hG
 obtain⟨D,hD⟩:∃ D:ByteArray,(⟨(Wf.dec G).toArray⟩:ByteArray)=D:=⟨_,rfl⟩
 simp only[tx,hD] at HD
 have hds:D.size≤6:=by rw[← hD,← size_list];simpa using ld
 have HO:=hid (show(⟨#[60]⟩:ByteArray)++D++⟨#[61]⟩++S2++⟨#[62]⟩=O by rw[eq_list,ho,← hD];simp)
 have HREC:=hid hrec
 have a1:=fun wz=>run_string_add_sum (P:=Tryz.prog) (w:=wz) ⟨#[60]⟩ D (by show 1+D.size≤_;omega)
 have a2:=fun wz=>run_string_add_sum (P:=Tryz.prog) (w:=wz) (⟨#[60]⟩++D) ⟨#[61]⟩ (by rw[ByteArray.size_append];show 1+D.size+1≤_;omega)
 have a3:=fun wz=>run_string_add_sum (P:=Tryz.prog) (w:=wz) (⟨#[60]⟩++D++⟨#[61]⟩) S2 (by rw[ByteArray.size_append,ByteArray.size_append];show 1+D.size+1+S2.size≤_;omega)
 have a4:=fun wz=>run_string_add_sum (P:=Tryz.prog) (w:=wz) (⟨#[60]⟩++D++⟨#[61]⟩++S2) ⟨#[62]⟩ (by rw[ByteArray.size_append,ByteArray.size_append,ByteArray.size_append];show 1+D.size+1+S2.size+1≤_;omega)
 clear hs s0 HA hW ho hD ld c2 f0 f1 f2 f3 hf2 e0 hfd ef hrow hf hGG hrec hS1 hB1 hN1
 go_enter Tryz.func84,Tryz.ntmps84
 go_wp2_with (go_at_call 122;refine(HS.out _).mono ?_;rintro e w2 ⟨rfl,hb2⟩;obtain⟨hc3,hc4⟩:=bcell hb2;have hz:w.heap.size<w2.heap.size:=(by have:=hb2.size;simp at this;omega);have HB2:=hid (((Below.refl w.heap.size w).alloc (Nat.le_refl _) (.cells #[.string SG, .string ⟨#[64]⟩, .string NM] 57)).trans (hb2.mono (by simp)));have z1:=(HB2.out.cell (p:=⟨sb,1,none⟩) hsw).trans y1;have z0:=(HB2.out.cell (p:=⟨b,0,none⟩) hbw).trans y0;have z2:=(HB2.out.cell (p:=⟨b,2,none⟩) hbw).trans y2;have zf:=(HB2.out.cell (p:=⟨fb,o,none⟩) hfw).trans yf;have hbw2:=Nat.lt_of_lt_of_le hbw HB2.out.size;have l0:=HAT.out.look w2 (HW.out.trans (HB2.out.mono HW.out.size));have l1:=HAT.out.look w2.drew (HW.out.trans (HB2.out.mono HW.out.size)).drew;have w1:=(HB2.out.cell (p:=⟨fb,o+2,none⟩) hfw).trans x1;have w12:=(HB2.out.cell (p:=⟨fb,o+3,none⟩) hfw).trans x2;have w13:=(HB2.out.cell (p:=⟨fb,o+4,none⟩) hfw).trans x3;have hfw2:=Nat.lt_of_lt_of_le hfw HB2.out.size;have F:=hid fun(wz:World) (hz:Below w2.heap.size w2 wz)=>(show wz.cell? ⟨b,2,none⟩=some (.slice (some ⟨fb,o,none⟩) n c)∧wz.cell? ⟨fb,o,none⟩=some (.int .i64 G)∧wz.cell? ⟨fb,o+2,none⟩=some (.string S1)∧wz.cell? ⟨fb,o+3,none⟩=some (.string B1)∧wz.cell? ⟨fb,o+4,none⟩=some (.string N1) from⟨(hz.cell (p:=⟨b,2,none⟩) hbw2).trans z2,(hz.cell (p:=⟨fb,o,none⟩) hfw2).trans zf,(hz.cell (p:=⟨fb,o+2,none⟩) hfw2).trans w1,(hz.cell (p:=⟨fb,o+3,none⟩) hfw2).trans w12,(hz.cell (p:=⟨fb,o+4,none⟩) hfw2).trans w13⟩);clear hb2)
 go_region
 go_wp2_with fail
 go_region_held3 (fun w'=>w'.cell? ⟨b,2,none⟩=some (.slice (some ⟨fb,o,none⟩) n c)∧w'.cell? ⟨fb,o,none⟩=some (.int .i64 G)∧w'.cell? ⟨fb,o+2,none⟩=some (.string S1)∧w'.cell? ⟨fb,o+3,none⟩=some (.string B1)∧w'.cell? ⟨fb,o+4,none⟩=some (.string N1)) (first|exact⟨k1,k2,k3,k4,k5⟩|exact⟨d1,d2,d3,d4,d5⟩|go_keep) (first|(go_at_call 94;refine(HD.out _).mono ?_;rintro e w3 ⟨rfl,hb3⟩;have TD:=Lib.hid (show Below w2.heap.size w2 w3 by first|exact TS.out.trans (hb3.mono TS.out.size)|(refine Below.trans (b:=_) ?_ hb3;repeat (first|with_reducible exact Below.refl _ _|with_reducible refine Below.drew ?_)));obtain⟨d1,d2,d3,d4,d5⟩:=F.out _ TD.out;clear hb3)|(go_at_call 84;refine(HREC.out _ (by first|exact HB2.out.trans (TD.out.mono HB2.out.size)|(refine Below.trans (b:=w2) HB2.out ?_;repeat (first|with_reducible exact Below.refl _ _|with_reducible refine Below.drew ?_)))).mono ?_;rintro e w4 ⟨rfl,hb4⟩;have TS:=Lib.hid (show Below w2.heap.size w2 w4 by first|exact TD.out.trans (hb4.mono TD.out.size)|(refine Below.trans (b:=_) ?_ hb4;repeat (first|with_reducible exact Below.refl _ _|with_reducible refine Below.drew ?_)));obtain⟨k1,k2,k3,k4,k5⟩:=F.out _ TS.out;clear hb4))
 all_goals go_wp2_with fail
 all_goals go_ret
 all_goals exact⟨ret_str HO.out,by first|exact HB2.out.trans (TS.out.mono HB2.out.size)|exact HB2.out.trans (TD.out.mono HB2.out.size)⟩
end
end Go.Proofs.YtmdacedmjbiekaaGreatDoor
