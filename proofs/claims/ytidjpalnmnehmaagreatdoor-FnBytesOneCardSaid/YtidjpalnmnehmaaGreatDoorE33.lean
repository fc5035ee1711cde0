/- Packed by pack.py: Vx Vy Vz Wa Ib Xa Xb. -/
import Derived.Test.YtidjpalnmnehmaaGreatDoorE32
import Derived.Test.YtidjpalnmnehmaaGreatDoorE27
import Derived.Test.YtidjpalnmnehmaaGreatDoorE6
import Derived.Test.YtidjpalnmnehmaaGreatDoorE1
import Derived.Test.YtidjpalnmnehmaaGreatDoorE2
import Derived.Deep.RegionHeld3
namespace Go.Proofs.YtidjpalnmnehmaaGreatDoor
open Go.ChangeShapes Go.WideShapes Go.ChangeAt Go.RowKit Go.Lib
set_option linter.unusedVariables false
set_option linter.unusedSimpArgs false
set_option maxRecDepth 20000 in
set_option maxHeartbeats 1000000 in
theorem value_ref (x:Wf.Sc) (rb sb:Nat) (W:World) (n:Nat) (nm:List UInt8) (hnm:nm.length≤1000000) (s:List UInt8) (w:World) (lo mb tb:Nat) (hW:Below W.heap.size W w) (hWr:W.heap.size≤rb) (hsb:sb<W.heap.size) (c1:W.cell? ⟨sb,1,none⟩=some (.map (some mb))) (look:∀ wz,Below W.heap.size W wz→(Instr.lookup 114 (.map (some mb)) (.string ⟨nm.toArray⟩) false).run Tryz.prog wz=.ok (ptr tb) wz)
  (hof:∀ w2,Below W.heap.size W w2→Sn w2 rb sb s false→Calls Tryz.prog 116 #[ptr rb,ptr tb] w2 fun e w'=>RdOut (Wf.parse x (n+1) (.ref nm) s) s rb sb w2 e w') (H:Sn w rb sb s false):Calls Tryz.prog 74 #[ptr rb,kV (.ref nm)] w fun e w'=>RdOut (Wf.parse x (n+1) (.ref nm) s) s rb sb w e w':=by
 have hrb:=H.lt
 have c2:=H.c2
 have HH:=hid H
 have HW:=hid hW
 have HOT:=hid hof
 have HLK:=hid look
 have HC1:=hid c1
 have HSG:=hid fun w2=>sign (.ref nm) w2
 obtain⟨NM,hNM⟩:∃ NM:ByteArray,(⟨nm.toArray⟩:ByteArray)=NM:=⟨_,rfl⟩
 have hkv:kV (.ref nm)=.agg #[.string ⟨#[]⟩, .string ⟨#[64]⟩, .string NM]:=by rw[← hNM];rfl
 rw[hkv] at HSG
 rw[hkv]
 rw[hNM] at HLK
 have hsn:signN (.ref nm)=0:=rfl
 rw[hsn] at HSG
 have ST:=hid fun W1 h=>start_value w ⟨#[]⟩ ⟨#[64]⟩ NM W1 h
 have hsw:sb<w.heap.size:=Nat.lt_of_lt_of_le hsb hW.size
 clear H hW hof look c1 hNM hkv hsn
 go_enter Tryz.func74,Tryz.ntmps74
 go_wp2_with (go_at_call 95;obtain⟨d0,d1,d2,z0,b0⟩:=ST.out _ rfl;refine(HSG.out _).mono ?_;rintro e w1 ⟨rfl,hb1⟩;have b01:=below_join b0 hb1;have hz:=Nat.lt_of_lt_of_le (Nat.lt_succ_self _) (Nat.le_of_lt z0.lt);have e0:=(hb1.cell (p:=⟨w.heap.size,0,none⟩) hz).trans d0;have e1:=(hb1.cell (p:=⟨w.heap.size,1,none⟩) hz).trans d1;have e2:=(hb1.cell (p:=⟨w.heap.size,2,none⟩) hz).trans d2;have S1:=hid (HH.out.below b01);have HB1:=hid (Beside.of_below (rb:=rb) b01 (Nat.le_refl _));have Z1:=hid (z0.below hb1 z0.lt);have BW1:=hid (Beside.below HW.out HW.out.size hWr HB1.out);have s0:=S1.out.c0;have m1:=(BW1.out.cell (p:=⟨sb,1,none⟩) hsb).trans HC1.out;have hz1:=Nat.lt_of_lt_of_le hz hb1.size;have hs1:=S1.out.lt;have hsb1:=Nat.lt_of_lt_of_le hsw HB1.out.size;have l0:=HLK.out w1 BW1.out;have l1:=HLK.out w1.drew BW1.out.drew;clear hb1 b01 b0 d0 d1 d2 z0 hz)
 go_region_held3 (fun w'=>w'.cell? ⟨rb,0,none⟩=some (ptr sb)∧w'.cell? ⟨sb,1,none⟩=some (.map (some mb))∧w'.cell? ⟨w.heap.size,2,none⟩=some (.string NM)∧(Instr.lookup 114 (.map (some mb)) (.string NM) false).run Tryz.prog w'=.ok (ptr tb) w') (first|exact⟨j0,j1,j2,j3⟩|(refine FK.out _ ?_;repeat (first|with_reducible exact Below.refl _ _|with_reducible refine Below.setCell ?_ (by show w.heap.size+1≤w.heap.size+1;omega) _))|go_keep) ((go_at_call 116;refine(HOT.out _ BW1.out.drew (S1.out.drewN 1)).mono ?_;rintro e w3 ⟨cs,v,r,rfl,hvc,hb3,ho⟩;obtain⟨q2,g2,n2,c2,T2,a2,rfl⟩:=hvc.cells4;have HVC:=hid hvc;have HO:=hid ho;have HB3:=hid (HB1.out.trans ((Beside.drew (Beside.refl rb w1)).trans hb3));have Z3:=hid (Z1.out.step ((Beside.drew (Beside.refl rb w1)).trans hb3) (by omega));obtain⟨zl,zr0,zr1,zr2,zr3,zf0,zf1,zf2,zf3⟩:=Z3.out;have BW3:=hid (Beside.below HW.out HW.out.size hWr HB3.out);have j0:w3.cell? ⟨rb,0,none⟩=some (ptr sb):=(by rcases ho with⟨_,h⟩|⟨_,_,h⟩ <;> exact h.c0);have j1:=(BW3.out.cell (p:=⟨sb,1,none⟩) hsb).trans HC1.out;have j2:w3.cell? ⟨w.heap.size,2,none⟩=some (.string NM):=(hb3.cell (p:=⟨w.heap.size,2,none⟩) hz1 (by show w.heap.size≠rb;omega)).trans e2;have j3:=HLK.out w3 BW3.out;have FK:=hid fun(wz:World) (hz:Below (w.heap.size+1) w3 wz)=>(show wz.cell? ⟨rb,0,none⟩=some (ptr sb)∧wz.cell? ⟨sb,1,none⟩=some (.map (some mb))∧wz.cell? ⟨w.heap.size,2,none⟩=some (.string NM)∧(Instr.lookup 114 (.map (some mb)) (.string NM) false).run Tryz.prog wz=.ok (ptr tb) wz from⟨(hz.cell (p:=⟨rb,0,none⟩) (by show rb<w.heap.size+1;omega)).trans j0,(hz.cell (p:=⟨sb,1,none⟩) (by show sb<w.heap.size+1;omega)).trans j1,(hz.cell (p:=⟨w.heap.size,2,none⟩) (by show w.heap.size<w.heap.size+1;omega)).trans j2,HLK.out wz (BW3.out.trans (hz.mono (by have:=HW.out.size;omega)))⟩);clear hvc ho hb3))
 all_goals (go_wp2_with fail)
 all_goals exact bodyPost_ret (v:=.agg #[.int .u8 q2, .string T2, .int .i64 g2, .slice a2 n2 c2]) (by simp[results,Tryz.results74,go_sem, *]) rfl (by
  have hR:∀ W4,Beside (w.heap.size+1) w3 W4→RdOut (Wf.parse x (n+1) (.ref nm) s) s rb sb w (.returned (.agg #[.int .u8 q2, .string T2, .int .i64 g2, .slice a2 n2 c2])) W4:=fun W4 hb=>by
   refine⟨[.int .u8 q2, .string T2, .int .i64 g2, .slice a2 n2 c2],v,r,rfl,VC.keep (P:=fun b=>w1.heap.size≤b) (fun b hp hlt=>⟨Nat.le_trans HB1.out.size hp,hb.block b hlt (by have h1:w1.heap.size≤b:=hp;have h2:=Z1.out.lt;omega)⟩) hb.size _ _ HVC.out,HB3.out.on hb (by omega), ?_⟩
   rcases HO.out with⟨hp,sn⟩|⟨hp,hbv,sn⟩
   ·exact .inl ⟨hp,sn.beside hb (by omega)⟩
   ·exact .inr ⟨hp,hbv,sn.beside hb (by omega)⟩
  refine hR _ ?_
  repeat (first|with_reducible exact Beside.refl _ _|with_reducible refine Beside.drew ?_|with_reducible refine Beside.trans ?_ (Beside.set _ _ _ _)))
theorem KOk.list {x:Wf.Sc} {k:Wf.K} (h:KOk x (.list k)):KOk x k:=⟨by have:=h.len;simp[Wf.K.text] at this;omega,h.ref⟩
theorem KOk.opt {x:Wf.Sc} {k:Wf.K} (h:KOk x (.opt k)):KOk x k:=⟨by have:=h.len;simp[Wf.K.text] at this;omega,h.ref⟩
theorem KOk.fld {x:Wf.Sc} (hx:Wf.ScOk x) {t:Wf.Ty} (ht:t∈x) (h69:t.sort≠69) {f:Wf.Fd} (hf:f∈t.fields):KOk x f.kind:=⟨fd_kind ((hx.tys t ht).fds f hf),hx.refs t ht h69 f hf⟩
theorem value (x:Wf.Sc) (hx:Wf.ScOk x) (lo rb sb:Nat) (W:World) (hsc:ScL W lo sb x) (hWr:W.heap.size≤rb):∀ (n:Nat) (k:Wf.K),KOk x k→Reads x rb sb W n k:=by
 intro n
 induction n with
 | zero=>intro k _ s w _ _ h;omega
 | succ n ih =>
  intro k hk s w hW H hn h400
  cases k with
  | num=>exact value_num rb sb s w x n h400 H
  | txt=>exact value_txt rb sb s w x n h400 H
  | flag=>exact value_flag rb sb s w x n H
  | list k=>exact value_list x rb sb W n k s w hW hWr (ih k hk.list) hn h400 H
  | opt k =>
   cases s with
   | nil=>exact value_opt_no x rb sb W n k [] w (by simp) (by simp) hW hWr H
   | cons a r =>
    by_cases h45:a=45
    ·subst h45;exact value_opt_none x rb sb n k r w H
    ·by_cases h43:a=43
     ·subst h43
      exact value_opt_some x rb sb W n k r w hW hWr (ih k hk.opt) (by simp at hn;omega) (by simp at h400;omega) H
     ·exact value_opt_no x rb sb W n k (a::r) w (by simpa using h45) (by simpa using h43) hW hWr H
  | ref nm =>
   obtain⟨mb,hsz,hc1,hnm⟩:=hsc.named
   obtain⟨t,ht⟩:=Option.isSome_iff_exists.1 (show(x.find nm).isSome=true by simpa[Wf.hasRef,Wf.K.base,Wf.K.name] using hk.ref)
   have hnl:nm.length≤12:=by have:=kname_len (.ref nm);have h2:=hk.len;simp only[Wf.K.name] at this;omega
   rcases hnm ⟨nm.toArray⟩ (by rw[tx_size];omega) with⟨h0,_⟩|⟨t',b,h1,hT,hl⟩
   ·rw[show(⟨nm.toArray⟩:ByteArray).data.toList=nm from rfl,ht] at h0;cases h0
   rw[show(⟨nm.toArray⟩:ByteArray).data.toList=nm from rfl,ht] at h1
   obtain rfl:t=t':=Option.some.inj h1
   have hm:=(Wf.find_mem ht).1
   exact value_ref x rb sb W n nm (by omega) s w lo mb b hW hWr hsz hc1 hl (fun w2 hb hs=>ofType x rb sb W n t nm w2 s hx hm ht lo b hb hsc hT hWr (fun h69 f hf=>ih f.kind (KOk.fld hx hm h69 hf)) hn h400 hs) H

def RvOut (x:Wf.Sc) (k:Wf.K) (s:List UInt8) (w:World) (e:Ending) (w':World):Prop:=match Wf.valIn x k s with
 | some v=>∃ cs,e=.returned (.tuple #[.agg cs.toArray, .bool true])∧VC w' (fun b=>w.heap.size≤b) v cs
 | none=>e=.returned (.tuple #[.agg #[.int .u8 0, .string ⟨#[]⟩, .int .i64 0, .slice none 0 0], .bool false])
theorem RvOut.no {x:Wf.Sc} {k:Wf.K} {s:List UInt8} {w w':World} {e:Ending} (h:Wf.valIn x k s=none) (he:e=.returned (.tuple #[.agg #[.int .u8 0, .string ⟨#[]⟩, .int .i64 0, .slice none 0 0], .bool false])):RvOut x k s w e w':=by
 unfold RvOut;rw[h];exact he
theorem RvOut.yes {x:Wf.Sc} {k:Wf.K} {s:List UInt8} {w w':World} {e:Ending} {v:Wf.V} {cs:List Value} (h:Wf.valIn x k s=some v) (he:e=.returned (.tuple #[.agg cs.toArray, .bool true])) (hv:VC w' (fun b=>w.heap.size≤b) v cs):RvOut x k s w e w':=by
 unfold RvOut;rw[h];exact⟨cs,he,hv⟩
theorem start_read (w:World) (SG BS NM S:ByteArray) (sb:Nat) (W1:World) (hW1:((w.alloc (.cells #[.string SG, .string BS, .string NM] 48)).alloc (.cells #[.int .u8 0, .string ⟨#[]⟩, .int .i64 0, .slice none 0 0] 51)).alloc (.cells #[ptr sb, .string S, .bool false] 132)=W1) :
  W1.cell? ⟨w.heap.size,0,none⟩=some (.string SG)∧W1.cell? ⟨w.heap.size,1,none⟩=some (.string BS)∧W1.cell? ⟨w.heap.size,2,none⟩=some (.string NM)∧Zero W1 (w.heap.size+1)∧Sn W1 (w.heap.size+1+1) sb S.data.toList false∧Below w.heap.size w W1:=by
 have hB:Below w.heap.size w W1:=by
  rw[← hW1]
  exact((((Below.refl _ _).alloc (Nat.le_refl _) _).alloc (by simp) _).alloc (by simp;omega) _)
 subst hW1
 refine⟨?_, ?_, ?_,⟨?_, ?_, ?_, ?_, ?_, ?_, ?_, ?_, ?_⟩,⟨?_, ?_, ?_, ?_, ?_, ?_⟩,hB⟩
 all_goals first|(simp[go_sem];done)|(simp[go_sem];omega)
section
variable (x:Wf.Sc) (k:Wf.K) (sb:Nat) (s:List UInt8) (W w:World)
set_option maxRecDepth 20000 in
set_option maxHeartbeats 1000000 in
theorem read_long (hs:¬ s.length≤400) (hs2:s.length≤9000000000):Calls Tryz.prog 48 #[ptr sb,kV k,tx s] w fun e w'=>RvOut x k s w e w'∧Below w.heap.size w w':=by
 have HV:=hid (Wf.valIn_long (x:=x) (k:=k) hs)
 obtain⟨SG,hSG⟩:∃ SG:ByteArray,(⟨k.signs.toArray⟩:ByteArray)=SG:=⟨_,rfl⟩
 obtain⟨BS,hBS⟩:∃ BS:ByteArray,(⟨k.base.toArray⟩:ByteArray)=BS:=⟨_,rfl⟩
 obtain⟨NM,hNM⟩:∃ NM:ByteArray,(⟨k.name.toArray⟩:ByteArray)=NM:=⟨_,rfl⟩
 obtain⟨S,hS⟩:∃ S:ByteArray,(⟨s.toArray⟩:ByteArray)=S:=⟨_,rfl⟩
 have hsz:400<S.size:=by rw[← hS];show 400<s.length;omega
 have hsz2:S.size≤9000000000:=by rw[← hS];exact hs2
 simp only[kV,tx,hSG,hBS,hNM,hS]
 clear hSG hBS hNM hS hs hs2
 go_enter Tryz.func48,Tryz.ntmps48
 go_wp2_with fail
 exact bodyPost_ret (v:=.tuple #[.agg #[.int .u8 0, .string ⟨#[]⟩, .int .i64 0, .slice none 0 0], .bool false]) (by simp[results,Tryz.results48,go_sem, *]) rfl ⟨RvOut.no HV.out rfl,by repeat (first|with_reducible exact Below.refl _ _|with_reducible refine Below.drew ?_|with_reducible refine Below.setCell ?_ (by simp) _|with_reducible refine Below.alloc ?_ (by first|exact Nat.le_refl _|simp) _)⟩
set_option maxRecDepth 20000 in
set_option maxHeartbeats 2000000 in
theorem read_short (hx:Wf.ScOk x) (lo:Nat) (hsc:ScL W lo sb x) (hk:KOk x k) (hs:s.length≤400) (hW:Below W.heap.size W w):Calls Tryz.prog 48 #[ptr sb,kV k,tx s] w fun e w'=>RvOut x k s w e w'∧Below w.heap.size w w':=by
 have HV:=hid (Wf.valIn_deep (x:=x) (k:=k) hs)
 have hrd:=value x hx lo (w.heap.size+1+1) sb W hsc (by have:=hW.size;omega) 401 k hk
 obtain⟨SG,hSG⟩:∃ SG:ByteArray,(⟨k.signs.toArray⟩:ByteArray)=SG:=⟨_,rfl⟩
 obtain⟨BS,hBS⟩:∃ BS:ByteArray,(⟨k.base.toArray⟩:ByteArray)=BS:=⟨_,rfl⟩
 obtain⟨NM,hNM⟩:∃ NM:ByteArray,(⟨k.name.toArray⟩:ByteArray)=NM:=⟨_,rfl⟩
 obtain⟨S,hS⟩:∃ S:ByteArray,(⟨s.toArray⟩:ByteArray)=S:=⟨_,rfl⟩
 have hsz:S.size≤400:=by rw[← hS];exact hs
 have hsl:S.data.toList=s:=by rw[← hS]
 have HSL:=hid hsl
 have hkv:kV k=.agg #[.string SG, .string BS, .string NM]:=by simp only[kV,tx,hSG,hBS,hNM]
 have HRD:=hid fun(w2:World) (hb:Below W.heap.size W w2) (h:Sn w2 (w.heap.size+1+1) sb S.data.toList false)=>(by rw[hsl] at h;rw[← hkv];exact hrd s w2 hb h (by omega) hs:Calls Tryz.prog 74 #[ptr (w.heap.size+1+1), .agg #[.string SG, .string BS, .string NM]] w2 fun e w'=>RdOut (Wf.parse x 401 k s) s (w.heap.size+1+1) sb w2 e w')
 have ST:=hid fun W1 h=>start_read w SG BS NM S sb W1 h
 have HW:=hid hW
 simp only[hkv,tx,hS]
 clear hkv hSG hBS hNM hS hsl hrd hs hW hsc hx hk
 have hrb:w.heap.size+1<w.heap.size+1+1:=by omega
 cases hp:Wf.parse x 401 k s with
 | none =>
  have HP:=hid hp
  rw[hp] at HRD HV
  have HVN:=hid (show Wf.valIn x k s=none from HV.out)
  clear hp HV
  go_enter Tryz.func48,Tryz.ntmps48
  go_wp2_with (go_at_call 74;obtain⟨d0,d1,d2,z0,sn0,b0⟩:=ST.out _ rfl;refine(HRD.out _ (HW.out.trans (b0.mono HW.out.size)) sn0).mono ?_;rintro e w2 ⟨cs,v,r,rfl,hvc,hb2,ho⟩;obtain⟨q2,g2,n2,c2,T2,a2,rfl⟩:=hvc.cells4;have hs2:Sn w2 (w.heap.size+1+1) sb r true:=(by rcases ho with⟨h,_⟩|⟨_,_,h⟩;(· cases h);(· exact h));have t1:=hs2.c1;have t2:=hs2.c2;have t3:=hs2.lt;have Z2:=hid (z0.step hb2 (by omega));obtain⟨zl,zr0,zr1,zr2,zr3,zf0,zf1,zf2,zf3⟩:=Z2.out;have BW2:=hid (Beside.below (Below.refl w.heap.size w) (Nat.le_refl _) (by omega) ((Beside.of_below (rb:=w.heap.size+1+1) b0 (Nat.le_refl _)).trans hb2));have SZ0:=hid b0.size;have SZ1:=hid sn0.lt;have HVC:=hid hvc;clear hvc hb2 ho d0 d1 d2 z0 sn0 b0 hs2)
  all_goals exact bodyPost_ret (v:=.tuple #[.agg #[.int .u8 0, .string ⟨#[]⟩, .int .i64 0, .slice none 0 0], .bool false]) (by simp[results,Tryz.results48,go_sem, *]) rfl ⟨RvOut.no HVN.out rfl,by have B:=BW2.out;repeat (first|with_reducible exact B|with_reducible refine Below.drew ?_|with_reducible refine Below.setCell ?_ (by simp) _|with_reducible refine Below.alloc ?_ (by first|exact B.size|(simp;omega)) _)⟩
 | some y =>
  obtain⟨u,q⟩:=y
  have htd:=(Wf.typed_deep 401 k u (Wf.parse_say _ _ _ _ _ hp).1).2
  obtain⟨Q,hQ⟩:∃ Q:ByteArray,(⟨q.toArray⟩:ByteArray)=Q:=⟨_,rfl⟩
  have HQ:=hid hQ
  rw[hp] at HRD HV
  by_cases hq:q=[]
  ·have hqe:Q.toList.isEmpty=true:=by rw[← hQ,ByteArray.toList_eq,hq];rfl
   have hqe2:Q.toList=[]:=List.isEmpty_iff.1 hqe
   obtain⟨D,hD⟩:∃ D,u.deep=D:=⟨_,rfl⟩
   have hD6:D≤401:=by rw[← hD];exact htd
   have HDP:=hid fun(P:Nat→Prop) (cs:List Value) (W2 w2:World) (hv:VC W2 P u cs) (hb:Below W2.heap.size W2 w2)=>(by rw[← hD];exact deep u P cs W2 w2 hv hb (by omega):Calls Tryz.prog 75 #[.agg cs.toArray] w2 fun e w'=>e=.returned (.int .i64 D)∧Below w2.heap.size w2 w')
   by_cases hd:D≤12
   ·have HVY:=hid (show Wf.valIn x k s=some u by rw[HV.out];dsimp only;rw[if_pos ⟨hq,by omega⟩])
    clear hp HV hq hQ hD
    go_enter Tryz.func48,Tryz.ntmps48
    go_wp2_with (first|(go_at_call 75;have _u:=HVC;refine(HDP.out _ _ w2 _ HVC.out ((Below.refl _ _).alloc (Nat.le_refl _) _)).mono ?_;rintro e w3 ⟨rfl,hb3⟩;have B3:=hid (below_join ((Below.refl w2.heap.size w2).alloc (Nat.le_refl _) _) hb3);obtain⟨hc3,hf3⟩:=bcell hb3;have hz3:w2.heap.size<w3.heap.size:=(by have:=hb3.size;simp at this;omega);have Z3:=hid (Z2.out.below B3.out Z2.out.lt);obtain⟨yl,yr0,yr1,yr2,yr3,yf0,yf1,yf2,yf3⟩:=Z3.out;clear hb3)|(go_at_call 74;obtain⟨d0,d1,d2,z0,sn0,b0⟩:=ST.out _ rfl;refine(HRD.out _ (HW.out.trans (b0.mono HW.out.size)) sn0).mono ?_;rintro e w2 ⟨cs,v,r,rfl,hvc,hb2,ho⟩;obtain⟨q2,g2,n2,c2,T2,a2,rfl⟩:=hvc.cells4;obtain⟨rfl,rfl,hs2⟩:v=u∧r=q∧Sn w2 (w.heap.size+1+1) sb r false:=(by rcases ho with⟨h,h2⟩|⟨h,_⟩;(· simp only[Option.some.injEq,Prod.mk.injEq] at h;obtain⟨rfl,rfl⟩:=h;exact⟨rfl,rfl,h2⟩);(· cases h));have t1:=hs2.c1;rw[tx,HQ.out] at t1;have t2:=hs2.c2;have t3:=hs2.lt;have Z2:=hid (z0.step hb2 (by omega));obtain⟨zl,zr0,zr1,zr2,zr3,zf0,zf1,zf2,zf3⟩:=Z2.out;have BW2:=hid (Beside.below (Below.refl w.heap.size w) (Nat.le_refl _) (by omega) ((Beside.of_below (rb:=w.heap.size+1+1) b0 (Nat.le_refl _)).trans hb2));have SZ0:=hid b0.size;have SZ1:=hid sn0.lt;have HVC:=hid hvc;clear hvc hb2 ho d0 d1 d2 z0 sn0 b0 hs2))
    all_goals exact bodyPost_ret (v:=.tuple #[.agg #[.int .u8 q2, .string T2, .int .i64 g2, .slice a2 n2 c2], .bool true]) (by simp[results,Tryz.results48,go_sem, *]) rfl (by
     have hR:∀ W4,Beside (w.heap.size+1) w3 W4→(RvOut x k s w (.returned (.tuple #[.agg #[.int .u8 q2, .string T2, .int .i64 g2, .slice a2 n2 c2], .bool true])) W4∧Below w.heap.size w W4):=fun W4 hb=>by
      refine⟨RvOut.yes HVY.out (cs:=[.int .u8 q2, .string T2, .int .i64 g2, .slice a2 n2 c2]) rfl (VC.keep (fun b hp hlt=>⟨Nat.le_trans SZ0.out hp, ?_⟩) (Nat.le_trans B3.out.size hb.size) _ _ HVC.out),Beside.below (BW2.out.trans (B3.out.mono BW2.out.size)) (Nat.le_trans BW2.out.size B3.out.size) (by omega) hb⟩
      have h1:w.heap.size+1+1<b+0:=by have:=SZ1.out;omega
      exact(hb.block b (Nat.lt_of_lt_of_le hlt B3.out.size) (by omega)).trans (B3.out.block b hlt)
     refine hR _ ?_
     repeat (first|with_reducible exact Beside.refl _ _|with_reducible refine Beside.drew ?_|with_reducible refine Beside.trans ?_ (Beside.set _ _ _ _)))
   ·have hd2:12<D:=by omega
    have HVN:=hid (show Wf.valIn x k s=none by rw[HV.out];dsimp only;rw[if_neg (by rintro⟨_,h⟩;omega)])
    clear hp HV hq hQ hD hd
    go_enter Tryz.func48,Tryz.ntmps48
    go_wp2_with (first|(go_at_call 75;have _u:=HVC;refine(HDP.out _ _ w2 _ HVC.out ((Below.refl _ _).alloc (Nat.le_refl _) _)).mono ?_;rintro e w3 ⟨rfl,hb3⟩;have B3:=hid (below_join ((Below.refl w2.heap.size w2).alloc (Nat.le_refl _) _) hb3);obtain⟨hc3,hf3⟩:=bcell hb3;have hz3:w2.heap.size<w3.heap.size:=(by have:=hb3.size;simp at this;omega);have Z3:=hid (Z2.out.below B3.out Z2.out.lt);obtain⟨yl,yr0,yr1,yr2,yr3,yf0,yf1,yf2,yf3⟩:=Z3.out;clear hb3)|(go_at_call 74;obtain⟨d0,d1,d2,z0,sn0,b0⟩:=ST.out _ rfl;refine(HRD.out _ (HW.out.trans (b0.mono HW.out.size)) sn0).mono ?_;rintro e w2 ⟨cs,v,r,rfl,hvc,hb2,ho⟩;obtain⟨q2,g2,n2,c2,T2,a2,rfl⟩:=hvc.cells4;obtain⟨rfl,rfl,hs2⟩:v=u∧r=q∧Sn w2 (w.heap.size+1+1) sb r false:=(by rcases ho with⟨h,h2⟩|⟨h,_⟩;(· simp only[Option.some.injEq,Prod.mk.injEq] at h;obtain⟨rfl,rfl⟩:=h;exact⟨rfl,rfl,h2⟩);(· cases h));have t1:=hs2.c1;rw[tx,HQ.out] at t1;have t2:=hs2.c2;have t3:=hs2.lt;have Z2:=hid (z0.step hb2 (by omega));obtain⟨zl,zr0,zr1,zr2,zr3,zf0,zf1,zf2,zf3⟩:=Z2.out;have BW2:=hid (Beside.below (Below.refl w.heap.size w) (Nat.le_refl _) (by omega) ((Beside.of_below (rb:=w.heap.size+1+1) b0 (Nat.le_refl _)).trans hb2));have SZ0:=hid b0.size;have SZ1:=hid sn0.lt;have HVC:=hid hvc;clear hvc hb2 ho d0 d1 d2 z0 sn0 b0 hs2))
    all_goals exact bodyPost_ret (v:=.tuple #[.agg #[.int .u8 0, .string ⟨#[]⟩, .int .i64 0, .slice none 0 0], .bool false]) (by simp[results,Tryz.results48,go_sem, *]) rfl ⟨RvOut.no HVN.out rfl,by have B:=(BW2.out.trans (B3.out.mono BW2.out.size));repeat (first|with_reducible exact B|with_reducible refine Below.drew ?_|with_reducible refine Below.setCell ?_ (by simp) _|with_reducible refine Below.alloc ?_ (by first|exact B.size|(simp;omega)) _)⟩
  ·have hqe:Q.toList.isEmpty=false:=by rw[← hQ,ByteArray.toList_eq];cases q with|nil=>exact absurd rfl hq|cons a r=>rfl
   have hqe2:Q.toList≠[]:=by rw[← hQ,ByteArray.toList_eq];exact hq
   have HVN:=hid (show Wf.valIn x k s=none by rw[HV.out];dsimp only;rw[if_neg (fun h=>hq h.1)])
   clear hp HV hq hQ
   go_enter Tryz.func48,Tryz.ntmps48
   go_wp2_with (go_at_call 74;obtain⟨d0,d1,d2,z0,sn0,b0⟩:=ST.out _ rfl;refine(HRD.out _ (HW.out.trans (b0.mono HW.out.size)) sn0).mono ?_;rintro e w2 ⟨cs,v,r,rfl,hvc,hb2,ho⟩;obtain⟨q2,g2,n2,c2,T2,a2,rfl⟩:=hvc.cells4;obtain⟨rfl,rfl,hs2⟩:v=u∧r=q∧Sn w2 (w.heap.size+1+1) sb r false:=(by rcases ho with⟨h,h2⟩|⟨h,_⟩;(· simp only[Option.some.injEq,Prod.mk.injEq] at h;obtain⟨rfl,rfl⟩:=h;exact⟨rfl,rfl,h2⟩);(· cases h));have t1:=hs2.c1;rw[tx,HQ.out] at t1;have t2:=hs2.c2;have t3:=hs2.lt;have Z2:=hid (z0.step hb2 (by omega));obtain⟨zl,zr0,zr1,zr2,zr3,zf0,zf1,zf2,zf3⟩:=Z2.out;have BW2:=hid (Beside.below (Below.refl w.heap.size w) (Nat.le_refl _) (by omega) ((Beside.of_below (rb:=w.heap.size+1+1) b0 (Nat.le_refl _)).trans hb2));have SZ0:=hid b0.size;have SZ1:=hid sn0.lt;have HVC:=hid hvc;clear hvc hb2 ho d0 d1 d2 z0 sn0 b0 hs2)
   all_goals exact bodyPost_ret (v:=.tuple #[.agg #[.int .u8 0, .string ⟨#[]⟩, .int .i64 0, .slice none 0 0], .bool false]) (by simp[results,Tryz.results48,go_sem, *]) rfl ⟨RvOut.no HVN.out rfl,by have B:=BW2.out;repeat (first|with_reducible exact B|with_reducible refine Below.drew ?_|with_reducible refine Below.setCell ?_ (by simp) _|with_reducible refine Below.alloc ?_ (by first|exact B.size|(simp;omega)) _)⟩
end

theorem read (x:Wf.Sc) (hx:Wf.ScOk x) (k:Wf.K) (hk:KOk x k) (lo sb:Nat) (s:List UInt8) (hs:s.length≤9000000000) (W w:World) (hsc:ScL W lo sb x) (hW:Below W.heap.size W w):Calls Tryz.prog 48 #[ptr sb,kV k,tx s] w fun e w'=>RvOut x k s w e w'∧Below w.heap.size w w':=by
 by_cases h:s.length≤400
 ·exact read_short x k sb s W w hx lo hsc hk h hW
 ·exact read_long x k sb s w h hs
def valOf (l kt s:List UInt8):Option ((Wf.Sc × Wf.K) × Wf.V):=match kindOf l kt with
 | some y=>(match Wf.valIn y.1 y.2 s with
  | some v=>some (y,v)
  | none=>none)
 | none=>none
def GivOut (l kt s:List UInt8) (lo:Nat) (e:Ending) (w':World):Prop:=match valOf l kt s with
 | some y=>∃ sb cs,e=.returned (.tuple #[ptr sb,kV y.1.2, .agg cs.toArray, .bool true])∧ScL w' lo sb y.1.1∧VC w' (fun b=>lo≤b) y.2 cs
 | none=>∃ p a b c,e=.returned (.tuple #[.pointer p, .agg #[.string a, .string b, .string c], .agg #[.int .u8 0, .string ⟨#[]⟩, .int .i64 0, .slice none 0 0], .bool false])
theorem GivOut.no {l kt s:List UInt8} {lo:Nat} {e:Ending} {w':World} (h:valOf l kt s=none) (he:∃ p a b c,e=.returned (.tuple #[.pointer p, .agg #[.string a, .string b, .string c], .agg #[.int .u8 0, .string ⟨#[]⟩, .int .i64 0, .slice none 0 0], .bool false])):GivOut l kt s lo e w':=by
 unfold GivOut;rw[h];exact he
theorem GivOut.yes {l kt s:List UInt8} {lo:Nat} {e:Ending} {w':World} {y:(Wf.Sc × Wf.K) × Wf.V} (h:valOf l kt s=some y) (he:∃ sb cs,e=.returned (.tuple #[ptr sb,kV y.1.2, .agg cs.toArray, .bool true])∧ScL w' lo sb y.1.1∧VC w' (fun b=>lo≤b) y.2 cs):GivOut l kt s lo e w':=by
 unfold GivOut;rw[h];exact he
theorem kindOf_ok {l kt:List UInt8} {y:Wf.Sc × Wf.K} (h:kindOf l kt=some y):Wf.ScOk y.1∧KOk y.1 y.2:=by
 obtain⟨h1,h2,h3,h4,h5⟩:=kindOf_text h
 exact⟨Wf.schemaOf_ok h1,⟨by rw[h4];exact h5,h3⟩⟩
structure ZeroK (wr:World) (b:Nat):Prop where
 lt:b<wr.heap.size
 r0:wr.cell? ⟨b,0,none⟩=some (.string ⟨#[]⟩)
 r1:wr.cell? ⟨b,1,none⟩=some (.string ⟨#[]⟩)
 r2:wr.cell? ⟨b,2,none⟩=some (.string ⟨#[]⟩)
 f0:wr.frozen? ⟨b,0,none⟩=false
 f1:wr.frozen? ⟨b,1,none⟩=false
 f2:wr.frozen? ⟨b,2,none⟩=false
theorem ZeroK.below {wr w2:World} {b B:Nat} (h:ZeroK wr b) (hb:Below B wr w2) (hr:b<B):ZeroK w2 b:=by
 have h1:=hb.block b hr
 have cd:=fun o=>World.cell?_of_block (w:=wr) (w':=w2) (a:=⟨b,o,none⟩) h1
 have cf:=fun o=>World.frozen?_of_block (w:=wr) (w':=w2) (a:=⟨b,o,none⟩) h1
 exact⟨Nat.lt_of_lt_of_le h.lt hb.size,(cd 0).trans h.r0,(cd 1).trans h.r1,(cd 2).trans h.r2,(cf 0).trans h.f0,(cf 1).trans h.f1,(cf 2).trans h.f2⟩
theorem start_given (w:World) (W1:World) (hW1:(w.alloc (.cells #[.string ⟨#[]⟩, .string ⟨#[]⟩, .string ⟨#[]⟩] 48)).alloc (.cells #[.int .u8 0, .string ⟨#[]⟩, .int .i64 0, .slice none 0 0] 51)=W1) :
  ZeroK W1 w.heap.size∧Zero W1 (w.heap.size+1)∧Below w.heap.size w W1:=by
 have hB:Below w.heap.size w W1:=by
  rw[← hW1]
  exact(((Below.refl _ _).alloc (Nat.le_refl _) _).alloc (by simp) _)
 subst hW1
 refine⟨⟨?_, ?_, ?_, ?_, ?_, ?_, ?_⟩,⟨?_, ?_, ?_, ?_, ?_, ?_, ?_, ?_, ?_⟩,hB⟩
 all_goals first|(simp[go_sem];done)|(simp[go_sem];omega)
structure Over (B:Nat) (w w':World):Prop where
 size:w.heap.size≤w'.heap.size
 block:∀ k,B≤k→k<w.heap.size→w'.heap[k]? = w.heap[k]?
theorem Over.refl (B:Nat) (w:World):Over B w w:=⟨Nat.le_refl _,fun _ _ _=>rfl⟩
theorem Over.drew {B:Nat} {w w':World} (h:Over B w w'):Over B w w'.drew:=⟨h.size,h.block⟩
theorem Over.setCell {B:Nat} {w w':World} (h:Over B w w') {p:Addr} (hp:p.block<B) (v:Value):Over B w (w'.setCell p v):=by
 have hs:(w'.setCell p v).heap.size=w'.heap.size:=by simp
 refine⟨by rw[hs];exact h.size,fun k hk hl=>(Below.heap_setCell w' p v k (by omega)).trans (h.block k hk hl)⟩
theorem Over.alloc {B:Nat} {w w':World} (h:Over B w w') (o:Obj):Over B w (w'.alloc o):=by
 have hb:=(Below.refl w'.heap.size w').alloc (Nat.le_refl _) o
 exact⟨Nat.le_trans h.size hb.size,fun k hk hl=>(hb.block k (Nat.lt_of_lt_of_le hl h.size)).trans (h.block k hk hl)⟩
theorem Over.below {B:Nat} {w w1 w2:World} (h:Over B w1 w2) (hb:Below w.heap.size w w1):∀ k,B≤k→k<w.heap.size→w2.heap[k]? = w.heap[k]?:=fun k hk hl=>(h.block k hk (Nat.lt_of_lt_of_le hl hb.size)).trans (hb.block k hl)
set_option maxRecDepth 20000 in
set_option maxHeartbeats 2000000 in
theorem given_no (s kt:ByteArray) (v:ByteArray) (m:Int) (w:World) (hm:ML m w) (hs:s.size≤1048576) (hkt:kt.size≤1048576) (h:kindOf s.data.toList kt.data.toList=none):Calls Tryz.prog 27 #[.string s, .string kt, .string v] w fun e w'=>GivOut s.data.toList kt.data.toList v.data.toList w.heap.size e w'∧Below w.heap.size w w':=by
 have HN:=hid (show valOf s.data.toList kt.data.toList v.data.toList=none by unfold valOf;rw[h])
 have HB:=hid fun w2 (h2:Below w.heap.size w w2)=>(both s kt m w2 (hm.below h2) hs hkt).mono (R':=fun e w'=>(∃ p a b c,e=.returned (.tuple #[.pointer p, .agg #[.string a, .string b, .string c], .bool false]))∧Below w2.heap.size w2 w') fun e w' ⟨h3,h4⟩=>⟨by unfold BothOut at h3;rw[h] at h3;exact h3,h4⟩
 have ST:=hid fun W1 h=>start_given w W1 h
 clear h hm
 go_enter Tryz.func27,Tryz.ntmps27
 go_wp2_with (go_at_call 31;obtain⟨zk,zv,b0⟩:=ST.out _ rfl;refine(HB.out _ b0).mono ?_;rintro e w1 ⟨⟨p,a,b,c,rfl⟩,hb1⟩;have B1:=hid (below_join b0 hb1);obtain⟨kl,kr0,kr1,kr2,kf0,kf1,kf2⟩:=zk.below hb1 zk.lt;obtain⟨zl,zr0,zr1,zr2,zr3,zf0,zf1,zf2,zf3⟩:=zv.below hb1 zv.lt;clear hb1 zk zv b0)
 exact bodyPost_ret (v:=.tuple #[.pointer none, .agg #[.string ⟨#[]⟩, .string ⟨#[]⟩, .string ⟨#[]⟩], .agg #[.int .u8 0, .string ⟨#[]⟩, .int .i64 0, .slice none 0 0], .bool false]) (by simp[results,Tryz.results27,go_sem, *]) rfl ⟨GivOut.no HN.out ⟨_,_,_,_,rfl⟩,by have B:=B1.out;repeat (first|with_reducible exact B|with_reducible refine Below.drew ?_|with_reducible refine Below.setCell ?_ (by simp) _|with_reducible refine Below.alloc ?_ (by first|exact B.size|(simp;omega)) _)⟩
set_option maxRecDepth 20000 in
set_option maxHeartbeats 4000000 in
theorem given_yes (s kt:ByteArray) (v:ByteArray) (m:Int) (w:World) (hm:ML m w) (hs:s.size≤1048576) (hkt:kt.size≤1048576) (hv:v.size≤1048576) (x:Wf.Sc) (k:Wf.K) (h:kindOf s.data.toList kt.data.toList=some (x,k)):Calls Tryz.prog 27 #[.string s, .string kt, .string v] w fun e w'=>GivOut s.data.toList kt.data.toList v.data.toList w.heap.size e w'∧Below w.heap.size w w':=by
 have HB:=hid fun w2 (h2:Below w.heap.size w w2)=>(both s kt m w2 (hm.below h2) hs hkt).mono (R':=fun e w'=>(∃ sb,e=.returned (.tuple #[ptr sb,kV k, .bool true])∧ScL w' w2.heap.size sb x)∧Below w2.heap.size w2 w') fun e w' ⟨h3,h4⟩=>⟨by unfold BothOut at h3;rw[h] at h3;obtain⟨sb,h5,h6⟩:=h3;exact⟨sb,h5,h6⟩,h4⟩
 obtain⟨hx,hk⟩:=kindOf_ok h
 have HRD:=hid fun(w2 w3:World) (sb:Nat) (hsl:ScL w2 (w.heap.size+1+1) sb x) (hb:Below w2.heap.size w2 w3)=>read x hx k hk (w.heap.size+1+1) sb v.data.toList (by rw[size_list];omega) w2 w3 hsl hb
 obtain⟨SG,hSG⟩:∃ SG:ByteArray,(⟨k.signs.toArray⟩:ByteArray)=SG:=⟨_,rfl⟩
 obtain⟨BS,hBS⟩:∃ BS:ByteArray,(⟨k.base.toArray⟩:ByteArray)=BS:=⟨_,rfl⟩
 obtain⟨NM,hNM⟩:∃ NM:ByteArray,(⟨k.name.toArray⟩:ByteArray)=NM:=⟨_,rfl⟩
 have hkv:kV k=.agg #[.string SG, .string BS, .string NM]:=by simp only[kV,tx,hSG,hBS,hNM]
 have hvv:tx v.data.toList=.string v:=rfl
 rw[hkv,hvv] at HRD
 rw[hkv] at HB
 have HKV:=hid hkv
 have ST:=hid fun W1 h=>start_given w W1 h
 cases hvi:Wf.valIn x k v.data.toList with
 | none =>
  have HN:=hid (show valOf s.data.toList kt.data.toList v.data.toList=none by unfold valOf;rw[h];dsimp only;rw[hvi])
  have HO:=hid fun(wz:World) e w' (ho:RvOut x k v.data.toList wz e w')=>(by unfold RvOut at ho;rw[hvi] at ho;exact ho:e=.returned (.tuple #[.agg #[.int .u8 0, .string ⟨#[]⟩, .int .i64 0, .slice none 0 0], .bool false]))
  clear h hm hx hk hSG hBS hNM hkv hvi hvv
  go_enter Tryz.func27,Tryz.ntmps27
  go_wp2_with (first|(go_at_call 48;have hal:=(Below.refl w1.heap.size w1).alloc (Nat.le_refl _) (.cells #[.string SG, .string BS, .string NM] 48);refine(HRD.out _ _ _ SL1.out hal).mono ?_;rintro e w3 ⟨ho,hb3⟩;obtain rfl:=HO.out _ _ _ ho;clear ho;have B3:=hid (below_join hal hb3);obtain⟨kl,kr0,kr1,kr2,kf0,kf1,kf2⟩:=K1.out.below B3.out K1.out.lt;obtain⟨zl,zr0,zr1,zr2,zr3,zf0,zf1,zf2,zf3⟩:=Z1.out.below B3.out Z1.out.lt;have hw1:w1.heap.size<w3.heap.size:=Nat.lt_of_lt_of_le (by simp) hb3.size;have q0:w3.cell? ⟨w1.heap.size,0,none⟩=some (.string SG):=(hb3.cell (p:=⟨w1.heap.size,0,none⟩) (by simp)).trans (by simp[go_sem]);have q1:w3.cell? ⟨w1.heap.size,1,none⟩=some (.string BS):=(hb3.cell (p:=⟨w1.heap.size,1,none⟩) (by simp)).trans (by simp[go_sem]);have q2:w3.cell? ⟨w1.heap.size,2,none⟩=some (.string NM):=(hb3.cell (p:=⟨w1.heap.size,2,none⟩) (by simp)).trans (by simp[go_sem]);clear hb3 hal)|(go_at_call 31;obtain⟨zk,zv,b0⟩:=ST.out _ rfl;refine(HB.out _ b0).mono ?_;rintro e w1 ⟨⟨sb,rfl,hsl⟩,hb1⟩;have B1:=hid (below_join b0 hb1);have K1:=hid (zk.below hb1 zk.lt);have Z1:=hid (zv.below hb1 zv.lt);have SL1:=hid (hsl.mono (Nat.succ_le_of_lt zv.lt));have kl:=K1.out.lt;have zl:=Z1.out.lt;clear hb1 zk zv b0 hsl))
  go_region
  all_goals (go_wp2_with fail)
  all_goals exact bodyPost_ret (v:=.tuple #[ptr sb, .agg #[.string SG, .string BS, .string NM], .agg #[.int .u8 0, .string ⟨#[]⟩, .int .i64 0, .slice none 0 0], .bool false]) (by simp[results,Tryz.results27,go_sem, *]) rfl ⟨GivOut.no HN.out ⟨_,_,_,_,rfl⟩,by have B:=B1.out.trans (B3.out.mono B1.out.size);repeat (first|with_reducible exact B|with_reducible refine Below.drew ?_|with_reducible refine Below.setCell ?_ (by simp) _|with_reducible refine Below.alloc ?_ (by first|exact B.size|(simp;omega)) _)⟩
 | some u =>
  have HN:=hid (show valOf s.data.toList kt.data.toList v.data.toList=some ((x,k),u) by unfold valOf;rw[h];dsimp only;rw[hvi])
  have HO:=hid fun(wz:World) e w' (ho:RvOut x k v.data.toList wz e w')=>(by unfold RvOut at ho;rw[hvi] at ho;exact ho:∃ cs,e=.returned (.tuple #[.agg cs.toArray, .bool true])∧VC w' (fun b=>wz.heap.size≤b) u cs)
  clear h hm hx hk hSG hBS hNM hkv hvi hvv
  go_enter Tryz.func27,Tryz.ntmps27
  go_wp2_with (first|(go_at_call 48;have hal:=(Below.refl w1.heap.size w1).alloc (Nat.le_refl _) (.cells #[.string SG, .string BS, .string NM] 48);refine(HRD.out _ _ _ SL1.out hal).mono ?_;rintro e w3 ⟨ho,hb3⟩;obtain⟨cs,rfl,hvc⟩:=HO.out _ _ _ ho;obtain⟨g0,g1,g2,g3,T2,a2,rfl⟩:=hvc.cells4;have HVC:=hid hvc;have HAL:=hid hal;have HB3':=hid hb3;clear ho hvc;have B3:=hid (below_join hal hb3);obtain⟨kl,kr0,kr1,kr2,kf0,kf1,kf2⟩:=K1.out.below B3.out K1.out.lt;obtain⟨zl,zr0,zr1,zr2,zr3,zf0,zf1,zf2,zf3⟩:=Z1.out.below B3.out Z1.out.lt;have hw1:w1.heap.size<w3.heap.size:=Nat.lt_of_lt_of_le (by simp) hb3.size;have q0:w3.cell? ⟨w1.heap.size,0,none⟩=some (.string SG):=(hb3.cell (p:=⟨w1.heap.size,0,none⟩) (by simp)).trans (by simp[go_sem]);have q1:w3.cell? ⟨w1.heap.size,1,none⟩=some (.string BS):=(hb3.cell (p:=⟨w1.heap.size,1,none⟩) (by simp)).trans (by simp[go_sem]);have q2:w3.cell? ⟨w1.heap.size,2,none⟩=some (.string NM):=(hb3.cell (p:=⟨w1.heap.size,2,none⟩) (by simp)).trans (by simp[go_sem]);clear hb3 hal)|(go_at_call 31;obtain⟨zk,zv,b0⟩:=ST.out _ rfl;refine(HB.out _ b0).mono ?_;rintro e w1 ⟨⟨sb,rfl,hsl⟩,hb1⟩;have B1:=hid (below_join b0 hb1);have K1:=hid (zk.below hb1 zk.lt);have Z1:=hid (zv.below hb1 zv.lt);have SL1:=hid (hsl.mono (Nat.succ_le_of_lt zv.lt));have kl:=K1.out.lt;have zl:=Z1.out.lt;clear hb1 zk zv b0 hsl))
  go_region
  all_goals (go_wp2_with fail)
  all_goals exact bodyPost_ret (v:=.tuple #[ptr sb, .agg #[.string SG, .string BS, .string NM], .agg #[.int .u8 g0, .string T2, .int .i64 g1, .slice a2 g2 g3], .bool true]) (by simp[results,Tryz.results27,go_sem, *]) rfl (by
   have hR:∀ W4,Over (w.heap.size+1+1) w3 W4→Below w.heap.size w W4→(GivOut s.data.toList kt.data.toList v.data.toList w.heap.size (.returned (.tuple #[ptr sb, .agg #[.string SG, .string BS, .string NM], .agg #[.int .u8 g0, .string T2, .int .i64 g1, .slice a2 g2 g3], .bool true])) W4∧Below w.heap.size w W4):=fun W4 ho hb=>by
    refine⟨GivOut.yes HN.out ⟨sb,[.int .u8 g0, .string T2, .int .i64 g1, .slice a2 g2 g3],by rw[HKV.out],(SL1.out.keep (Nat.le_trans B3.out.size ho.size) (ho.below B3.out)).mono (by omega),VC.keep (fun b hp hlt=>⟨?_, ?_⟩) ho.size _ _ HVC.out⟩,hb⟩
    ·have h1:=HAL.out.size
     have h2:=Z1.out.lt
     have h3:(w1.alloc (.cells #[.string SG, .string BS, .string NM] 48)).heap.size≤b:=hp
     omega
    ·have h1:=HAL.out.size
     have h2:=Z1.out.lt
     have h3:(w1.alloc (.cells #[.string SG, .string BS, .string NM] 48)).heap.size≤b:=hp
     exact ho.block b (by omega) hlt
   refine hR _ ?_ ?_
   ·repeat (first|with_reducible exact Over.refl _ _|with_reducible refine Over.drew ?_|with_reducible refine Over.setCell ?_ (by first|(simp;done)|(simp;omega)) _|with_reducible refine Over.alloc ?_ _)
   ·have B:=B1.out.trans (B3.out.mono B1.out.size)
    repeat (first|with_reducible exact B|with_reducible refine Below.drew ?_|with_reducible refine Below.setCell ?_ (by simp) _|with_reducible refine Below.alloc ?_ (by first|exact B.size|(simp;omega)) _))
theorem given (s kt:ByteArray) (v:ByteArray) (m:Int) (w:World) (hm:ML m w) (hs:s.size≤1048576) (hkt:kt.size≤1048576) (hv:v.size≤1048576):Calls Tryz.prog 27 #[.string s, .string kt, .string v] w fun e w'=>GivOut s.data.toList kt.data.toList v.data.toList w.heap.size e w'∧Below w.heap.size w w':=by
 cases h:kindOf s.data.toList kt.data.toList with
 | none=>exact given_no s kt v m w hm hs hkt h
 | some y=>exact given_yes s kt v m w hm hs hkt hv y.1 y.2 h

def vOkB (l kt s:List UInt8):Bool:=(valOf l kt s).isSome
theorem GivOut.form {l kt s:List UInt8} {lo:Nat} {e:Ending} {w':World} (h:GivOut l kt s lo e w'):∃ (p:Option Addr) (a b c:ByteArray) (q g n d:Nat) (T:ByteArray) (sa:Option Addr),e=.returned (.tuple #[.pointer p, .agg #[.string a, .string b, .string c], .agg #[.int .u8 q, .string T, .int .i64 g, .slice sa n d], .bool (vOkB l kt s)]):=by
 unfold GivOut at h
 unfold vOkB
 cases hv:valOf l kt s with
 | none =>
  rw[hv] at h
  obtain⟨p,a,b,c,rfl⟩:=h
  exact⟨p,a,b,c,0,0,0,0,⟨#[]⟩,none,rfl⟩
 | some y =>
  rw[hv] at h
  obtain⟨sb,cs,rfl,_,hvc⟩:=h
  obtain⟨q,g,n,d,T,sa,rfl⟩:=hvc.cells4
  exact⟨_,_,_,_,q,g,n,d,T,sa,rfl⟩
theorem valOf_some {l kt s:List UInt8} {y:(Wf.Sc × Wf.K) × Wf.V} (h:valOf l kt s=some y):kindOf l kt=some y.1∧Wf.valIn y.1.1 y.1.2 s=some y.2:=by
 unfold valOf at h
 cases hk:kindOf l kt with
 | none=>rw[hk] at h;cases h
 | some z =>
  rw[hk] at h
  dsimp only at h
  cases hv:Wf.valIn z.1 z.2 s with
  | none=>rw[hv] at h;cases h
  | some v =>
   rw[hv] at h
   simp only[Option.some.injEq] at h
   subst h
   exact⟨rfl,hv⟩

abbrev ix (g:Nat):Value:=.int .i64 (g:Int)
def MarkedI (w:World) (b o k n i:Nat):Prop:=b<w.heap.size∧∀ j,j<n→∃ s:Int,w.cell? ⟨b,o+j,none⟩=some (.int .i64 s)∧w.frozen? ⟨b,o+j,none⟩=false∧(j<i→s=((k+j:Nat):Int))
theorem MarkedI.step {w:World} {b o k n i:Nat} (h:MarkedI w b o k n i) (hi:i<n):MarkedI (w.setCell ⟨b,o+i,none⟩ (.int .i64 ((k:Int)+i))) b o k n (i+1):=by
 obtain⟨h1,h2⟩:=h
 refine⟨Nat.lt_of_lt_of_le h1 (by simp),fun j hj => ?_⟩
 obtain⟨s,h3,h4,h5⟩:=h2 j hj
 by_cases hji:j=i
 ·subst hji
  exact⟨_,World.cell?_setCell_same w _ _ h3,by simpa using h4,fun _=>by simp⟩
 ·exact⟨s,(World.cell?_setCell_other w _ _ _ (by first|(simp;done)|(simp;omega))).trans h3,by simpa using h4,fun hlt=>h5 (by omega)⟩
end Go.Proofs.YtidjpalnmnehmaaGreatDoor

namespace Go.Proofs.YtidjpalnmnehmaaGreatDoor
open Go.ChangeShapes Go.WideShapes Go.ChangeAt Go.RowKit Go.Lib
set_option linter.unusedVariables false
def tagsOf (what:UInt8) (tag:Nat) (kids:List Wf.V):List Nat:=if what=82 then kids.map Wf.V.tag else if what=85∨what=69 then [tag] else []
def shapeR (what:UInt8) (text:List UInt8) (kd t:List UInt8):Prop :=
 if what=110 then kd.head? = some 110∧t=text
 else if what=116 then kd.head? = some 116∧t=39::(text++[39])
 else if what=102 then kd.head? = some 102∧t=text
 else if what=91 then kd.head? = some 91∧t=[]
 else if what=63 then kd.head? = some 63∧t=[]
 else if what=82 then kd.head? = some 64∧t=[82]
 else if what=85 then kd.head? = some 64∧t=[85]
 else if what=69 then kd.head? = some 64∧t=[69]
 else False
theorem RowAt.lts {w:World} {b:Nat} {v:Value} {xs:List Value} (h:RowAt w b v xs):xs=[]∨b<w.heap.size:=by
 obtain⟨a,cap,h1,h2,h3,h4|⟨o,h5,h6,h7⟩⟩:=h
 ·exact .inl h4
 ·exact .inr h6
mutual
def LV (W:World) (P:Nat→Prop):Wf.V→Nat→Prop
 | .mk what text tag kids,b=>(what=61∧LVs W P kids [b])∨(what≠61∧P b∧b<W.heap.size∧∃ (kd t:List UInt8) (tv kv:Value) (tb kb:Nat) (bs:List Nat),
   W.cell? ⟨b,0,none⟩=some (tx kd)∧W.cell? ⟨b,1,none⟩=some (tx t)∧W.cell? ⟨b,2,none⟩=some tv∧W.cell? ⟨b,3,none⟩=some kv ∧
   RowAt W tb tv ((tagsOf what tag kids).map ix)∧(tagsOf what tag kids=[]∨P tb)∧RowAt W kb kv (bs.map ptr)∧(bs=[]∨P kb)∧shapeR what text kd t∧LVs W P kids bs)
def LVs (W:World) (P:Nat→Prop):List Wf.V→List Nat→Prop
 | [],bs=>bs=[]
 | v::l,bs=>∃ b bs',bs=b::bs'∧LV W P v b∧LVs W P l bs'
end
section
variable {W W':World} {P Q:Nat→Prop}
mutual
theorem LV.keep (hk:∀ b,P b→b<W.heap.size→Q b∧W'.heap[b]? = W.heap[b]?) (hs:W.heap.size≤W'.heap.size):∀ (v:Wf.V) (b:Nat),LV W P v b→LV W' Q v b
 | .mk what text tag kids,b,h=>by
  simp only[LV] at h ⊢
  rcases h with⟨h1,h2⟩|⟨h1,h2,h3,kd,t,tv,kv,tb,kb,bs,c0,c1,c2,c3,r1,r2,r3,r4,h4,h5⟩
  ·exact .inl ⟨h1,LVs.keep hk hs kids [b] h2⟩
  ·right
   have cc:=fun o=>World.cell?_of_block (w:=W) (w':=W') (a:=⟨b,o,none⟩) (hk b h2 h3).2
   refine⟨h1,(hk b h2 h3).1,Nat.lt_of_lt_of_le h3 hs,kd,t,tv,kv,tb,kb,bs,(cc 0).trans c0,(cc 1).trans c1,(cc 2).trans c2,(cc 3).trans c3, ?_, ?_, ?_, ?_,h4,LVs.keep hk hs kids bs h5⟩
   ·rcases r2 with r2|r2
    ·rw[r2] at r1 ⊢
     obtain⟨a,c,e1,e2,e3,_⟩:=r1
     exact⟨a,c,e1,e2,e3, .inl rfl⟩
    ·exact r1.keep hs fun hx=>(hk tb r2 hx).2
   ·rcases r2 with r2|r2
    ·exact .inl r2
    ·rcases r1.lts with h0|h0
     ·exact .inl (List.map_eq_nil_iff.1 h0)
     ·exact .inr (hk tb r2 h0).1
   ·rcases r4 with r4|r4
    ·rw[r4] at r3 ⊢
     obtain⟨a,c,e1,e2,e3,_⟩:=r3
     exact⟨a,c,e1,e2,e3, .inl rfl⟩
    ·exact r3.keep hs fun hx=>(hk kb r4 hx).2
   ·rcases r4 with r4|r4
    ·exact .inl r4
    ·rcases r3.lts with h0|h0
     ·exact .inl (List.map_eq_nil_iff.1 h0)
     ·exact .inr (hk kb r4 h0).1
theorem LVs.keep (hk:∀ b,P b→b<W.heap.size→Q b∧W'.heap[b]? = W.heap[b]?) (hs:W.heap.size≤W'.heap.size):∀ (l:List Wf.V) (bs:List Nat),LVs W P l bs→LVs W' Q l bs
 | [],_,h=>by simp only[LVs] at h ⊢;exact h
 | v::l,bs,h=>by
  simp only[LVs] at h ⊢
  obtain⟨b,bs',h1,h2,h3⟩:=h
  exact⟨b,bs',h1,LV.keep hk hs v b h2,LVs.keep hk hs l bs' h3⟩
end
theorem LV.mono {v:Wf.V} {b:Nat} (h:LV W P v b) (hk:∀ b,P b→b<W.heap.size→Q b):LV W Q v b:=LV.keep (fun b h1 h2=>⟨hk b h1 h2,rfl⟩) (Nat.le_refl _) v b h
theorem LV.below {v:Wf.V} {b:Nat} (h:LV W P v b) (hb:Below W.heap.size W W'):LV W' P v b:=LV.keep (fun b h1 h2=>⟨h1,hb.block b h2⟩) hb.size v b h
theorem LVs.len:∀ {l:List Wf.V} {bs:List Nat},LVs W P l bs→bs.length=l.length:=by
 intro l
 induction l with
 | nil=>intro bs h;simp only[LVs] at h;rw[h];rfl
 | cons v l ih =>
  intro bs h
  simp only[LVs] at h
  obtain⟨b,bs',rfl,_,h⟩:=h
  simp[ih h]
theorem LVs.get:∀ {l:List Wf.V} {bs:List Nat},LVs W P l bs→∀ i (h1:i<l.length) (h2:i<bs.length),LV W P l[i] bs[i]:=by
 intro l
 induction l with
 | nil=>intro bs _ i h1;simp at h1
 | cons v l ih =>
  intro bs h i h1 h2
  simp only[LVs] at h
  obtain⟨b,bs',rfl,h3,h4⟩:=h
  cases i with
  | zero=>exact h3
  | succ i=>exact ih h4 i (by simpa using h1) (by simpa using h2)
theorem LVs.of:∀ {l:List Wf.V} {bs:List Nat},bs.length=l.length→(∀ i (h1:i<l.length) (h2:i<bs.length),LV W P l[i] bs[i])→LVs W P l bs:=by
 intro l
 induction l with
 | nil=>intro bs hl _;simp only[LVs];exact List.eq_nil_of_length_eq_zero (by simpa using hl)
 | cons v l ih =>
  intro bs hl h
  cases bs with
  | nil=>simp at hl
  | cons b bs =>
   simp only[LVs]
   exact⟨b,bs,rfl,h 0 (by simp) (by simp),ih (by simpa using hl) fun i h1 h2=>h (i+1) (by simpa using h1) (by simpa using h2)⟩
theorem LV.form {v:Wf.V} {b:Nat} (h:LV W P v b) (hw:v.what≠61):P b∧b<W.heap.size∧∃ (kd t:List UInt8) (tv kv:Value) (tb kb:Nat) (bs:List Nat),
   W.cell? ⟨b,0,none⟩=some (tx kd)∧W.cell? ⟨b,1,none⟩=some (tx t)∧W.cell? ⟨b,2,none⟩=some tv∧W.cell? ⟨b,3,none⟩=some kv ∧
   RowAt W tb tv ((tagsOf v.what v.tag v.kids).map ix)∧RowAt W kb kv (bs.map ptr)∧shapeR v.what v.text kd t∧LVs W P v.kids bs:=by
 cases v with
 | mk what text tag kids =>
  simp only[LV] at h
  rcases h with⟨h1,_⟩|⟨h1,h2,h3,kd,t,tv,kv,tb,kb,bs,c0,c1,c2,c3,r1,r2,r3,r4,h4,h5⟩
  ·exact absurd h1 hw
  ·exact⟨h2,h3,kd,t,tv,kv,tb,kb,bs,c0,c1,c2,c3,r1,r3,h4,h5⟩
theorem LV.field {text:List UInt8} {tag:Nat} {u:Wf.V} {b:Nat}:LV W P (.mk 61 text tag [u]) b↔LV W P u b:=by
 simp only[LV,LVs]
 constructor
 ·rintro(⟨_,b',bs',h1,h2,h3⟩|⟨h,_⟩)
  ·simp only[List.cons.injEq] at h1
   rw[h1.1];exact h2
  ·exact absurd rfl h
 ·intro h
  exact .inl ⟨trivial,b,[],rfl,h,rfl⟩
theorem LV.mk {what:UInt8} {text kd t:List UInt8} {tag b tb kb:Nat} {tv kv:Value} {kids:List Wf.V} {bs:List Nat} (hw:what≠61) (hp:P b) (hb:b<W.heap.size)
  (c0:W.cell? ⟨b,0,none⟩=some (tx kd)) (c1:W.cell? ⟨b,1,none⟩=some (tx t)) (c2:W.cell? ⟨b,2,none⟩=some tv) (c3:W.cell? ⟨b,3,none⟩=some kv)
  (r1:RowAt W tb tv ((tagsOf what tag kids).map ix)) (r2:tagsOf what tag kids=[]∨P tb) (r3:RowAt W kb kv (bs.map ptr)) (r4:bs=[]∨P kb) (hs:shapeR what text kd t) (hk:LVs W P kids bs):LV W P (.mk what text tag kids) b:=by
 simp only[LV]
 exact .inr ⟨hw,hp,hb,kd,t,tv,kv,tb,kb,bs,c0,c1,c2,c3,r1,r2,r3,r4,hs,hk⟩
end
end Go.Proofs.YtidjpalnmnehmaaGreatDoor

namespace Go.Proofs.YtidjpalnmnehmaaGreatDoor
open Go.ChangeShapes Go.WideShapes Go.ChangeAt Go.RowKit Go.Lib
set_option linter.unusedVariables false
set_option linter.unusedSimpArgs false
theorem count_parts (ps:List (List UInt8)):ps.length≤(Wf.commas ps).length+1:=by
 cases ps with
 | nil=>simp
 | cons a l=>have:=Wf.commas_length (a::l) (by simp);omega
theorem kd_first {kd:List UInt8} {c:UInt8} (h:kd.head? = some c):0<(⟨kd.toArray⟩:ByteArray).size∧∀ h,((⟨kd.toArray⟩:ByteArray)[0]'h).toNat=c.toNat:=by
 cases kd with
 | nil=>simp at h
 | cons a r =>
  simp at h
  subst h
  exact⟨by simp[ByteArray.size],fun _=>rfl⟩
theorem RowAt.get {w:World} {b:Nat} {a:Option Addr} {n c:Nat} {xs:List Value} (h:RowAt w b (.slice a n c) xs) {i:Nat} (hi:i<xs.length):∃ o,a=Option.some ⟨b,o,none⟩∧b<w.heap.size∧n≤c∧c≤maxLen∧w.cell? ⟨b,o+i,none⟩=Option.some xs[i]:=by
 obtain⟨a',c',h1,h2,h3,h4⟩:=h
 simp only[Value.slice.injEq] at h1
 obtain⟨rfl,rfl,rfl⟩:=h1
 rcases h4 with h4|⟨o,g1,g2,g3⟩
 ·rw[h4] at hi;simp at hi
 ·exact⟨o,g1,g2,h2,h3,(g3 i hi).1⟩
theorem RowAt.form {w:World} {b:Nat} {v:Value} {xs:List Value} (h:RowAt w b v xs):∃ a c,v=.slice a xs.length c∧xs.length≤c∧c≤maxLen:=by
 obtain⟨a,c,h1,h2,h3,_⟩:=h
 exact⟨a,c,h1,h2,h3⟩
set_option maxRecDepth 20000 in
set_option maxHeartbeats 2000000 in
theorem out_leaf (b q:Nat) (KD T:ByteArray) (w:World) (hlt:b<w.heap.size) (hs:0<KD.size) (e0:∀ h,(KD[0]'h).toNat=q) (hq:q=110∨q=116∨q=102) (c0:w.cell? ⟨b,0,none⟩=some (.string KD)) (c1:w.cell? ⟨b,1,none⟩=some (.string T)) :
  Calls Tryz.prog 66 #[ptr b] w fun e w'=>e=.returned (.string T)∧w=w':=by
 rcases hq with rfl|rfl|rfl
 all_goals
  go_enter Tryz.func66,Tryz.ntmps66
  go_wp2_with fail
  go_ret
  exact⟨rfl,rfl⟩
set_option maxRecDepth 20000 in
set_option maxHeartbeats 2000000 in
theorem out_none (b c:Nat) (KD:ByteArray) (a:Option Addr) (w:World) (hlt:b<w.heap.size) (hs:0<KD.size) (e0:∀ h,(KD[0]'h).toNat=63) (c0:w.cell? ⟨b,0,none⟩=some (.string KD)) (c3:w.cell? ⟨b,3,none⟩=some (.slice a 0 c)) :
  Calls Tryz.prog 66 #[ptr b] w fun e w'=>e=.returned (tx [45])∧w=w':=by
 go_enter Tryz.func66,Tryz.ntmps66
 go_wp2_with fail
 go_ret
 exact⟨rfl,rfl⟩
set_option maxRecDepth 20000 in
set_option maxHeartbeats 2000000 in
theorem out_some (b kb o u c:Nat) (KD T:ByteArray) (w:World) (hlt:b<w.heap.size) (hs:0<KD.size) (e0:∀ h,(KD[0]'h).toNat=63) (c0:w.cell? ⟨b,0,none⟩=some (.string KD)) (c3:w.cell? ⟨b,3,none⟩=some (.slice (some ⟨kb,o,none⟩) 1 c)) (hkb:kb<w.heap.size) (ck:w.cell? ⟨kb,o,none⟩=some (ptr u)) (h1:1≤c) (hc:c≤maxLen) (hT:T.size≤2000000)
  (hk:∀ wz,Below w.heap.size w wz→Calls Tryz.prog 66 #[ptr u] wz fun e w'=>e=.returned (.string T)∧Below wz.heap.size wz w') :
  Calls Tryz.prog 66 #[ptr b] w fun e w'=>e=.returned (tx (43::T.data.toList))∧Below w.heap.size w w':=by
 have HK:=hid hk
 have HO:=hid (show(⟨#[43]⟩:ByteArray)++T=⟨(43::T.data.toList).toArray⟩ by rw[eq_list];simp)
 unfold maxLen at hc
 clear hk
 go_enter Tryz.func66,Tryz.ntmps66
 go_wp2_with (go_at_call 66;refine(HK.out _ (Below.refl _ _)).mono ?_;rintro e w2 ⟨rfl,hb2⟩;have HB2:=hid hb2;clear hb2)
 go_ret
 exact⟨ret_str HO.out,HB2.out⟩
set_option maxRecDepth 20000 in
set_option maxHeartbeats 2000000 in
theorem out_list (b kb:Nat) (KD:ByteArray) (kv:Value) (bs:List Nat) (ps:List (List UInt8)) (w:World) (hlt:b<w.heap.size) (hs:0<KD.size) (e0:∀ h,(KD[0]'h).toNat=91) (c0:w.cell? ⟨b,0,none⟩=some (.string KD)) (c3:w.cell? ⟨b,3,none⟩=some kv) (hrow:RowAt w kb kv (bs.map ptr)) (hl:bs.length=ps.length) (hsz:(Wf.commas ps).length≤2000000)
  (hk:∀ i (h1:i<bs.length) (h2:i<ps.length) wz,Below w.heap.size w wz→Calls Tryz.prog 66 #[ptr bs[i]] wz fun e w'=>e=.returned (tx ps[i])∧Below wz.heap.size wz w') :
  Calls Tryz.prog 66 #[ptr b] w fun e w'=>e=.returned (tx (91::(Wf.commas ps++[93])))∧Below w.heap.size w w':=by
 obtain⟨a,c,rfl,hnc,hcm⟩:=hrow.form
 obtain⟨m,hm⟩:∃ m,(bs.map ptr).length=m:=⟨_,rfl⟩
 have hbm:bs.length=m:=by rw[← hm,List.length_map]
 have hpm:ps.length=m:=by omega
 have hm6:m≤2000001:=by have:=count_parts ps;omega
 have HBM:=hid hbm
 have HPM:=hid hpm
 have HMM:=hid hm
 rw[hm] at c3 hrow hnc
 have HROW:=hid hrow
 have HK:=hid hk
 have HSZ:=hid hsz
 unfold maxLen at hcm
 clear hrow hk hl hsz hm hbm hpm
 go_enter Tryz.func66,Tryz.ntmps66
 go_wp2_with fail
 go_loopw [3,4] (fun s3 s4 wr=>∃ (i:Nat) (S:ByteArray),s3=.string S∧s4=.int .i64 i∧i≤m∧S.size≤2000001∧Hid (S.data.toList=91::Wf.commas (ps.take i)∧Below w.heap.size w wr)) (fun _ s4 _=>m-(RowKit.intOf s4).toNat)
 case atStart=>exact⟨0,⟨#[91]⟩,rfl,rfl,Nat.zero_le _,by decide,hid ⟨rfl,Below.refl _ _⟩⟩
 case round =>
  obtain⟨i,S,rfl,rfl,hi,hS,hh⟩:=hrel
  have hbw:b<wr.heap.size:=Nat.lt_of_lt_of_le hlt hh.out.2.size
  have y3:=(hh.out.2.cell (p:=⟨b,3,none⟩) hlt).trans c3
  by_cases hlt2:i<m
  ·have hib:i<bs.length:=by rw[HBM.out];exact hlt2
   have hip:i<ps.length:=by rw[HPM.out];exact hlt2
   obtain⟨o,rfl,hkb,_,_,ck⟩:=HROW.out.get (i:=i) (by rw[HMM.out];exact hlt2)
   rw[List.getElem_map] at ck
   obtain⟨u,hu⟩:∃ u,bs[i]=u:=⟨_,rfl⟩
   obtain⟨T,hT⟩:∃ T:ByteArray,(⟨(ps[i]).toArray⟩:ByteArray)=T:=⟨_,rfl⟩
   rw[hu] at ck
   have hkw:kb<wr.heap.size:=Nat.lt_of_lt_of_le hkb hh.out.2.size
   have yk:=(hh.out.2.cell (p:=⟨kb,o+i,none⟩) hkb).trans ck
   have HC:=hid (show Calls Tryz.prog 66 #[ptr u] wr fun e w'=>e=.returned (.string T)∧Below wr.heap.size wr w' by
    have:=HK.out i hib hip wr hh.out.2
    rw[hu] at this
    simp only[tx,hT] at this
    exact this)
   have HSTEP:=hid (Wf.commas_step hip)
   have hTs:T.size≤2000000:=by
    have h1:=Wf.commas_mem (List.getElem_mem hip)
    rw[← hT,← size_list]
    show(ps[i]).length≤_
    exact Nat.le_trans h1 HSZ.out
   have HTL:=hid (show T.data.toList=ps[i] by rw[← hT])
   have HTK:=hid (show(Wf.commas (ps.take (i+1))).length≤2000000 from Nat.le_trans (Wf.commas_take _) HSZ.out)
   have fin:∀ S':ByteArray,S'.data.toList=91::Wf.commas (ps.take (i+1))→S'.size≤2000001:=fun S' h=>by
    have:=HTK.out
    rw[← size_list,h]
    simp only[List.length_cons]
    omega
   have FIN:=hid fin
   clear hu hT ck fin
   by_cases hi0:i=0
   ·subst hi0
    rw[Nat.add_zero] at yk
    have HE:=hid (show(S++T).data.toList=91::Wf.commas (ps.take (0+1)) by
     rw[HSTEP.out,if_pos rfl,ByteArray.data_append,Array.toList_append,hh.out.1,HTL.out];rfl)
    go_wp2_with (go_at_call 66;refine HC.out.mono ?_;rintro e w2 ⟨rfl,hb2⟩;have HB2:=hid hb2;clear hb2)
    go_roundw
    case rel=>exact⟨0+1,S++T,by rfl,by go_num,by omega,FIN.out _ HE.out,hid ⟨HE.out,hh.out.2.trans (HB2.out.mono hh.out.2.size)⟩⟩
    case measure=>simp[RowKit.intOf];omega
   ·have hip0:0<i:=by omega
    have HE:=hid (show(S++⟨#[44]⟩++T).data.toList=91::Wf.commas (ps.take (i+1)) by
     rw[HSTEP.out,if_neg hi0,ByteArray.data_append,ByteArray.data_append,Array.toList_append,Array.toList_append,hh.out.1,HTL.out];simp)
    clear hi0
    go_wp2_with (go_at_call 66;refine HC.out.mono ?_;rintro e w2 ⟨rfl,hb2⟩;have HB2:=hid hb2;clear hb2)
    go_roundw
    case rel=>exact⟨i+1,S++⟨#[44]⟩++T,by rfl,by go_num,by omega,FIN.out _ HE.out,hid ⟨HE.out,hh.out.2.trans (HB2.out.mono hh.out.2.size)⟩⟩
    case measure=>simp[RowKit.intOf];omega
  ·have him:i=m:=by omega
   subst him
   have HE:=hid (show S++(⟨#[93]⟩:ByteArray)=⟨(91::(Wf.commas ps++[93])).toArray⟩ by
    rw[eq_list,ByteArray.data_append,Array.toList_append,hh.out.1,List.take_of_length_le (by rw[HPM.out];exact Nat.le_refl _)];simp)
   go_wp2_with fail
   go_ret
   exact⟨ret_str HE.out,hh.out.2⟩
end Go.Proofs.YtidjpalnmnehmaaGreatDoor
