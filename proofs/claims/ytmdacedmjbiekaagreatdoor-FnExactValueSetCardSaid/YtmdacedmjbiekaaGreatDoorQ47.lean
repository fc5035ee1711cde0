/- Packed by pack.py: Wd Xw We Xs Wj Xt Du Dv Dw. -/
import Derived.Test.YtmdacedmjbiekaaGreatDoorQ46
import Derived.Test.YtmdacedmjbiekaaGreatDoorQ32
import Derived.Test.YtmdacedmjbiekaaGreatDoorQ34
import Derived.Test.YtmdacedmjbiekaaGreatDoorQ31
import Derived.Test.YtmdacedmjbiekaaGreatDoorQ37
import Derived.Test.YtmdacedmjbiekaaGreatDoorQ27
import Derived.Test.YtmdacedmjbiekaaGreatDoorQ39
namespace Go.Proofs.YtmdacedmjbiekaaGreatDoor
open Go.ChangeShapes Go.WideShapes Go.ChangeAt Go.RowKit Go.Lib
set_option linter.unusedVariables false
set_option linter.unusedSimpArgs false
def RfdNo (e:Ending):Prop:=e=.returned (.tuple #[.pointer none, .agg #[.int .u8 0, .string ⟨#[]⟩, .int .i64 0, .slice none 0 0], .bool false])
def RfdOut (l kt s:List UInt8) (g:Int) (lo:Nat) (e:Ending) (w':World):Prop:=match valOf l kt s with
 | some y=>(match Wf.recFd y.1.1 y.1.2 g with
  | some f=>∃ fb o cs,e=.returned (.tuple #[.pointer (some ⟨fb,o,none⟩), .agg cs.toArray, .bool true])∧FdAt w' fb o 82 f∧VC w' (fun b=>lo≤b) y.2 cs
  | none=>RfdNo e)
 | none=>RfdNo e
theorem TyL.rowLo {w:World} {lo b:Nat} {t:Wf.Ty} (h:TyL w lo b t):∃ fb a c,lo≤fb∧b<w.heap.size∧w.cell? ⟨b,2,none⟩=some (.slice a t.fields.length c)∧t.fields.length≤c∧c≤maxLen∧∀ i (hi:i<t.fields.length),∃ o,a=some ⟨fb,o,none⟩∧FdAt w fb (o+i * 6) t.sort t.fields[i]:=by
 obtain⟨fb,a,c,line,_,hlo,hb,_,_,c2,_,hr⟩:=h
 have hl:t.fields.length≤c∧c≤maxLen:=by
  obtain⟨a',cap',e1,e2,e3,_⟩:=hr
  simp only[Value.slice.injEq] at e1
  rw[List.length_map] at e2
  omega
 refine⟨fb,a,c,hlo,hb,c2,hl.1,hl.2,fun i hi => ?_⟩
 obtain⟨o,ha,hfb,_,_,hcell⟩:=hr.get (i:=i) (by rw[List.length_map];exact hi)
 have e0:(t.fields.map (fdC t.sort))[i]'(by rw[List.length_map];exact hi)=fdC t.sort t.fields[i]:=by rw[List.getElem_map]
 rw[e0] at hcell
 refine⟨o,ha,hfb,fun j u hu=>hcell j u ?_ hu⟩
 have:=(List.getElem?_eq_some_iff.1 hu).1
 rw[fdC_len] at this
 exact this
def FieldLo (W:World) (t:Wf.Ty) (g:Int) (lo:Nat) (e:Ending):Prop:=match fieldI t g with
 | some f=>∃ fb o,e=.returned (.pointer (some ⟨fb,o,none⟩))∧FdAt W fb o t.sort f∧lo≤fb
 | none=>e=.returned (.pointer none)
set_option maxRecDepth 20000 in
set_option maxHeartbeats 1000000 in
theorem fieldLo (t:Wf.Ty) (ht:t.fields.length≤1000) (g:Int) (lo tb:Nat) (W w:World) (hW:Below W.heap.size W w) (hT:TyL W lo tb t):Calls Tryz.prog 46 #[ptr tb, .int .i64 g] w fun e w'=>FieldLo W t g lo e∧w=w':=by
 obtain⟨fb,a,c,hlo,hb,c2,hnc,hcm,hrow⟩:=hT.rowLo
 have HROW:=hid hrow
 obtain⟨n,hn⟩:∃ n,t.fields.length=n:=⟨_,rfl⟩
 have HN:=hid hn
 rw[hn] at ht c2 hnc
 have y2:=(hW.cell (p:=⟨tb,2,none⟩) hb).trans c2
 have HW:=hid hW
 clear hrow hn c2 hT
 go_enter Tryz.func46,Tryz.ntmps46
 go_wp2_with fail
 go_loop [11] (fun v=>∃ k:Nat,k≤n∧v=.int .i64 k∧Hid (∀ j (hj:j<t.fields.length),j<k→((t.fields[j]).tag:Int)≠g)) (fun v=>n-(RowKit.intOf v).toNat)
 case atStart=>exact⟨0,Nat.zero_le _,rfl,hid fun j hj h=>by omega⟩
 case round =>
  obtain⟨k,hk,rfl,hno⟩:=hrel
  by_cases hlt:k<n
  ·have hkx:k<t.fields.length:=by rw[HN.out];exact hlt
   obtain⟨o,rfl,hfd⟩:=HROW.out k hkx
   have HFD:=hid hfd
   have e0:(fdC t.sort t.fields[k])[0]? = some (.int .i64 (t.fields[k]).tag):=by
    obtain⟨_,_,_,_,h⟩:=fdC_form t.sort t.fields[k]
    rw[h];rfl
   have z0:w.cell? ⟨fb,o+k * 6,none⟩=some (.int .i64 (t.fields[k]).tag):=(HW.out.cell (p:=⟨fb,o+k * 6,none⟩) hfd.1).trans (hfd.2 0 _ e0)
   obtain⟨G,hG⟩:∃ G,(t.fields[k]).tag=G:=⟨_,rfl⟩
   rw[hG] at z0
   have HG:=hid hG
   clear hfd e0 hG
   cases hq:((G:Int)==g) with
   | true =>
    have HF:=hid (show fieldI t g=some t.fields[k] from fieldI_at hkx hno.out (by rw[HG.out];simpa using hq))
    have hge:(G:Int)=g:=by simpa using hq
    subst hge
    clear hq
    go_wp2_with fail
    go_ret
    exact⟨by unfold FieldLo;rw[HF.out];exact⟨fb,o+k * 6,rfl,HFD.out,hlo⟩,rfl⟩
   | false =>
    have hne:Hid ((G:Int)≠g):=hid (by simpa using hq)
    go_wp2_with fail
    go_round
    case rel=>exact⟨k+1,by omega,by go_num,hid fun j hj hjk=>by
     by_cases hj2:j=k
     ·subst hj2;rw[HG.out];exact hne.out
     ·exact hno.out j hj (by omega)⟩
    case measure=>simp[RowKit.intOf];omega
  ·have hkn:k=n:=by omega
   subst hkn
   have HF:=hid (show fieldI t g=none from fieldI_not fun j hj=>hno.out j hj (by rw[← HN.out];exact hj))
   go_wp2_with fail
   go_ret
   exact⟨by unfold FieldLo;rw[HF.out];rfl,rfl⟩
theorem FdAt.over {w w':World} {fb o lo:Nat} {q:UInt8} {f:Wf.Fd} (h:FdAt w fb o q f) (hlo:lo≤fb) (hb:Over lo w w'):FdAt w' fb o q f :=
 ⟨Nat.lt_of_lt_of_le h.1 hb.size,fun j u hu=>(World.cell?_of_block (w:=w) (w':=w') (a:=⟨fb,o+j,none⟩) (hb.block fb hlo h.1)).trans (h.2 j u hu)⟩
theorem value_new (w:World) (q n c:Nat) (g:Int) (T:ByteArray) (a:Option Addr):(w.alloc (.cells #[.int .u8 q, .string T, .int .i64 g, .slice a n c] 92)).cell? ⟨w.heap.size,0,none⟩=some (.int .u8 q)∧(w.alloc (.cells #[.int .u8 q, .string T, .int .i64 g, .slice a n c] 92)).cell? ⟨w.heap.size,1,none⟩=some (.string T)∧(w.alloc (.cells #[.int .u8 q, .string T, .int .i64 g, .slice a n c] 92)).cell? ⟨w.heap.size,2,none⟩=some (.int .i64 g)∧(w.alloc (.cells #[.int .u8 q, .string T, .int .i64 g, .slice a n c] 92)).cell? ⟨w.heap.size,3,none⟩=some (.slice a n c):=by
 refine⟨?_, ?_, ?_, ?_⟩ <;> simp[go_sem]
set_option maxRecDepth 20000 in
set_option maxHeartbeats 4000000 in
theorem recordField (s kt v:ByteArray) (g:Int) (m:Int) (w:World) (hm:ML m w) (hs:s.size≤1048576) (hkt:kt.size≤1048576) (hv:v.size≤1048576):Calls Tryz.prog 60 #[.string s, .string kt, .string v, .int .i64 g] w fun e w'=>RfdOut s.data.toList kt.data.toList v.data.toList g w.heap.size e w'∧Below w.heap.size w w':=by
 have W0:=(Below.refl w.heap.size w).alloc (Nat.le_refl _) (.cells #[.int .u8 0, .string ⟨#[]⟩, .int .i64 0, .slice none 0 0] 92)
 have HG:=hid (given s kt v m _ (hm.below W0) hs hkt hv)
 clear hm W0
 cases hvo:valOf s.data.toList kt.data.toList v.data.toList with
 | none =>
  have HO:=hid fun lo e w' (h:GivOut s.data.toList kt.data.toList v.data.toList lo e w')=>(by unfold GivOut at h;rw[hvo] at h;exact h:∃ p a b c,e=.returned (.tuple #[.pointer p, .agg #[.string a, .string b, .string c], .agg #[.int .u8 0, .string ⟨#[]⟩, .int .i64 0, .slice none 0 0], .bool false]))
  have HD:=hid fun(e:Ending) (w':World) (h:RfdNo e)=>(show RfdOut s.data.toList kt.data.toList v.data.toList g w.heap.size e w' by unfold RfdOut;rw[hvo];exact h)
  clear hvo
  go_enter Tryz.func60,Tryz.ntmps60
  go_wp2_with (go_at_call 52;refine HG.out.mono ?_;rintro e w2 ⟨ho,hb2⟩;obtain⟨p,a,b,c,rfl⟩:=HO.out _ _ _ ho;have Z2:=hid ((zero_new w).below hb2 (by simp));have HB2:=hid (below_join ((Below.refl w.heap.size w).alloc (Nat.le_refl _) _) hb2);obtain⟨zl,zr0,zr1,zr2,zr3,zf0,zf1,zf2,zf3⟩:=Z2.out;clear ho hb2)
  all_goals exact bodyPost_ret (v:=.tuple #[.pointer none, .agg #[.int .u8 0, .string ⟨#[]⟩, .int .i64 0, .slice none 0 0], .bool false]) (by simp[results,Tryz.results60,go_sem, *]) rfl ⟨HD.out _ _ rfl,by have B:=HB2.out;have hB:=B.size;repeat (first|with_reducible exact B|with_reducible refine Below.drew ?_|with_reducible refine Below.setCell ?_ (by first|(simp;done)|(simp;omega)) _|with_reducible refine Below.alloc ?_ (by first|exact B.size|(simp;omega)) _)⟩
 | some y =>
  obtain⟨⟨x,k⟩,u⟩:=y
  obtain⟨hko,hvi⟩:=valOf_some hvo
  obtain⟨hx,hk⟩:=kindOf_ok hko
  obtain⟨SG,hSG⟩:∃ SG:ByteArray,(⟨k.signs.toArray⟩:ByteArray)=SG:=⟨_,rfl⟩
  obtain⟨BS,hBS⟩:∃ BS:ByteArray,(⟨k.base.toArray⟩:ByteArray)=BS:=⟨_,rfl⟩
  obtain⟨NM,hNM⟩:∃ NM:ByteArray,(⟨k.name.toArray⟩:ByteArray)=NM:=⟨_,rfl⟩
  have hkv:kV k=.agg #[.string SG, .string BS, .string NM]:=by simp only[kV,tx,hSG,hBS,hNM]
  have HO:=hid fun lo e w' (h:GivOut s.data.toList kt.data.toList v.data.toList lo e w')=>(by unfold GivOut at h;rw[hvo] at h;dsimp only at h;rw[hkv] at h;exact h:∃ sb cs,e=.returned (.tuple #[ptr sb, .agg #[.string SG, .string BS, .string NM], .agg cs.toArray, .bool true])∧ScL w' lo sb x∧VC w' (fun b=>lo≤b) u cs)
  cases hrt:Wf.recTy x k with
  | none =>
   have HD:=hid fun(e:Ending) (w':World) (h:RfdNo e)=>(show RfdOut s.data.toList kt.data.toList v.data.toList g w.heap.size e w' by unfold RfdOut;rw[hvo];dsimp only;rw[show Wf.recFd x k g=none by unfold Wf.recFd;rw[hrt];rfl];exact h)
   have HR:=hid fun(lo sb:Nat) (W wz:World) (hsc:ScL W lo sb x) (hz:Below W.heap.size W wz)=>(by
    have h:=record x hx lo sb k hk W wz hsc hz
    rw[hrt,hkv] at h
    exact h:Calls Tryz.prog 89 #[ptr sb, .agg #[.string SG, .string BS, .string NM]] wz fun e w'=>(∃ p,e=.returned (.tuple #[.pointer p, .bool false]))∧Below wz.heap.size wz w')
   clear hvo hko hvi hSG hBS hNM hkv hrt
   go_enter Tryz.func60,Tryz.ntmps60
   go_wp2_with (first|(go_at_call 89;refine(HR.out _ _ _ _ HSC.out (by first|exact((Below.refl _ _).alloc (Nat.le_refl _) _).alloc (by simp) _)).mono ?_;rintro e w3 ⟨⟨p,rfl⟩,hb3⟩;have HB3:=hid (below_join ((HB2.out.alloc HB2.out.size _).alloc (by have:=HB2.out.size;simp;omega) _) hb3);obtain⟨zl,zr0,zr1,zr2,zr3,zf0,zf1,zf2,zf3⟩:=(Z2.out.below (((Below.refl w2.heap.size w2).alloc (Nat.le_refl _) _).alloc (by simp) _) Z2.out.lt).below hb3 (by have:=Z2.out.lt;simp;omega);clear hb3)|(go_at_call 52;refine HG.out.mono ?_;rintro e w2 ⟨ho,hb2⟩;obtain⟨sb,cs,rfl,hsc,hvc⟩:=HO.out _ _ _ ho;obtain⟨q,gg,n,d,T,sa,rfl⟩:=hvc.cells4;have HSC:=hid hsc;have Z2:=hid ((zero_new w).below hb2 (by simp));have HB2:=hid (below_join ((Below.refl w.heap.size w).alloc (Nat.le_refl _) _) hb2);clear ho hb2 hsc hvc))
   all_goals exact bodyPost_ret (v:=.tuple #[.pointer none, .agg #[.int .u8 0, .string ⟨#[]⟩, .int .i64 0, .slice none 0 0], .bool false]) (by simp[results,Tryz.results60,go_sem, *]) rfl ⟨HD.out _ _ rfl,by have B:=HB3.out;have hB:=B.size;repeat (first|with_reducible exact B|with_reducible refine Below.drew ?_|with_reducible refine Below.setCell ?_ (by first|(simp;done)|(simp;omega)) _|with_reducible refine Below.alloc ?_ (by first|exact B.size|(simp;omega)) _)⟩
  | some t =>
   obtain⟨nm,rfl,hft,h82⟩:=Wf.recTy_some hrt
   have htl:t.fields.length≤1000:=by have:=(hx.tys t (Wf.find_mem hft).1).len;omega
   have hrd:Wf.recFd x (.ref nm) g=fieldI t g:=by unfold Wf.recFd;rw[hrt];rfl
   have HR:=hid fun(lo sb:Nat) (W wz:World) (hsc:ScL W lo sb x) (hz:Below W.heap.size W wz)=>(by
    have h:=record x hx lo sb (.ref nm) hk W wz hsc hz
    rw[hrt,hkv] at h
    exact h:Calls Tryz.prog 89 #[ptr sb, .agg #[.string SG, .string BS, .string NM]] wz fun e w'=>(∃ tb,e=.returned (.tuple #[ptr tb, .bool true])∧TyL W lo tb t)∧Below wz.heap.size wz w')
   have HF:=hid fun(lo tb:Nat) (W wz:World) (hT:TyL W lo tb t) (hz:Below W.heap.size W wz)=>field t htl g lo tb W wz hz hT
   cases hfi:fieldI t g with
   | none =>
    have HFI:=hid hfi
    have HD:=hid fun(e:Ending) (w':World) (h:RfdNo e)=>(show RfdOut s.data.toList kt.data.toList v.data.toList g w.heap.size e w' by unfold RfdOut;rw[hvo];dsimp only;rw[hrd,hfi];exact h)
    clear hvo hko hvi hSG hBS hNM hkv hrt hfi hrd
    go_enter Tryz.func60,Tryz.ntmps60
    go_wp2_with (first|(go_at_call 46;refine(HF.out _ _ _ _ HT.out HB23.out).mono ?_;rintro e w4 ⟨ho,rfl⟩;obtain rfl:=ho.no HFI.out;clear ho)|(go_at_call 89;refine(HR.out _ _ _ _ HSC.out (by first|exact((Below.refl _ _).alloc (Nat.le_refl _) _).alloc (by simp) _)).mono ?_;rintro e w3 ⟨⟨tb,rfl,hT⟩,hb3⟩;have HT:=hid hT;have HB23:=hid (below_join (((Below.refl w2.heap.size w2).alloc (Nat.le_refl _) _).alloc (by simp) _) hb3);have HB3:=hid (below_join ((HB2.out.alloc HB2.out.size _).alloc (by have:=HB2.out.size;simp;omega) _) hb3);obtain⟨zl,zr0,zr1,zr2,zr3,zf0,zf1,zf2,zf3⟩:=(Z2.out.below (((Below.refl w2.heap.size w2).alloc (Nat.le_refl _) _).alloc (by simp) _) Z2.out.lt).below hb3 (by have:=Z2.out.lt;simp;omega);clear hb3 hT)|(go_at_call 52;refine HG.out.mono ?_;rintro e w2 ⟨ho,hb2⟩;obtain⟨sb,cs,rfl,hsc,hvc⟩:=HO.out _ _ _ ho;obtain⟨q,gg,n,d,T,sa,rfl⟩:=hvc.cells4;have HSC:=hid hsc;have Z2:=hid ((zero_new w).below hb2 (by simp));have HB2:=hid (below_join ((Below.refl w.heap.size w).alloc (Nat.le_refl _) _) hb2);clear ho hb2 hsc hvc))
    all_goals exact bodyPost_ret (v:=.tuple #[.pointer none, .agg #[.int .u8 0, .string ⟨#[]⟩, .int .i64 0, .slice none 0 0], .bool false]) (by simp[results,Tryz.results60,go_sem, *]) rfl ⟨HD.out _ _ rfl,by have B:=HB3.out;have hB:=B.size;repeat (first|with_reducible exact B|with_reducible refine Below.drew ?_|with_reducible refine Below.setCell ?_ (by first|(simp;done)|(simp;omega)) _|with_reducible refine Below.alloc ?_ (by first|exact B.size|(simp;omega)) _)⟩
   | some f =>
    have HFI:=hid hfi
    have H82:=hid h82
    have HF2:=hid fun(lo tb:Nat) (wz:World) (hT:TyL wz lo tb t)=>(by
     refine(fieldLo t htl g lo tb wz wz (Below.refl _ _) hT).mono (R':=fun e w'=>(∃ fb o,e=.returned (.pointer (some ⟨fb,o,none⟩))∧FdAt wz fb o 82 f∧lo≤fb)∧wz=w') fun e w' ⟨h1,h2⟩=>⟨?_,h2⟩
     unfold FieldLo at h1
     rw[hfi,h82] at h1
     exact h1:Calls Tryz.prog 46 #[ptr tb, .int .i64 g] wz fun e w'=>(∃ fb o,e=.returned (.pointer (some ⟨fb,o,none⟩))∧FdAt wz fb o 82 f∧lo≤fb)∧wz=w')
    have HD:=hid fun(e:Ending) (w':World) (h:∃ fb o cs,e=.returned (.tuple #[.pointer (some ⟨fb,o,none⟩), .agg cs.toArray, .bool true])∧FdAt w' fb o 82 f∧VC w' (fun b=>w.heap.size≤b) u cs)=>(show RfdOut s.data.toList kt.data.toList v.data.toList g w.heap.size e w' by unfold RfdOut;rw[hvo];dsimp only;rw[hrd,hfi];exact h)
    clear hvo hko hvi hSG hBS hNM hkv hrt hfi hrd h82
    go_enter Tryz.func60,Tryz.ntmps60
    go_wp2_with (first|(go_at_call 46;refine(HF.out _ _ _ _ HT.out HB23.out).mono ?_;rintro e w4 ⟨ho,rfl⟩;obtain⟨fb,o,rfl,hfd⟩:=ho.yes HFI.out;have HFD:=hid hfd;clear ho hfd)|(go_at_call 89;refine(HR.out _ _ _ _ HSC.out (by first|exact((Below.refl _ _).alloc (Nat.le_refl _) _).alloc (by simp) _)).mono ?_;rintro e w3 ⟨⟨tb,rfl,hT⟩,hb3⟩;have HT:=hid hT;have x0:w3.cell? ⟨w2.heap.size+1,0,none⟩=some (.int .u8 q):=(hb3.cell (p:=⟨w2.heap.size+1,0,none⟩) (by simp)).trans (by simp);have x1:w3.cell? ⟨w2.heap.size+1,1,none⟩=some (.string T):=(hb3.cell (p:=⟨w2.heap.size+1,1,none⟩) (by simp)).trans (by simp);have x2:w3.cell? ⟨w2.heap.size+1,2,none⟩=some (.int .i64 gg):=(hb3.cell (p:=⟨w2.heap.size+1,2,none⟩) (by simp)).trans (by simp);have x3:w3.cell? ⟨w2.heap.size+1,3,none⟩=some (.slice sa n d):=(hb3.cell (p:=⟨w2.heap.size+1,3,none⟩) (by simp)).trans (by simp);have hl3:w2.heap.size+1<w3.heap.size:=Nat.lt_of_lt_of_le (by simp) hb3.size;have HB23:=hid (below_join (((Below.refl w2.heap.size w2).alloc (Nat.le_refl _) _).alloc (by simp) _) hb3);have HB3:=hid (below_join ((HB2.out.alloc HB2.out.size _).alloc (by have:=HB2.out.size;simp;omega) _) hb3);obtain⟨zl,zr0,zr1,zr2,zr3,zf0,zf1,zf2,zf3⟩:=(Z2.out.below (((Below.refl w2.heap.size w2).alloc (Nat.le_refl _) _).alloc (by simp) _) Z2.out.lt).below hb3 (by have:=Z2.out.lt;simp;omega);clear hb3 hT)|(go_at_call 52;refine HG.out.mono ?_;rintro e w2 ⟨ho,hb2⟩;obtain⟨sb,cs,rfl,hsc,hvc⟩:=HO.out _ _ _ ho;obtain⟨q,gg,n,d,T,sa,rfl⟩:=hvc.cells4;have HSC:=hid hsc;have HVC:=hid hvc;have Z2:=hid ((zero_new w).below hb2 (by simp));have HB2:=hid (below_join ((Below.refl w.heap.size w).alloc (Nat.le_refl _) _) hb2);clear ho hb2 hsc hvc))
    have HT3:=hid (HT.out.below HB23.out)
    have HTO:=hid fun(wz:World) (h:Over (w.heap.size+1) w3 wz)=>HF2.out _ tb wz (TyL.keep HT3.out h.size (fun z h1 h2=>h.block z (by simpa using h1) h2))
    have hnz:¬ (w2.heap.size+1=w.heap.size):=by have:=Z2.out.lt;omega
    have hnz2:¬ (w.heap.size=w2.heap.size+1):=by have:=Z2.out.lt;omega
    go_region_law (((try go_simp);go_at_call 46;refine(HTO.out _ (by repeat (first|with_reducible exact Over.refl _ _|with_reducible refine Over.drew ?_|with_reducible refine Over.setCell ?_ (by simp) _))).mono ?_;rintro e w5 ⟨⟨fb5,o5,rfl,hfd5,hlo5⟩,rfl⟩;have HFD5:=hid hfd5;have HLO5:=hid hlo5;clear hfd5 hlo5))
    all_goals (go_wp2_with fail)
    all_goals exact bodyPost_ret (v:=.tuple #[.pointer (some ⟨fb5,o5,none⟩), .agg #[.int .u8 q, .string T, .int .i64 gg, .slice sa n d], .bool true]) (by simp[results,Tryz.results60,go_sem, *]) rfl (by
     have hR:∀ WF,Over (w.heap.size+1) w3 WF→FdAt WF fb5 o5 82 f→RfdOut s.data.toList kt.data.toList v.data.toList g w.heap.size (.returned (.tuple #[.pointer (some ⟨fb5,o5,none⟩), .agg #[.int .u8 q, .string T, .int .i64 gg, .slice sa n d], .bool true])) WF:=fun WF hO hF=>HD.out _ _ ⟨fb5,o5,[.int .u8 q, .string T, .int .i64 gg, .slice sa n d],rfl,hF,VC.keep (fun b hp hlt=>⟨Nat.le_trans (by simp) hp,(hO.block b (by simpa using hp) (Nat.lt_of_lt_of_le hlt HB23.out.size)).trans (HB23.out.block b hlt)⟩) (Nat.le_trans HB23.out.size hO.size) _ _ HVC.out⟩
     refine⟨hR _ ?_ (FdAt.over HFD5.out HLO5.out ?_), ?_⟩
     ·repeat (first|with_reducible exact Over.refl _ _|with_reducible refine Over.drew ?_|with_reducible refine Over.setCell ?_ (by simp) _)
     ·(repeat (first|with_reducible exact Over.refl _ _|with_reducible refine Over.drew ?_|with_reducible refine Over.setCell ?_ (by simp) _))
      all_goals exact⟨Nat.le_refl _,fun _ _ _=>rfl⟩
     ·have B:=HB3.out
      repeat (first|with_reducible exact B|with_reducible refine Below.drew ?_|with_reducible refine Below.setCell ?_ (by first|(simp;done)|(simp;omega)) _))

def setVal (l kt s:List UInt8) (g:Int) (b:List UInt8):Option (List UInt8):=(valOf l kt s).bind fun y=>Wf.setIn y.1.1 y.1.2 y.2 g b
theorem es_len4 {es:List (Wf.Fd × Wf.V)} (h:(Wf.recV es).print.length≤400):es.length≤400:=by
 have h1:=Wf.commas_len (l:=(es.map Wf.tagged).map Wf.V.print) (by
  intro a ha
  obtain⟨e,he,rfl⟩:=List.mem_map.1 ha
  obtain⟨d,hd,rfl⟩:=List.mem_map.1 he
  rw[Wf.tagged_print]
  simp)
 rw[Wf.recV,Wf.print_rec] at h
 simp at h1 h
 omega

theorem vf_two (o:Option (List UInt8)):∃ (t:ByteArray) (b:Bool),vfV o=.tuple #[.string t, .bool b]:=by
 cases o with
 | none=>exact⟨_,_,rfl⟩
 | some s=>exact⟨_,_,rfl⟩

theorem valIn_parse {x:Wf.Sc} {k:Wf.K} {s:List UInt8} (h:s.length≤400):(Wf.valIn x k s).isSome=(match Wf.parse x 12 k s with|some (_,[])=>true|_=>false):=by
 rw[Wf.valIn,if_pos h]
 cases Wf.parse x 12 k s with
 | none=>rfl
 | some y =>
  obtain⟨u,r⟩:=y
  cases r <;> rfl
def backV (o:Bool) (S:ByteArray):Value:=match o with
 | true=>.tuple #[.string S, .bool true]
 | false=>.tuple #[.string ⟨#[]⟩, .bool false]
set_option maxRecDepth 20000 in
set_option maxHeartbeats 2000000 in
theorem l4Back (x:Wf.Sc) (hx:Wf.ScOk x) (lo b:Nat) (v:Value) (k:Wf.K) (hk:KOk x k) (S:ByteArray) (hS:S.size≤9000000) (W w:World) (hW:Below W.heap.size W w) (hsp:ScSp W lo b v x):Calls Tryz.prog 64 #[v,tx k.text, .string S] w fun e w'=>e=.returned (backV (Wf.valIn x k S.data.toList).isSome S)∧Below w.heap.size w w':=by
 obtain⟨KT,hKT⟩:∃ KT:ByteArray,(⟨k.text.toArray⟩:ByteArray)=KT:=⟨_,rfl⟩
 obtain⟨va,vc,rfl,_,_⟩:=hsp.slice
 obtain⟨vn,hvn⟩:∃ vn,x.length=vn:=⟨_,rfl⟩
 rw[hvn] at hsp
 rw[hvn]
 rw[tx,hKT]
 by_cases h400:S.size≤400
 ·have HRD:=hid (by
   have h:=l4read x hx (.slice va vn vc) lo b W hsp 12 (by omega) k hk S w (by omega) hW
   rw[tx,hKT] at h
   exact h:Calls Tryz.prog 63 #[.agg #[.slice va vn vc], .string S, .string KT, .int .i64 12] w fun e w'=>LrOut (Wf.parse x 12 k S.data.toList) w e w'∧Below w.heap.size w w')
  have hd:decide ((400:Int)<(S.size:Int))=false:=decide_eq_false (by omega)
  have hvp:=valIn_parse (x:=x) (k:=k) (s:=S.data.toList) (by rw[size_list];exact h400)
  cases hp:Wf.parse x 12 k S.data.toList with
  | none =>
   have HB:=hid (show backV (Wf.valIn x k S.data.toList).isSome S=.tuple #[.string ⟨#[]⟩, .bool false] by rw[hvp,hp];rfl)
   clear hvp
   have HO2:=hid fun(e:Ending) (w w':World) (h:LrOut (Wf.parse x 12 k S.data.toList) w e w')=>(by rw[hp] at h;exact h:∃ (p:Option Addr) (r:ByteArray),e=.returned (.tuple #[.pointer p, .string r, .bool false]))
   clear hp
   go_enter Tryz.func64,Tryz.ntmps64
   go_wp2_with (go_at_call 63;refine HRD.out.mono ?_;rintro e w3 ⟨ho,hb3⟩;obtain⟨p,r,rfl⟩:=HO2.out _ _ _ ho;have HB3:=hid hb3;clear ho hb3)
   exact bodyPost_ret (v:=.tuple #[.string ⟨#[]⟩, .bool false]) (by simp[results,Tryz.results64,go_sem, *]) rfl ⟨by rw[HB.out],HB3.out⟩
  | some y =>
   obtain⟨u,rr⟩:=y
   obtain⟨RR,hRR⟩:∃ RR:ByteArray,(⟨rr.toArray⟩:ByteArray)=RR:=⟨_,rfl⟩
   have HO2:=hid fun(e:Ending) (w w':World) (h:LrOut (Wf.parse x 12 k S.data.toList) w e w')=>(by unfold LrOut at h;rw[hp] at h;dsimp only at h;rw[tx,hRR] at h;exact h:∃ b,e=.returned (.tuple #[ptr b, .string RR, .bool true])∧LV w' (fun z=>w.heap.size≤z) u b)
   cases rr with
   | nil =>
    have HB:=hid (show backV (Wf.valIn x k S.data.toList).isSome S=.tuple #[.string S, .bool true] by rw[hvp,hp];rfl)
    clear hvp
    have hre:RR.toList.isEmpty=true:=by rw[← hRR,ByteArray.toList_eq];rfl
    have hre2:RR.toList=[]:=List.isEmpty_iff.1 hre
    clear hp hRR
    go_enter Tryz.func64,Tryz.ntmps64
    go_wp2_with (go_at_call 63;refine HRD.out.mono ?_;rintro e w3 ⟨ho,hb3⟩;obtain⟨pb,rfl,hlv⟩:=HO2.out _ _ _ ho;have HB3:=hid hb3;clear ho hb3 hlv)
    exact bodyPost_ret (v:=.tuple #[.string S, .bool true]) (by simp[results,Tryz.results64,go_sem, *]) rfl ⟨by rw[HB.out],HB3.out⟩
   | cons c0 q0 =>
    have HB:=hid (show backV (Wf.valIn x k S.data.toList).isSome S=.tuple #[.string ⟨#[]⟩, .bool false] by rw[hvp,hp];rfl)
    clear hvp
    have hre:RR.toList.isEmpty=false:=by rw[← hRR,ByteArray.toList_eq];rfl
    have hre2:RR.toList≠[]:=by rw[← hRR,ByteArray.toList_eq];exact List.cons_ne_nil _ _
    clear hp hRR
    go_enter Tryz.func64,Tryz.ntmps64
    go_wp2_with (go_at_call 63;refine HRD.out.mono ?_;rintro e w3 ⟨ho,hb3⟩;obtain⟨pb,rfl,hlv⟩:=HO2.out _ _ _ ho;have HB3:=hid hb3;clear ho hb3 hlv)
    exact bodyPost_ret (v:=.tuple #[.string ⟨#[]⟩, .bool false]) (by simp[results,Tryz.results64,go_sem, *]) rfl ⟨by rw[HB.out],HB3.out⟩
 ·have hd:decide ((400:Int)<(S.size:Int))=true:=decide_eq_true (by omega)
  have HB:=hid (show backV (Wf.valIn x k S.data.toList).isSome S=.tuple #[.string ⟨#[]⟩, .bool false] by rw[Wf.valIn_long (by rw[size_list];exact h400)];rfl)
  go_enter Tryz.func64,Tryz.ntmps64
  go_wp2_with fail
  exact bodyPost_ret (v:=.tuple #[.string ⟨#[]⟩, .bool false]) (by simp[results,Tryz.results64,go_sem, *]) rfl ⟨by rw[HB.out],Below.refl _ _⟩
set_option maxRecDepth 20000 in
theorem fits (u:Wf.V) (q n c:Nat) (g:Int) (T:ByteArray) (a:Option Addr) (P:Nat→Prop) (W w:World) (hv:VC W P u [.int .u8 q, .string T, .int .i64 g, .slice a n c]) (hW:Below W.heap.size W w) (hl:u.print.length≤1000000) (hd:u.deep≤1000000):Calls Tryz.prog 68 #[.agg #[.int .u8 q, .string T, .int .i64 g, .slice a n c]] w fun e w'=>e=.returned (.bool (decide (u.print.length≤400)&&decide (u.deep≤12)))∧Below w.heap.size w w':=by
 obtain⟨O,hO⟩:∃ O:ByteArray,(⟨u.print.toArray⟩:ByteArray)=O:=⟨_,rfl⟩
 obtain⟨D,hD⟩:∃ D,u.deep=D:=⟨_,rfl⟩
 have hos:u.print.length=O.size:=by rw[← hO];rfl
 have HPR:=hid fun(wz:World) (hz:Below W.heap.size W wz)=>(by
  have h:=print u P _ W wz hv hz hl
  rw[tx,hO] at h
  exact h:Calls Tryz.prog 62 #[.agg #[.int .u8 q, .string T, .int .i64 g, .slice a n c]] wz fun e w'=>e=.returned (.string O)∧Below wz.heap.size wz w')
 have HDP:=hid fun(wz:World) (hz:Below W.heap.size W wz)=>(by
  have h:=deep u P _ W wz hv hz (by omega)
  rw[hD] at h
  exact h:Calls Tryz.prog 56 #[.agg #[.int .u8 q, .string T, .int .i64 g, .slice a n c]] wz fun e w'=>e=.returned (.int .i64 D)∧Below wz.heap.size wz w')
 have HW:=hid hW
 rw[hos]
 obtain⟨B1,hB1⟩:∃ B1,decide (O.size≤400)=B1:=⟨_,rfl⟩
 obtain⟨B2,hB2⟩:∃ B2,decide (D≤12)=B2:=⟨_,rfl⟩
 have d1:decide ((O.size:Int)≤400)=B1:=by rw[← hB1];congr 1;exact propext ⟨fun h=>by omega,fun h=>by omega⟩
 have d2:decide ((D:Int)≤12)=B2:=by rw[← hB2];congr 1;exact propext ⟨fun h=>by omega,fun h=>by omega⟩
 rw[hD,hB1,hB2]
 have B3:=hid ((Below.refl w.heap.size w).alloc (Nat.le_refl _) (.cells #[.int .u8 q, .string T, .int .i64 g, .slice a n c] 92))
 obtain⟨k0,k1,k2,k3⟩:=value_new w q n c g T a
 have hlt:w.heap.size<(w.alloc (.cells #[.int .u8 q, .string T, .int .i64 g, .slice a n c] 92)).heap.size:=by simp
 clear hO hD hos hv hl hd hW hB1 hB2
 cases B1 <;> cases B2
 all_goals
  go_enter Tryz.func68,Tryz.ntmps68
  go_wp2_with (first|(go_at_call 56;have _u:=HB5;refine(HDP.out _ (HW.out.trans ((B3.out.trans (HB5.out.mono B3.out.size)).mono HW.out.size))).mono ?_;rintro e w6 ⟨rfl,hb6⟩;have HB6:=hid hb6;clear hb6)|(go_at_call 62;refine(HPR.out _ (HW.out.alloc HW.out.size _)).mono ?_;rintro e w5 ⟨rfl,hb5⟩;have HB5:=hid hb5;have q0:=(hb5.cell (p:=⟨w.heap.size,0,none⟩) hlt).trans k0;have q1:=(hb5.cell (p:=⟨w.heap.size,1,none⟩) hlt).trans k1;have q2:=(hb5.cell (p:=⟨w.heap.size,2,none⟩) hlt).trans k2;have q3:=(hb5.cell (p:=⟨w.heap.size,3,none⟩) hlt).trans k3;clear hb5))
  go_ret
  first|exact⟨rfl,below_join (B3.out.trans (HB5.out.mono B3.out.size)) HB6.out⟩|exact⟨rfl,B3.out.trans (HB5.out.mono B3.out.size)⟩

set_option maxRecDepth 20000 in
set_option maxHeartbeats 4000000 in
theorem valueSet_i (s kt v:ByteArray) (g:Int) (d:ByteArray) (m:Int) (w:World) (hm:ML m w) (hs:s.size≤1048576) (hkt:kt.size≤1048576) (hv:v.size≤1048576) (hd:d.size≤1048576):Calls Tryz.prog 31 #[.string s, .string kt, .string v, .int .i64 g, .string d] w fun e w'=>e=.returned (vfV (setVal s.data.toList kt.data.toList v.data.toList g d.data.toList))∧Below w.heap.size w w':=by
 have HG:=hid (recordField s kt v g m w hm hs hkt hv)
 have HM:=hid hm
 have HRS:=hid fun(wz:World) (h:ML m wz)=>readSchema s m wz h hs
 clear hm
 have NO:(valOf s.data.toList kt.data.toList v.data.toList=none∨∃ y,valOf s.data.toList kt.data.toList v.data.toList=some y∧Wf.recFd y.1.1 y.1.2 g=none)→Calls Tryz.prog 31 #[.string s, .string kt, .string v, .int .i64 g, .string d] w fun e w'=>e=.returned (vfV (setVal s.data.toList kt.data.toList v.data.toList g d.data.toList))∧Below w.heap.size w w':=fun hno=>by
  have HF:=hid (show vfV (setVal s.data.toList kt.data.toList v.data.toList g d.data.toList)=.tuple #[tx [], .bool false] by
   unfold setVal
   rcases hno with h|⟨y,h,h2⟩
   ·rw[h];rfl
   ·rw[h]
    simp only[Option.bind_some,Wf.setIn,h2]
    rfl)
  have HO:=hid fun(e:Ending) (w':World) (h:RfdOut s.data.toList kt.data.toList v.data.toList g w.heap.size e w')=>(show RfdNo e by
   unfold RfdOut at h
   rcases hno with h1|⟨y,h1,h2⟩
   ·rw[h1] at h;exact h
   ·rw[h1] at h;dsimp only at h;rw[h2] at h;exact h)
  clear hno
  go_enter Tryz.func31,Tryz.ntmps31
  go_wp2_with (go_at_call 60;refine HG.out.mono ?_;rintro e w2 ⟨ho,hb2⟩;obtain rfl:=HO.out _ _ ho;have HB2:=hid hb2;clear ho hb2)
  exact bodyPost_ret (v:=.tuple #[tx [], .bool false]) (by simp[results,Tryz.results31,go_sem, *]) rfl ⟨by rw[HF.out],HB2.out.alloc HB2.out.size _⟩
 cases hvo:valOf s.data.toList kt.data.toList v.data.toList with
 | none=>exact NO (.inl hvo)
 | some y =>
  obtain⟨⟨x,k⟩,u0⟩:=y
  cases hrf:Wf.recFd x k g with
  | none=>exact NO (.inr ⟨_,hvo,hrf⟩)
  | some f =>
   clear NO
   obtain⟨hko,hvi⟩:=valOf_some hvo
   obtain⟨hx,hk⟩:=kindOf_ok hko
   obtain⟨hsc,_,_,_,_⟩:=kindOf_text hko
   obtain⟨hty,hsv,hs400⟩:=Wf.valIn_some hvi
   obtain⟨nm,t,rfl,hft,h82,hfz⟩:=Wf.recFd_some hrf
   obtain⟨es,hes,rfl⟩:=Wf.rec_of hty hft h82
   obtain⟨hfm,hfg,hff⟩:=Wf.fieldZ_some hfz
   have htx:=(Wf.find_mem hft).1
   have h69:t.sort≠69:=by rw[h82];decide
   have hfo:=(hx.tys t htx).fds f hfm
   have hfk:=fd_kind hfo
   have hrl:(Wf.recV es).print.length≤400:=by rw[← hsv];exact hs400
   have hesl:=es_len4 hrl
   obtain⟨SG,hSG⟩:∃ SG:ByteArray,(⟨f.kind.signs.toArray⟩:ByteArray)=SG:=⟨_,rfl⟩
   obtain⟨BS,hBS⟩:∃ BS:ByteArray,(⟨f.kind.base.toArray⟩:ByteArray)=BS:=⟨_,rfl⟩
   obtain⟨NM,hNM⟩:∃ NM:ByteArray,(⟨f.kind.name.toArray⟩:ByteArray)=NM:=⟨_,rfl⟩
   have hkv:kV f.kind=.agg #[.string SG, .string BS, .string NM]:=by simp only[kV,tx,hSG,hBS,hNM]
   have hfc:fdC 82 f=[.int .i64 f.tag,tx f.name, .string SG, .string BS, .string NM,tx f.given]:=by
    unfold fdC;rw[if_neg (by decide)];simp only[tx,hSG,hBS,hNM]
   have HFC:=hid fun(wz:World) (fb o:Nat) (h:FdAt wz fb o 82 f)=>(show wz.cell? ⟨fb,o+2,none⟩=some (.string SG)∧wz.cell? ⟨fb,o+3,none⟩=some (.string BS)∧wz.cell? ⟨fb,o+4,none⟩=some (.string NM) from⟨h.2 2 _ (by rw[hfc];rfl),h.2 3 _ (by rw[hfc];rfl),h.2 4 _ (by rw[hfc];rfl)⟩)
   have HFI:=hid (show setVal s.data.toList kt.data.toList v.data.toList g d.data.toList=(Wf.valIn x f.kind d.data.toList).bind fun y=>if (Wf.recV (Wf.setEs x es f y)).print.length≤400∧(Wf.recV (Wf.setEs x es f y)).deep≤12 then some (Wf.recV (Wf.setEs x es f y)).print else none by unfold setVal;rw[hvo];simp only[Option.bind_some];rw[Wf.setIn_rec hft h82,hfz];rfl)
   obtain⟨n,hn⟩:∃ n,es.length=n:=⟨_,rfl⟩
   have HO:=hid fun(e:Ending) (w':World) (h:RfdOut s.data.toList kt.data.toList v.data.toList g w.heap.size e w')=>(by
    unfold RfdOut at h;rw[hvo] at h;dsimp only at h;rw[hrf] at h
    obtain⟨fb,o,cs,h1,h2,h3⟩:=h
    obtain⟨a,c,hcs,_,_,_,_⟩:=h3.form
    have hcs2:cs=[.int .u8 82, .string ⟨#[]⟩, .int .i64 0, .slice a n c]:=by
     rw[hcs];show [_,_,_,Value.slice a (es.map Wf.tagged).length c]=_;rw[List.length_map,hn];rfl
    subst hcs2
    exact⟨fb,o,a,c,h1,h2,h3⟩:∃ fb o a c,e=.returned (.tuple #[.pointer (some ⟨fb,o,none⟩), .agg #[.int .u8 82, .string ⟨#[]⟩, .int .i64 0, .slice a n c], .bool true])∧FdAt w' fb o 82 f∧VC w' (fun b=>w.heap.size≤b) (Wf.recV es) [.int .u8 82, .string ⟨#[]⟩, .int .i64 0, .slice a n c])
   have HRO:=hid fun(lo:Nat) (e:Ending) (w':World) (h:RsOut s.data.toList lo e w')=>(by unfold RsOut at h;rw[hsc] at h;exact h:∃ sb,e=.returned (.tuple #[ptr sb, .bool true])∧ScL w' lo sb x)
   have HRD:=hid fun(lo sb:Nat) (wz:World) (h:ScL wz lo sb x)=>(by
    have h2:=read x hx f.kind (KOk.fld hx htx h69 hfm) lo sb d.data.toList (by rw[size_list];omega) wz wz h (Below.refl _ _)
    rw[hkv] at h2
    exact h2:Calls Tryz.prog 66 #[ptr sb, .agg #[.string SG, .string BS, .string NM], .string d] wz fun e w'=>RvOut x f.kind d.data.toList wz e w'∧Below wz.heap.size wz w')
   cases hvi2:Wf.valIn x f.kind d.data.toList with
   | none =>
    have HF:=hid (show vfV (setVal s.data.toList kt.data.toList v.data.toList g d.data.toList)=.tuple #[tx [], .bool false] by rw[HFI.out,hvi2];rfl)
    have HO3:=hid fun(w w':World) (e:Ending) (h:RvOut x f.kind d.data.toList w e w')=>(by unfold RvOut at h;rw[hvi2] at h;exact h:e=.returned (.tuple #[.agg #[.int .u8 0, .string ⟨#[]⟩, .int .i64 0, .slice none 0 0], .bool false]))
    clear hvo hrf hko hvi hsc hty hsv hs400 hft h82 hfz hes hfm hfg hff htx h69 hfo hfk hrl hesl hx hk hn hvi2 hSG hBS hNM hkv hfc
    go_enter Tryz.func31,Tryz.ntmps31
    go_wp2_with (first|(go_at_call 66;refine(HRD.out _ _ _ HSL.out).mono ?_;rintro e w4 ⟨ho,hb4⟩;obtain rfl:=HO3.out _ _ _ ho;have HB4:=hid (HB3.out.trans (hb4.mono HB3.out.size));clear ho hb4)|(go_at_call 61;refine(HRS.out _ (HM.out.below (HB2.out.alloc HB2.out.size _))).mono ?_;rintro e w3 ⟨ho,hb3⟩;obtain⟨sb,rfl,hsl⟩:=HRO.out _ _ _ ho;have HSL:=hid hsl;have HB23:=hid (below_join ((Below.refl w2.heap.size w2).alloc (Nat.le_refl _) _) hb3);have HB3:=hid (HB2.out.trans (HB23.out.mono HB2.out.size));obtain⟨f2,f3,f4⟩:=HFC.out _ _ _ (HFD.out.below HB23.out);clear ho hb3 hsl)|(go_at_call 60;refine HG.out.mono ?_;rintro e w2 ⟨ho,hb2⟩;obtain⟨fb,o,a,c,rfl,hfd,hvc⟩:=HO.out _ _ ho;have HFD:=hid hfd;have HB2:=hid hb2;clear ho hb2 hfd hvc))
    exact bodyPost_ret (v:=.tuple #[tx [], .bool false]) (by simp[results,Tryz.results31,go_sem, *]) rfl ⟨by rw[HF.out],HB4.out.alloc HB4.out.size _⟩
   | some u =>
    obtain⟨htu,hsu,hsu4⟩:=Wf.valIn_some hvi2
    have hul:u.print.length≤400:=by rw[← hsu];exact hsu4
    have hsl:=Wf.set_len (x:=x) (es:=es) (u:=u) hfo.tag2
    have hes12:Wf.RecOf x t 12 es:=⟨hes.1,fun e he=>by obtain⟨h1,h2,h3,h4,h5⟩:=hes.2 e he;exact⟨h1,h2,h3,Wf.typed_mono _ _ _ h4 12 (by omega),h5⟩⟩
    have htyp:=Wf.rec_typed (Wf.rec_set hes12 hfo.tag1 hfo.tag2 hff htu) hft h82
    have hdp:(Wf.recV (Wf.setEs x es f u)).deep≤1000000:=by have:=(Wf.typed_deep _ _ _ htyp).2;omega
    have hpl:(Wf.recV (Wf.setEs x es f u)).print.length≤1000000:=by omega
    have hrf2:=hx.refs t htx h69 f hfm
    have HPUT:=hid fun(lo sb fb o q2 g2 n2 c2 c:Nat) (T2:ByteArray) (a2 a:Option Addr) (wz:World) (h1:ScL wz lo sb x) (h2:FdAt wz fb o 82 f) (h3:VC wz (fun _=>True) (Wf.recV es) [.int .u8 82, .string ⟨#[]⟩, .int .i64 0, .slice a n c]) (h4:VC wz (fun _=>True) u [.int .u8 q2, .string T2, .int .i64 g2, .slice a2 n2 c2])=>(by
     have h:=put x hx lo sb fb o f es hesl u wz h1 h2 (by have:=hfo.tag2;omega) hfk hrf2 _ _ h3 h4 (by omega)
     rw[Wf.putL_set hes.1] at h
     refine h.mono ?_
     rintro e w' ⟨⟨cs,rfl,hvc⟩,hb⟩
     obtain⟨q,gg,nn,cc,TT,aa,rfl⟩:=hvc.cells4
     exact⟨⟨q,gg,nn,cc,TT,aa,rfl,hvc⟩,hb⟩:Calls Tryz.prog 67 #[ptr sb, .agg #[.int .u8 82, .string ⟨#[]⟩, .int .i64 0, .slice a n c], .pointer (some ⟨fb,o,none⟩), .agg #[.int .u8 q2, .string T2, .int .i64 g2, .slice a2 n2 c2]] wz fun e w'=>(∃ (q gg nn cc:Nat) (TT:ByteArray) (aa:Option Addr),e=.returned (.agg #[.int .u8 q, .string TT, .int .i64 gg, .slice aa nn cc])∧VC w' (fun _=>True) (Wf.recV (Wf.setEs x es f u)) [.int .u8 q, .string TT, .int .i64 gg, .slice aa nn cc])∧Below wz.heap.size wz w')
    obtain⟨R,hR⟩:∃ R,Wf.recV (Wf.setEs x es f u)=R:=⟨_,rfl⟩
    rw[hR] at HPUT hdp hpl
    obtain⟨O,hO⟩:∃ O:ByteArray,(⟨R.print.toArray⟩:ByteArray)=O:=⟨_,rfl⟩
    obtain⟨B,hB⟩:∃ B,(decide (R.print.length≤400)&&decide (R.deep≤12))=B:=⟨_,rfl⟩
    have HFIT:=hid fun(q gg nn cc:Nat) (TT:ByteArray) (aa:Option Addr) (W wz:World) (h:VC W (fun _=>True) R [.int .u8 q, .string TT, .int .i64 gg, .slice aa nn cc]) (hz:Below W.heap.size W wz)=>(by
     have h2:=fits R q nn cc gg TT aa _ W wz h hz hpl hdp
     rw[hB] at h2
     exact h2:Calls Tryz.prog 68 #[.agg #[.int .u8 q, .string TT, .int .i64 gg, .slice aa nn cc]] wz fun e w'=>e=.returned (.bool B)∧Below wz.heap.size wz w')
    have HPRN:=hid fun(q gg nn cc:Nat) (TT:ByteArray) (aa:Option Addr) (W wz:World) (h:VC W (fun _=>True) R [.int .u8 q, .string TT, .int .i64 gg, .slice aa nn cc]) (hz:Below W.heap.size W wz)=>(by
     have h2:=print R _ _ W wz h hz hpl
     rw[tx,hO] at h2
     exact h2:Calls Tryz.prog 62 #[.agg #[.int .u8 q, .string TT, .int .i64 gg, .slice aa nn cc]] wz fun e w'=>e=.returned (.string O)∧Below wz.heap.size wz w')
    have HF:=hid (show vfV (setVal s.data.toList kt.data.toList v.data.toList g d.data.toList)=if B=true then .tuple #[.string O, .bool true] else .tuple #[tx [], .bool false] by
     rw[HFI.out,hvi2]
     simp only[Option.bind_some]
     rw[hR,← hB,← hO]
     by_cases h1:R.print.length≤400 <;> by_cases h2:R.deep≤12 <;> simp[h1,h2,vfV,tx])
    have HO3:=hid fun(w w':World) (e:Ending) (h:RvOut x f.kind d.data.toList w e w')=>(by
     unfold RvOut at h;rw[hvi2] at h
     obtain⟨cs,h1,h2⟩:=h
     obtain⟨q,gg,nn,cc,TT,aa,rfl⟩:=h2.cells4
     exact⟨q,gg,nn,cc,TT,aa,h1,h2⟩:∃ (q gg nn cc:Nat) (TT:ByteArray) (aa:Option Addr),e=.returned (.tuple #[.agg #[.int .u8 q, .string TT, .int .i64 gg, .slice aa nn cc], .bool true])∧VC w' (fun b=>w.heap.size≤b) u [.int .u8 q, .string TT, .int .i64 gg, .slice aa nn cc])
    clear hvo hrf hko hvi hsc hty hsv hs400 hft h82 hfz hes hes12 hfm hfg hff htx h69 hfo hfk hrl hesl hx hk hn hvi2 hSG hBS hNM hkv hfc htu hsu hsu4 hul hsl htyp hdp hpl hrf2 hR hO hB
    cases B
    all_goals
     go_enter Tryz.func31,Tryz.ntmps31
     go_wp2_with (first|(go_at_call 62;have _u:=HB6;refine(HPRN.out _ _ _ _ _ _ w5 w6 HVL.out HB56.out).mono ?_;rintro e w7 ⟨rfl,hb7⟩;have HB7:=hid (HB6.out.trans (hb7.mono HB6.out.size));clear hb7)|(go_at_call 68;have _u:=HVL;refine(HFIT.out _ _ _ _ _ _ w5 _ HVL.out ((Below.refl w5.heap.size w5).alloc (Nat.le_refl _) _)).mono ?_;rintro e w6 ⟨rfl,hb6⟩;have HB56:=hid (below_join ((Below.refl w5.heap.size w5).alloc (Nat.le_refl _) (vCells q5 T5 g5 a5 n5 c5)) hb6);have HB6:=hid (HB5.out.trans (HB56.out.mono HB5.out.size));have l0:w6.cell? ⟨w5.heap.size,0,none⟩=some (.int .u8 q5):=(hb6.cell (p:=⟨w5.heap.size,0,none⟩) (by simp)).trans (by simp[go_sem]);have l1:w6.cell? ⟨w5.heap.size,1,none⟩=some (.string T5):=(hb6.cell (p:=⟨w5.heap.size,1,none⟩) (by simp)).trans (by simp[go_sem]);have l2:w6.cell? ⟨w5.heap.size,2,none⟩=some (.int .i64 g5):=(hb6.cell (p:=⟨w5.heap.size,2,none⟩) (by simp)).trans (by simp[go_sem]);have l3:w6.cell? ⟨w5.heap.size,3,none⟩=some (.slice a5 n5 c5):=(hb6.cell (p:=⟨w5.heap.size,3,none⟩) (by simp)).trans (by simp[go_sem]);clear hb6)|(go_at_call 67;have BA:=(Below.refl w4.heap.size w4).alloc (Nat.le_refl _) (vCells q4 T4 g4 a4 n4 c4);have B3A:=HB34.out.trans (BA.mono HB34.out.size);have B2A:=HB23.out.trans (B3A.mono HB23.out.size);have B0A:=HB4.out.trans (BA.mono HB4.out.size);refine(HPUT.out _ _ _ _ _ _ _ _ _ _ _ _ _ (HSL.out.below B3A) (HFD.out.below B2A) ((HVC.out.below B2A).mono fun _ _ _=>trivial) ((HVU.out.below BA).mono fun _ _ _=>trivial)).mono ?_;rintro e w5 ⟨⟨q5,g5,n5,c5,T5,a5,rfl,hvl⟩,hb5⟩;have HVL:=hid hvl;have HB5:=hid (B0A.trans (hb5.mono B0A.size));clear hvl hb5 BA B3A B2A B0A)|(go_at_call 66;refine(HRD.out _ _ _ HSL.out).mono ?_;rintro e w4 ⟨ho,hb4⟩;obtain⟨q4,g4,n4,c4,T4,a4,rfl,hvu⟩:=HO3.out _ _ _ ho;have HVU:=hid hvu;have HB34:=hid hb4;have HB4:=hid (HB3.out.trans (hb4.mono HB3.out.size));have z0:=(hb4.cell (p:=⟨w2.heap.size,0,none⟩) hl3).trans y0;have z1:=(hb4.cell (p:=⟨w2.heap.size,1,none⟩) hl3).trans y1;have z2:=(hb4.cell (p:=⟨w2.heap.size,2,none⟩) hl3).trans y2;have z3:=(hb4.cell (p:=⟨w2.heap.size,3,none⟩) hl3).trans y3;have hl4:=Nat.lt_of_lt_of_le hl3 hb4.size;clear ho hb4 hvu)|(go_at_call 61;refine(HRS.out _ (HM.out.below (HB2.out.alloc HB2.out.size _))).mono ?_;rintro e w3 ⟨ho,hb3⟩;obtain⟨sb,rfl,hsl⟩:=HRO.out _ _ _ ho;have HSL:=hid hsl;have HB23:=hid (below_join ((Below.refl w2.heap.size w2).alloc (Nat.le_refl _) (vCells 82 ⟨#[]⟩ 0 a n c)) hb3);have HB3:=hid (HB2.out.trans (HB23.out.mono HB2.out.size));obtain⟨f2,f3,f4⟩:=HFC.out _ _ _ (HFD.out.below HB23.out);have hl3:w2.heap.size<w3.heap.size:=Nat.lt_of_lt_of_le (by simp) hb3.size;have y0:w3.cell? ⟨w2.heap.size,0,none⟩=some (.int .u8 82):=(hb3.cell (p:=⟨w2.heap.size,0,none⟩) (by simp)).trans (by simp[go_sem]);have y1:w3.cell? ⟨w2.heap.size,1,none⟩=some (.string ⟨#[]⟩):=(hb3.cell (p:=⟨w2.heap.size,1,none⟩) (by simp)).trans (by simp[go_sem]);have y2:w3.cell? ⟨w2.heap.size,2,none⟩=some (.int .i64 0):=(hb3.cell (p:=⟨w2.heap.size,2,none⟩) (by simp)).trans (by simp[go_sem]);have y3:w3.cell? ⟨w2.heap.size,3,none⟩=some (.slice a n c):=(hb3.cell (p:=⟨w2.heap.size,3,none⟩) (by simp)).trans (by simp[go_sem]);clear ho hb3 hsl)|(go_at_call 60;refine HG.out.mono ?_;rintro e w2 ⟨ho,hb2⟩;obtain⟨fb,o,a,c,rfl,hfd,hvc⟩:=HO.out _ _ ho;have HFD:=hid hfd;have HVC:=hid hvc;have HB2:=hid hb2;clear ho hb2 hfd hvc))
    ·exact bodyPost_ret (v:=.tuple #[tx [], .bool false]) (by simp[results,Tryz.results31,go_sem, *]) rfl ⟨by rw[HF.out];rfl,HB6.out⟩
    ·exact bodyPost_ret (v:=.tuple #[.string O, .bool true]) (by simp[results,Tryz.results31,go_sem, *]) rfl ⟨by rw[HF.out];rfl,HB7.out⟩

structure WB (w wr:World) (vb base:Nat) (ta:Option Addr) (mt tc:Nat) (a:Option Addr) (m c:Nat) (gs:List Nat) (bs:List Nat):Prop where
 lt:vb<base
 le:w.heap.size≤vb
 sz:base≤wr.heap.size
 v2:wr.cell? ⟨vb,2,none⟩=some (.slice ta mt tc)
 f2:wr.frozen? ⟨vb,2,none⟩=false
 v3:wr.cell? ⟨vb,3,none⟩=some (.slice a m c)
 f3:wr.frozen? ⟨vb,3,none⟩=false
 ownT:wr.ownsRow base 3 1 (.slice ta mt tc) mt (gs.map ix)
 ownK:wr.ownsRow base 96 1 (.slice a m c) m (bs.map ptr)
 apart:∀ y,(Value.slice ta mt tc).ownBlock=some y→(Value.slice a m c).ownBlock=some y→False
 hg:gs.length=mt
 hl:bs.length=m
section
variable {w wr:World} {vb base mt tc m c:Nat} {ta a:Option Addr} {gs:List Nat} {bs:List Nat}
theorem WB.step (h:WB w wr vb base ta mt tc a m c gs bs) {w2:World} (hb:Below wr.heap.size wr w2):WB w w2 vb base ta mt tc a m c gs bs:=by
 have hv:vb<wr.heap.size:=Nat.lt_of_lt_of_le h.lt h.sz
 exact⟨h.lt,h.le,Nat.le_trans h.sz hb.size,(hb.cell (p:=⟨vb,2,none⟩) hv).trans h.v2,(hb.frozen (p:=⟨vb,2,none⟩) hv).trans h.f2,(hb.cell (p:=⟨vb,3,none⟩) hv).trans h.v3,(hb.frozen (p:=⟨vb,3,none⟩) hv).trans h.f3,owns_below h.ownT hb,owns_below h.ownK hb,h.apart,h.hg,h.hl⟩
theorem WB.putT (h:WB w wr vb base ta mt tc a m c gs bs) {wx w4:World} (hx:Below wr.heap.size wr wx) (hg:wx.grownBy w4 (Value.slice ta mt tc).ownBlock) {g cap g0:Nat}
  (ho:w4.ownsRow base 3 1 (.slice (some ⟨g,0,none⟩) (mt+1) cap) (mt+1) (gs.map ix++[ix g0])) (hat:(Value.slice ta mt tc).ownBlock=some g∨g=wx.heap.size) :
  WB w (w4.setCell ⟨vb,2,none⟩ (.slice (some ⟨g,0,none⟩) (mt+1) cap)) vb base (some ⟨g,0,none⟩) (mt+1) cap a m c (gs++[g0]) bs:=by
 have hs:=h.step hx
 have hlo:=owns_lt hs.ownT
 have hB:Below base wx w4:=below_grown2 hg (fun g hgk=>(hlo g hgk).1) hs.sz
 have hss:(w4.setCell ⟨vb,2,none⟩ (.slice (some ⟨g,0,none⟩) (mt+1) cap)).heap.size=w4.heap.size:=by simp
 have hloc:(Value.slice (some ⟨g,0,none⟩) (mt+1) cap).ownBlock=(Value.slice ta mt tc).ownBlock∨(Value.slice (some ⟨g,0,none⟩) (mt+1) cap).ownBlock=some wx.heap.size:=by
  rcases hat with hat|hat
  ·exact .inl hat.symm
  ·exact .inr (by rw[← hat];rfl)
 have hl:=h.lt
 have hkeep:∀ y,base≤y→y<wx.heap.size→some y≠(Value.slice ta mt tc).ownBlock→some y≠(Value.slice (some ⟨g,0,none⟩) (mt+1) cap).ownBlock∧(w4.setCell ⟨vb,2,none⟩ (.slice (some ⟨g,0,none⟩) (mt+1) cap)).heap[y]? = wx.heap[y]?:=fun y hy1 hy2 hy3=>by
  obtain⟨e1,e2⟩:=apart_step hg hloc hy2 hy3
  refine⟨e2, ?_⟩
  rw[Below.heap_setCell w4 ⟨vb,2,none⟩ _ _ (by show y≠vb;omega)]
  exact e1
 have hap:∀ y,(Value.slice a m c).ownBlock=some y→some y≠(Value.slice ta mt tc).ownBlock:=fun y h1 h2=>h.apart y h2.symm h1
 refine⟨h.lt,h.le,by rw[hss];exact Nat.le_trans hs.sz hB.size,World.cell?_setCell_same w4 _ _ ((hB.cell (p:=⟨vb,2,none⟩) h.lt).trans hs.v2), ?_,(World.cell?_setCell_other w4 _ _ _ (by simp)).trans ((hB.cell (p:=⟨vb,3,none⟩) h.lt).trans hs.v3), ?_, ?_,ownsRow_setCell_below (owns_grown hs.ownK hg hap) h.lt _, ?_,by rw[List.length_append,h.hg];rfl,h.hl⟩
 ·have:=(hB.frozen (p:=⟨vb,2,none⟩) h.lt).trans hs.f2
  simpa using this
 ·have:=(hB.frozen (p:=⟨vb,3,none⟩) h.lt).trans hs.f3
  simpa using this
 ·rw[List.map_append]
  exact ownsRow_setCell_below ho h.lt _
 ·intro y h1 h2
  have hk:=owns_lt hs.ownK y h2
  rcases hloc with h3|h3
  ·rw[h3] at h1;exact h.apart y h1 h2
  ·rw[h3] at h1;have:=Option.some.inj h1;omega
theorem WB.putK (h:WB w wr vb base ta mt tc a m c gs bs) {wx w4:World} (hx:Below wr.heap.size wr wx) (hg:wx.grownBy w4 (Value.slice a m c).ownBlock) {g cap b:Nat}
  (ho:w4.ownsRow base 96 1 (.slice (some ⟨g,0,none⟩) (m+1) cap) (m+1) (bs.map ptr++[ptr b])) (hat:(Value.slice a m c).ownBlock=some g∨g=wx.heap.size) :
  WB w (w4.setCell ⟨vb,3,none⟩ (.slice (some ⟨g,0,none⟩) (m+1) cap)) vb base ta mt tc (some ⟨g,0,none⟩) (m+1) cap gs (bs++[b]):=by
 have hs:=h.step hx
 have hlo:=owns_lt hs.ownK
 have hB:Below base wx w4:=below_grown2 hg (fun g hgk=>(hlo g hgk).1) hs.sz
 have hss:(w4.setCell ⟨vb,3,none⟩ (.slice (some ⟨g,0,none⟩) (m+1) cap)).heap.size=w4.heap.size:=by simp
 have hloc:(Value.slice (some ⟨g,0,none⟩) (m+1) cap).ownBlock=(Value.slice a m c).ownBlock∨(Value.slice (some ⟨g,0,none⟩) (m+1) cap).ownBlock=some wx.heap.size:=by
  rcases hat with hat|hat
  ·exact .inl hat.symm
  ·exact .inr (by rw[← hat];rfl)
 have hl:=h.lt
 have hkeep:∀ y,base≤y→y<wx.heap.size→some y≠(Value.slice a m c).ownBlock→some y≠(Value.slice (some ⟨g,0,none⟩) (m+1) cap).ownBlock∧(w4.setCell ⟨vb,3,none⟩ (.slice (some ⟨g,0,none⟩) (m+1) cap)).heap[y]? = wx.heap[y]?:=fun y hy1 hy2 hy3=>by
  obtain⟨e1,e2⟩:=apart_step hg hloc hy2 hy3
  refine⟨e2, ?_⟩
  rw[Below.heap_setCell w4 ⟨vb,3,none⟩ _ _ (by show y≠vb;omega)]
  exact e1
 have hap:∀ y,(Value.slice ta mt tc).ownBlock=some y→some y≠(Value.slice a m c).ownBlock:=fun y h1 h2=>h.apart y h1 h2.symm
 refine⟨h.lt,h.le,by rw[hss];exact Nat.le_trans hs.sz hB.size,(World.cell?_setCell_other w4 _ _ _ (by simp)).trans ((hB.cell (p:=⟨vb,2,none⟩) h.lt).trans hs.v2), ?_,World.cell?_setCell_same w4 _ _ ((hB.cell (p:=⟨vb,3,none⟩) h.lt).trans hs.v3), ?_,ownsRow_setCell_below (owns_grown hs.ownT hg hap) h.lt _, ?_, ?_,h.hg,by rw[List.length_append,h.hl];rfl⟩
 ·have:=(hB.frozen (p:=⟨vb,2,none⟩) h.lt).trans hs.f2
  simpa using this
 ·have:=(hB.frozen (p:=⟨vb,3,none⟩) h.lt).trans hs.f3
  simpa using this
 ·rw[List.map_append]
  exact ownsRow_setCell_below ho h.lt _
 ·intro y h1 h2
  have hk:=owns_lt hs.ownT y h1
  rcases hloc with h3|h3
  ·rw[h3] at h2;exact h.apart y h1 h2
  ·rw[h3] at h2;have:=Option.some.inj h2;omega
end

theorem LkOut.form {l kt:List UInt8} {lo:Nat} {e:Ending} {w':World} (h:LkOut l kt lo e w'):∃ a n c b,e=.returned (.tuple #[.slice a n c, .bool b]):=by
 unfold LkOut at h
 cases hk:kindOf l kt with
 | none=>rw[hk] at h;obtain⟨a,n,c,rfl⟩:=h;exact⟨_,_,_,_,rfl⟩
 | some y=>rw[hk] at h;obtain⟨b,a,c,rfl,_⟩:=h;exact⟨_,_,_,_,rfl⟩

def DrV (x:Wf.Sc) (v:Value) (rb lo bsc:Nat) (d:Int) (k:Wf.K) (C B N:Nat):Prop:=∀ (w:World) (k0:Nat),Rd w rb k0→k0+C≤900000→ScSp w lo bsc v x→rb<lo→Calls Tryz.prog 100 #[.pointer (some ⟨rb,0,none⟩),v,tx k.text, .int .i64 d] w fun e w'=>∃ (u:Wf.V) (p:Nat),e=.returned (ptr p)∧Wf.Typed x N k u∧u.print.length≤B∧LV w' (fun z=>w.heap.size≤z) u p∧Rd w' rb (k0+C)∧Beside rb w w'
theorem DrV.mono {x:Wf.Sc} {v:Value} {rb lo bsc:Nat} {d:Int} {k:Wf.K} {C B N C' B' N':Nat} (h:DrV x v rb lo bsc d k C B N) (hC:C≤C') (hB:B≤B') (hN:N≤N'):DrV x v rb lo bsc d k C' B' N':=fun w k0 hr hk hs hl =>
 (h w k0 hr (by omega) hs hl).mono fun e w' ⟨u,p,h1,h2,h3,h4,h5,h6⟩=>⟨u,p,h1,Wf.typed_mono _ _ _ h2 _ hN,by omega,h4,h5.mono (by omega),h6⟩
abbrev vNew (KT:ByteArray):Obj:=.cells #[.string KT, .string ⟨#[]⟩, .slice none 0 0, .slice none 0 0] 142
theorem vNew_cells {w w3:World} {rb:Nat} {KT:ByteArray} (hr:rb<w.heap.size) (hb:Beside rb (w.alloc (vNew KT)) w3):w.heap.size<w3.heap.size∧w3.cell? ⟨w.heap.size,0,none⟩=some (.string KT)∧w3.cell? ⟨w.heap.size,1,none⟩=some (.string ⟨#[]⟩)∧w3.cell? ⟨w.heap.size,2,none⟩=some (.slice none 0 0)∧w3.cell? ⟨w.heap.size,3,none⟩=some (.slice none 0 0)∧w3.frozen? ⟨w.heap.size,1,none⟩=false∧w3.frozen? ⟨w.heap.size,2,none⟩=false∧w3.frozen? ⟨w.heap.size,3,none⟩=false:=by
 have hlt:w.heap.size<(w.alloc (vNew KT)).heap.size:=by simp
 have hne:w.heap.size≠rb:=by omega
 have hblk:=hb.block w.heap.size hlt hne
 have cd:=fun o=>World.cell?_of_block (w:=w.alloc (vNew KT)) (w':=w3) (a:=⟨w.heap.size,o,none⟩) hblk
 have cf:=fun o=>World.frozen?_of_block (w:=w.alloc (vNew KT)) (w':=w3) (a:=⟨w.heap.size,o,none⟩) hblk
 refine⟨Nat.lt_of_lt_of_le hlt hb.size,(cd 0).trans ?_,(cd 1).trans ?_,(cd 2).trans ?_,(cd 3).trans ?_,(cf 1).trans ?_,(cf 2).trans ?_,(cf 3).trans ?_⟩ <;> simp[vNew,go_sem]
theorem LV.leaf {w w3:World} {rb:Nat} {KT X:ByteArray} {what:UInt8} {text:List UInt8} (hr:rb<w.heap.size) (hb:Beside rb (w.alloc (vNew KT)) w3) (hs:shapeR what text KT.data.toList X.data.toList) (h61:what≠61) (ht:tagsOf what 0 []=[]):LV (w3.setCell ⟨w.heap.size,1,none⟩ (.string X)) (fun z=>w.heap.size≤z) (.mk what text 0 []) w.heap.size:=by
 obtain⟨hlt,c0,c1,c2,c3,_,_,_⟩:=vNew_cells hr hb
 refine LV.mk (kd:=KT.data.toList) (t:=X.data.toList) (bs:=[]) (tb:=0) (kb:=0) (tv:=.slice none 0 0) (kv:=.slice none 0 0) h61 (Nat.le_refl _) (by simpa using hlt) ((World.cell?_setCell_other w3 _ _ _ (by simp)).trans c0) (World.cell?_setCell_same w3 _ _ c1) ((World.cell?_setCell_other w3 _ _ _ (by simp)).trans c2) ((World.cell?_setCell_other w3 _ _ _ (by simp)).trans c3) (by rw[ht];exact row_nil _ _) (.inl ht) (row_nil _ _) (.inl rfl) hs (by simp only[LVs])
section
variable (x:Wf.Sc) (v:Value) (rb lo bsc:Nat) (d:Int)
end

theorem ScSp.beside {w w':World} {lo b rb:Nat} {v:Value} {x:Wf.Sc} (h:ScSp w lo b v x) (hb:Beside rb w w') (hr:rb<lo):ScSp w' lo b v x:=by
 obtain⟨cs,h0,h1,h2,h3⟩:=h
 refine⟨cs,h0,h1.keep hb.size fun hx=>hb.block b hx (by omega),h2,fun i hi hi' => ?_⟩
 obtain⟨fb,a,c,e1,e0,e2⟩:=h3 i hi hi'
 exact⟨fb,a,c,e1,e0,e2.keep hb.size fun hx=>hb.block fb hx (by omega)⟩
theorem KB.new {w:World} {KT:ByteArray}:KB w (w.alloc (vNew KT)) w.heap.size (w.heap.size+1) none 0 0 [] []:=by
 refine⟨by omega,Nat.le_refl _,by simp, ?_, ?_,World.ownsRow_nil _ _ _ _,rfl,by simp only[LVs]⟩
 all_goals (simp[vNew,go_sem];done)
theorem LV.empty {w w3:World} {rb:Nat} {KT:ByteArray} {what:UInt8} (hr:rb<w.heap.size) (hb:Beside rb (w.alloc (vNew KT)) w3) (hs:shapeR what [] KT.data.toList []) (h61:what≠61) (ht:tagsOf what 0 []=[]):LV w3 (fun z=>w.heap.size≤z) (.mk what [] 0 []) w.heap.size:=by
 obtain⟨hlt,c0,c1,c2,c3,_,_,_⟩:=vNew_cells hr hb
 exact LV.mk (kd:=KT.data.toList) (t:=[]) (bs:=[]) (tb:=0) (kb:=0) h61 (Nat.le_refl _) hlt c0 c1 c2 c3 (by rw[ht];exact row_nil _ _) (.inl ht) (row_nil _ _) (.inl rfl) hs (by simp only[LVs])
section
variable (x:Wf.Sc) (v:Value) (rb lo bsc:Nat) (d:Int)
end
end Go.Proofs.YtmdacedmjbiekaaGreatDoor
