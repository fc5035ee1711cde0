/- Packed. -/
import Derived.Test.YtidjpalnmnehmaaGreatDoorP31
set_option maxRecDepth 99999
set_option maxHeartbeats 40000000
set_option linter.all false
namespace Go.Proofs.YtidjpalnmnehmaaGreatDoor
open Go.ChangeShapes Go.WideShapes Go.ChangeAt Go.RowKit Go.Lib
theorem pJ {p:UInt8->Bool}:∀ {l:List UInt8} {i:Nat},i<(l.takeWhile p).length->∃ c,l[i]? = some c/\p c=true:=by
 intro l;induction l with
 | nil=>intro i h;simp at h
 | cons a l ih =>
  intro i h;by_cases ha:p a=true
  ·rw[List.takeWhile_cons_of_pos ha] at h
   cases i with
   | zero=>exact⟨a,rfl,ha⟩
   | succ i=>exact ih (by simpa using h)
  ·rw[List.takeWhile_cons_of_neg ha] at h;simp at h
theorem rC {p:UInt8->Bool}:∀ {l:List UInt8} {c:UInt8},l[(l.takeWhile p).length]? = some c->p c=false:=by
 intro l;induction l with
 | nil=>intro c h;simp at h
 | cons a l ih =>
  intro c h;by_cases ha:p a=true
  ·rw[List.takeWhile_cons_of_pos ha] at h
   exact ih (by simpa using h)
  ·rw[List.takeWhile_cons_of_neg ha] at h
   simp at h;subst h;simpa using ha
theorem gI (p:UInt8->Bool) (l:List UInt8):(l.takeWhile p).length<=l.length:=(List.takeWhile_prefix p).length_le
theorem uV (p:UInt8->Bool) (l:List UInt8):l.take (l.takeWhile p).length=l.takeWhile p:=(List.prefix_iff_eq_take.1 (List.takeWhile_prefix p)).symm
theorem kM (p:UInt8->Bool) (l:List UInt8):l.drop (l.takeWhile p).length=l.dropWhile p:=by
 have h:=List.takeWhile_append_dropWhile (p:=p) (l:=l);have h2:(l.takeWhile p++l.dropWhile p).drop (l.takeWhile p).length=l.dropWhile p:=List.drop_left;rw[h] at h2;exact h2
theorem kA (s:ByteArray) (w:World) (hs:s.size<=1048576):Calls Tryz.prog 125 #[.string s] w fun e w'=>e=.returned (.int .i64 ((s.data.toList.takeWhile Wf.aB).length:Nat))/\w=w':=by
 obtain⟨T,hT⟩:∃ T,(s.data.toList.takeWhile Wf.aB).length=T:=⟨_,rfl⟩;have hle:T<=s.size:=by rw[<-hT,<-aD];exact gI _ _
 have HIN:=hid fun(i:Nat) (h:i<T)=>(by rw[<-hT] at h;exact pJ h:∃ c,s.data.toList[i]? = some c/\Wf.aB c=true);have HAT:=hid fun(c:UInt8) (h:s.data.toList[T]? = some c)=>(by rw[<-hT] at h;exact rC h:Wf.aB c=false);rw[hT];clear hT;go_enter Tryz.func125,Tryz.ntmps125;go_wp2_with fail
 go_loop [3] (fun v=>∃ i:Nat,i<=T/\v=.int .i64 i) (fun v=>T-(RowKit.intOf v).toNat)
 case atStart=>exact⟨0,Nat.zero_le _,rfl⟩
 case round =>
  obtain⟨i,hi,rfl⟩:=hrel;by_cases hlt:i<T
  ·have his:i<s.size:=by omega
   obtain⟨c,hc,e1⟩:=byte_at s i his;obtain⟨c',hc',hd⟩:=HIN.out i hlt;rw[hc] at hc';obtain rfl:=Option.some.inj hc';obtain⟨b,hb⟩:∃ b,c.toNat=b:=⟨_,rfl⟩;rw[hb] at e1;have h1:48<=b:=(by simp[Wf.aB] at hd;omega);have h2:b<=57:=(by simp[Wf.aB] at hd;omega);clear hc hc' hd hb;go_wp2_with fail
   go_round
   case rel=>exact⟨i+1,by omega,by go_num⟩
   case measure=>simp[RowKit.intOf];omega
  ·have hiT:i=T:=by omega
   subst hiT;by_cases his:i<s.size
   ·obtain⟨c,hc,e1⟩:=byte_at s i his
    have hd:=HAT.out c hc;obtain⟨b,hb⟩:∃ b,c.toNat=b:=⟨_,rfl⟩;rw[hb] at e1;by_cases h1:48<=b
    ·have h2:57<b:=by
      simp[Wf.aB] at hd;omega
     clear hc hd hb;go_wp2_with fail
     go_ret
     exact⟨rfl,rfl⟩
    ·have h2:b<48:=by omega
     clear hc hd hb h1;go_wp2_with fail
     go_ret
     exact⟨rfl,rfl⟩
   ·go_wp2_with fail
    go_ret
    exact⟨rfl,rfl⟩
theorem gT (S:ByteArray) (T:Nat) (h:T<=S.size):∀ wz,(Instr.slice 9 (.string S) none (some (.int .i64 T)) none).run Tryz.prog wz=.ok (.string (S.extract 0 T)) wz:=fun wz=>by
 have:=run_slice_string_h (P:=Tryz.prog) wz 9 S Tryz.underlying9 .i64 (T:Int) (by omega) (by omega);rw[this,Int.toNat_natCast]
theorem bK (S:ByteArray) (T:Nat) (h:T<=S.size):∀ wz,(Instr.slice 9 (.string S) (some (.int .i64 T)) none none).run Tryz.prog wz=.ok (.string (S.extract T S.size)) wz:=fun wz=>by
 have:=run_slice_string_l (P:=Tryz.prog) wz 9 S Tryz.underlying9 .i64 (T:Int) (by omega) (by omega);rw[this,Int.toNat_natCast]
theorem lZ (S:ByteArray) (p:UInt8->Bool):(S.extract 0 (S.data.toList.takeWhile p).length).data.toList=S.data.toList.takeWhile p:=by
 rw[bJ,List.drop_zero,Nat.sub_zero,uV]
theorem cN (S:ByteArray) (T:Nat):(S.extract T S.size).data.toList=S.data.toList.drop T:=by
 rw[bJ,List.take_of_length_le (by rw[List.length_drop,aD];exact Nat.le_refl _)]
structure jH (wr:World) (b:Nat):Prop where
 lt:b<wr.heap.size
 r0:wr.cell? ⟨b,0,none⟩=some (.int .i64 0)
 r1:wr.cell? ⟨b,1,none⟩=some (.string ⟨#[]⟩)
 r2:wr.cell? ⟨b,2,none⟩=some (.string ⟨#[]⟩)
 r3:wr.cell? ⟨b,3,none⟩=some (.string ⟨#[]⟩)
 f0:wr.frozen? ⟨b,0,none⟩=false
 f1:wr.frozen? ⟨b,1,none⟩=false
 f2:wr.frozen? ⟨b,2,none⟩=false
 f3:wr.frozen? ⟨b,3,none⟩=false
theorem jH.below {wr w2:World} {b B:Nat} (h:jH wr b) (hb:Below B wr w2) (hr:b<B):jH w2 b:=by
 have h1:=hb.block b hr;have cd:=fun o=>World.cell?_of_block (w:=wr) (w':=w2) (a:=⟨b,o,none⟩) h1;have cf:=fun o=>World.frozen?_of_block (w:=wr) (w':=w2) (a:=⟨b,o,none⟩) h1;exact⟨Nat.lt_of_lt_of_le h.lt hb.size,(cd 0).trans h.r0,(cd 1).trans h.r1,(cd 2).trans h.r2,(cd 3).trans h.r3,(cf 0).trans h.f0,(cf 1).trans h.f1,(cf 2).trans h.f2,(cf 3).trans h.f3⟩
theorem tJ (w:World) (v:Value) (q n c:Nat) (N:ByteArray) (fa:Option Addr) (W1:World) (hW1:((w.alloc (.cells #[v] 99)).alloc (.cells #[.int .u8 q,.string N,.slice fa n c] 143)).alloc (.cells #[.int .i64 0,.string ⟨#[]⟩,.string ⟨#[]⟩,.string ⟨#[]⟩] 163)=W1) :
  W1.cell? ⟨w.heap.size+1,0,none⟩=some (.int .u8 q)/\W1.cell? ⟨w.heap.size+1,1,none⟩=some (.string N)/\W1.cell? ⟨w.heap.size+1,2,none⟩=some (.slice fa n c)/\jH W1 (w.heap.size+1+1)/\Below w.heap.size w W1:=by
 have hB:Below w.heap.size w W1:=by
  rw[<-hW1];exact((((Below.refl _ _).alloc (Nat.le_refl _) _).alloc (by simp) _).alloc (by simp;omega) _)
 subst hW1;refine⟨?_,?_,?_,⟨?_,?_,?_,?_,?_,?_,?_,?_,?_⟩,hB⟩;all_goals first|(simp[go_sem];done)|(simp[go_sem];omega)
def tagF (t:Wf.Ty) (s:List UInt8):Option Wf.Fd:=(Wf.aG (s.takeWhile Wf.aB) 200).bind t.field
def bU (t:Wf.Ty) (s:List UInt8) (e:Ending):Prop:=match tagF t s with
 | some f=>e=.returned (.tuple #[.agg #[.int .i64 f.tag,tx f.name,tx (if t.sort=69 then [] else f.kind.text),tx f.given],tx (s.dropWhile Wf.aB),.bool true])
 | none=>∃ (m:Int) (a b c:ByteArray),e=.returned (.tuple #[.agg #[.int .i64 m,.string a,.string b,.string c],tx (s.dropWhile Wf.aB),.bool false])
theorem pM (v:Value) (S:ByteArray) (hS:S.size<=1048576) (q n c:Nat) (N:ByteArray) (fa:Option Addr) (m g':Int) (A B C:ByteArray) (b1 b2:Bool) (w:World)
  (hnum:∀ wz,Calls Tryz.prog 52 #[.string (S.extract 0 (S.data.toList.takeWhile Wf.aB).length),.int .i64 200] wz fun e w'=>e=.returned (.tuple #[.int .i64 m,.bool b1])/\Below wz.heap.size wz w')
  (hfld:∀ wz,Below w.heap.size w wz->Calls Tryz.prog 150 #[.agg #[.int .u8 q,.string N,.slice fa n c],.int .i64 m] wz fun e w'=>e=.returned (.tuple #[.agg #[.int .i64 g',.string A,.string B,.string C],.bool b2])/\Below wz.heap.size wz w') :
  Calls Tryz.prog 124 #[.agg #[v],.string S,.agg #[.int .u8 q,.string N,.slice fa n c]] w fun e w'=>e=.returned (.tuple #[.agg #[.int .i64 g',.string A,.string B,.string C],tx (S.data.toList.dropWhile Wf.aB),.bool (b1&&b2)])/\Below w.heap.size w w':=by
 have HDG:=hid fun wz=>kA S wz hS;obtain⟨T,hT⟩:∃ T,(S.data.toList.takeWhile Wf.aB).length=T:=⟨_,rfl⟩;have hle:T<=S.size:=by rw[<-hT,<-aD];exact gI _ _
 have k1:=gT S T hle;have k2:=bK S T hle;have HR:=hid (show(⟨(S.data.toList.dropWhile Wf.aB).toArray⟩:ByteArray)=S.extract T S.size by rw[aR,cN,<-hT,kM]);rw[hT] at hnum HDG;have HNUM:=hid hnum;have HFLD:=hid hfld;have ST:=hid fun W1 h=>tJ w v q n c N fa W1 h;clear hnum hfld hT;cases b1 <;> cases b2;all_goals
  go_enter Tryz.func124,Tryz.ntmps124;go_wp2_with (first|(go_at_call 150;refine(HFLD.out _ B2.out).mono ?_;rintro e w3 ⟨rfl,hb3⟩;have B3:=hid (B2.out.trans (hb3.mono B2.out.size));obtain⟨zl,zr0,zr1,zr2,zr3,zf0,zf1,zf2,zf3⟩:=Z2.out.below hb3 Z2.out.lt;clear hb3)|(go_at_call 52;obtain⟨t0,t1,t2,z0,b0⟩:=ST.out _ rfl;refine(HNUM.out _).mono ?_;rintro e w2 ⟨rfl,hb2⟩;have hlt1:=Nat.lt_of_lt_of_le (Nat.lt_succ_self _) (Nat.le_of_lt z0.lt);have u0:=(hb2.cell (p:=⟨w.heap.size+1,0,none⟩) hlt1).trans t0;have u1:=(hb2.cell (p:=⟨w.heap.size+1,1,none⟩) hlt1).trans t1;have u2:=(hb2.cell (p:=⟨w.heap.size+1,2,none⟩) hlt1).trans t2;have hl2:=Nat.lt_of_lt_of_le hlt1 hb2.size;have B2:=hid (aC b0 hb2);have Z2:=hid (z0.below hb2 z0.lt);clear hb2 t0 t1 t2 z0 b0 hlt1)|(go_at_call 125;refine(HDG.out _).mono ?_;rintro e w1 ⟨rfl,rfl⟩))
  go_region
  all_goals (go_wp2_with fail)
  all_goals first|exact bodyPost_ret (v:=.tuple #[.agg #[.int .i64 g',.string A,.string B,.string C],.string (S.extract T S.size),.bool false]) (by simp[results,Tryz.results124,go_sem, *]) rfl ⟨by rw[<-HR.out];rfl,by have BB:=B3.out;have hB:=BB.size;repeat (first|with_reducible exact BB|with_reducible refine Below.drew ?_|with_reducible refine Below.setCell ?_ (by first|(simp;done)|(simp;omega)) _|with_reducible refine Below.alloc ?_ (by first|exact BB.size|(simp;omega)) _)⟩|exact bodyPost_ret (v:=.tuple #[.agg #[.int .i64 g',.string A,.string B,.string C],.string (S.extract T S.size),.bool true]) (by simp[results,Tryz.results124,go_sem, *]) rfl ⟨by rw[<-HR.out];rfl,by have BB:=B3.out;have hB:=BB.size;repeat (first|with_reducible exact BB|with_reducible refine Below.drew ?_|with_reducible refine Below.setCell ?_ (by first|(simp;done)|(simp;omega)) _|with_reducible refine Below.alloc ?_ (by first|exact BB.size|(simp;omega)) _)⟩
theorem vC (v:Value) (S:ByteArray) (hS:S.size<=1048576) (q n c:Nat) (N:ByteArray) (fa:Option Addr) (w:World)
  (hnum:∀ wz,Calls Tryz.prog 52 #[.string (S.extract 0 (S.data.toList.takeWhile Wf.aB).length),.int .i64 200] wz fun e w'=>(∃ m:Int,e=.returned (.tuple #[.int .i64 m,.bool false]))/\Below wz.heap.size wz w')
  (hfld:∀ (m:Int) wz,Below w.heap.size w wz->Calls Tryz.prog 150 #[.agg #[.int .u8 q,.string N,.slice fa n c],.int .i64 m] wz fun e w'=>(∃ (g':Int) (A B C:ByteArray) (b2:Bool),e=.returned (.tuple #[.agg #[.int .i64 g',.string A,.string B,.string C],.bool b2]))/\Below wz.heap.size wz w') :
  Calls Tryz.prog 124 #[.agg #[v],.string S,.agg #[.int .u8 q,.string N,.slice fa n c]] w fun e w'=>(∃ (g':Int) (A B C:ByteArray),e=.returned (.tuple #[.agg #[.int .i64 g',.string A,.string B,.string C],tx (S.data.toList.dropWhile Wf.aB),.bool false]))/\Below w.heap.size w w':=by
 have HDG:=hid fun wz=>kA S wz hS;obtain⟨T,hT⟩:∃ T,(S.data.toList.takeWhile Wf.aB).length=T:=⟨_,rfl⟩;have hle:T<=S.size:=by rw[<-hT,<-aD];exact gI _ _
 have k1:=gT S T hle;have k2:=bK S T hle;have HR:=hid (show(⟨(S.data.toList.dropWhile Wf.aB).toArray⟩:ByteArray)=S.extract T S.size by rw[aR,cN,<-hT,kM]);rw[hT] at hnum HDG;have HNUM:=hid hnum;have HFLD:=hid hfld;have ST:=hid fun W1 h=>tJ w v q n c N fa W1 h;clear hnum hfld hT;go_enter Tryz.func124,Tryz.ntmps124;go_wp2_with (first|(go_at_call 150;refine(HFLD.out _ _ B2.out).mono ?_;rintro e w3 ⟨⟨g',A,B,C,b2,rfl⟩,hb3⟩;have B3:=hid (B2.out.trans (hb3.mono B2.out.size));obtain⟨zl,zr0,zr1,zr2,zr3,zf0,zf1,zf2,zf3⟩:=Z2.out.below hb3 Z2.out.lt;clear hb3)|(go_at_call 52;obtain⟨t0,t1,t2,z0,b0⟩:=ST.out _ rfl;refine(HNUM.out _).mono ?_;rintro e w2 ⟨⟨m,rfl⟩,hb2⟩;have hlt1:=Nat.lt_of_lt_of_le (Nat.lt_succ_self _) (Nat.le_of_lt z0.lt);have u0:=(hb2.cell (p:=⟨w.heap.size+1,0,none⟩) hlt1).trans t0;have u1:=(hb2.cell (p:=⟨w.heap.size+1,1,none⟩) hlt1).trans t1;have u2:=(hb2.cell (p:=⟨w.heap.size+1,2,none⟩) hlt1).trans t2;have hl2:=Nat.lt_of_lt_of_le hlt1 hb2.size;have B2:=hid (aC b0 hb2);have Z2:=hid (z0.below hb2 z0.lt);clear hb2 t0 t1 t2 z0 b0 hlt1)|(go_at_call 125;refine(HDG.out _).mono ?_;rintro e w1 ⟨rfl,rfl⟩))
 go_region
 all_goals (go_wp2_with fail)
 all_goals exact bodyPost_ret (v:=.tuple #[.agg #[.int .i64 g',.string A,.string B,.string C],.string (S.extract T S.size),.bool false]) (by simp[results,Tryz.results124,go_sem, *]) rfl ⟨⟨g',A,B,C,by rw[<-HR.out]⟩,by have BB:=B3.out;have hB:=BB.size;repeat (first|with_reducible exact BB|with_reducible refine Below.drew ?_|with_reducible refine Below.setCell ?_ (by first|(simp;done)|(simp;omega)) _|with_reducible refine Below.alloc ?_ (by first|exact BB.size|(simp;omega)) _)⟩
theorem lG (t:Wf.Ty) (ht:t.fields.length<=1000) (v:Value) (S:ByteArray) (hS:S.size<=1048576) (fb c:Nat) (fa:Option Addr) (W w:World) (hW:Below W.heap.size W w) (H:RowK W fb (.slice fa t.fields.length c) 4 (t.fields.map (fdS t.sort))) :
  Calls Tryz.prog 124 #[.agg #[v],.string S,.agg #[.int .u8 t.sort.toNat,tx t.name,.slice fa t.fields.length c]] w fun e w'=>bU t S.data.toList e/\Below w.heap.size w w':=by
 have hle:(S.extract 0 (S.data.toList.takeWhile Wf.aB).length).size<=9223372036854775807:=by rw[ByteArray.size_extract];omega
 have hnum:=fun wz=>gZ (S.extract 0 (S.data.toList.takeWhile Wf.aB).length) 200 (by omega) wz hle;rw[lZ] at hnum;have hf:=fun(g:Int) (wz:World) (hz:Below w.heap.size w wz)=>vH t ht g t.sort.toNat ⟨t.name.toArray⟩ fb fa c W wz (hW.trans (hz.mono hW.size)) H;cases hp:Wf.aG (S.data.toList.takeWhile Wf.aB) 200 with
 | none =>
  refine(vC v S hS t.sort.toNat t.fields.length c ⟨t.name.toArray⟩ fa w (fun wz=>(hnum wz).mono fun e w' ⟨h1,h2⟩=>⟨by unfold aY at h1;rw[hp] at h1;exact h1,h2⟩) (fun m wz hz=>(hf m wz hz).mono fun e w' ⟨h1,h2⟩=>⟨?_,h2⟩)).mono fun e w' ⟨h1,h2⟩=>⟨?_,h2⟩
  ·rw[h1]
   cases bB t m with
   | none=>exact⟨_,_,_,_,_,rfl⟩
   | some f=>exact⟨_,_,_,_,_,rfl⟩
  ·unfold bU tagF
   rw[hp];exact h1
 | some g =>
  have h1:∀ wz,Calls Tryz.prog 52 #[.string (S.extract 0 (S.data.toList.takeWhile Wf.aB).length),.int .i64 200] wz fun e w'=>e=.returned (.tuple #[.int .i64 g,.bool true])/\Below wz.heap.size wz w':=fun wz=>(hnum wz).mono fun e w' ⟨h1,h2⟩=>⟨by unfold aY at h1;rw[hp] at h1;exact h1,h2⟩;cases hg:t.field g with
  | none =>
   refine(pM v S hS t.sort.toNat t.fields.length c ⟨t.name.toArray⟩ fa g 0 ⟨#[]⟩ ⟨#[]⟩ ⟨#[]⟩ true false w h1 (fun wz hz=>(hf g wz hz).mono fun e w' ⟨h3,h4⟩=>⟨by rw[h3,eW,hg];rfl,h4⟩)).mono fun e w' ⟨h5,h6⟩=>⟨?_,h6⟩;unfold bU tagF;rw[hp,h5];simp only[Option.bind_some,hg];exact⟨_,_,_,_,rfl⟩
  | some f =>
   refine(pM v S hS t.sort.toNat t.fields.length c ⟨t.name.toArray⟩ fa g f.tag ⟨f.name.toArray⟩ ⟨(if t.sort=69 then [] else f.kind.text).toArray⟩ ⟨f.given.toArray⟩ true true w h1 (fun wz hz=>(hf g wz hz).mono fun e w' ⟨h3,h4⟩=>⟨by rw[h3,eW,hg];rfl,h4⟩)).mono fun e w' ⟨h5,h6⟩=>⟨?_,h6⟩;unfold bU tagF;rw[hp,h5];simp only[Option.bind_some,hg];rfl

def aE (o:Option (Wf.V × List UInt8)) (w:World) (e:Ending) (w':World):Prop:=match o with
 | some y=>∃ b,e=.returned (.tuple #[ptr b,tx y.2,.bool true])/\LV w' (fun z=>w.heap.size<=z) y.1 b
 | none=>∃ (p:Option Addr) (r:ByteArray),e=.returned (.tuple #[.pointer p,.string r,.bool false])
theorem aE.no {o:Option (Wf.V × List UInt8)} {w w':World} {e:Ending} (h:o=none) (he:∃ (p:Option Addr) (r:ByteArray),e=.returned (.tuple #[.pointer p,.string r,.bool false])):aE o w e w':=by
 subst h;exact he
theorem aE.yes {o:Option (Wf.V × List UInt8)} {w w':World} {e:Ending} {v:Wf.V} {r:List UInt8} (h:o=some (v,r)) (he:∃ b,e=.returned (.tuple #[ptr b,tx r,.bool true])/\LV w' (fun z=>w.heap.size<=z) v b):aE o w e w':=by
 subst h;exact he
theorem dU (w:World) (b:Nat):aH w b (.slice none 0 0) []:=⟨none,0,rfl,Nat.le_refl _,by unfold maxLen;omega,.inl rfl⟩
theorem LV.new {w W:World} {P:Nat->Prop} {what:UInt8} {text kd t:List UInt8} {tag:Nat} (h61:what≠61) (hs:aZ what text kd t) (ht:bG what tag []=[]) (hp:P w.heap.size) (hlt:w.heap.size<W.heap.size)
  (c0:W.cell? ⟨w.heap.size,0,none⟩=some (tx kd)) (c1:W.cell? ⟨w.heap.size,1,none⟩=some (tx t)) (c2:W.cell? ⟨w.heap.size,2,none⟩=some (.slice none 0 0)) (c3:W.cell? ⟨w.heap.size,3,none⟩=some (.slice none 0 0)):LV W P (.mk what text tag []) w.heap.size :=
 LV.mk (bs:=[]) (tb:=0) (kb:=0) h61 hp hlt c0 c1 c2 c3 (by rw[ht];exact dU _ _) (.inl ht) (dU _ _) (.inl rfl) hs (by simp only[LVs])
theorem a1L (x:Wf.Sc) (n:Nat) (v:Value) (S:ByteArray) (hS:S.size<=1048576) (w:World):Calls Tryz.prog 88 #[.agg #[v],.string S,tx [110]] w fun e w'=>aE (Wf.parse x (n+1) .num S.data.toList) w e w'/\Below w.heap.size w w':=by
 have HDG:=hid fun wz=>kA S wz hS;have hle:(S.extract 0 (S.data.toList.takeWhile Wf.aB).length).size<=9223372036854775807:=by rw[ByteArray.size_extract];omega
 have hnum:=fun wz=>gZ (S.extract 0 (S.data.toList.takeWhile Wf.aB).length) 999999 (by omega) wz hle;rw[lZ] at hnum;obtain⟨T,hT⟩:∃ T,(S.data.toList.takeWhile Wf.aB).length=T:=⟨_,rfl⟩;have hTle:T<=S.size:=by rw[<-hT,<-aD];exact gI _ _
 have k1:=gT S T hTle;have k2:=bK S T hTle;have HX:=hid (show S.extract 0 T=⟨(S.data.toList.takeWhile Wf.aB).toArray⟩ by rw[aR,<-hT,lZ]);have HR:=hid (show S.extract T S.size=⟨(S.data.toList.dropWhile Wf.aB).toArray⟩ by rw[aR,cN,<-hT,kM]);rw[hT] at HDG hnum;obtain⟨X1,hX1⟩:∃ X1,S.extract 0 T=X1:=⟨_,rfl⟩;obtain⟨X2,hX2⟩:∃ X2,S.extract T S.size=X2:=⟨_,rfl⟩;rw[hX1] at k1 HX hnum;rw[hX2] at k2 HR;cases hp:Wf.aG (S.data.toList.takeWhile Wf.aB) 999999 with
 | none =>
  have HP:=hid (show Wf.parse x (n+1) .num S.data.toList=none by rw[Wf.jF,Wf.aO,hp];rfl);have HNUM:=hid fun wz=>(hnum wz).mono (R':=fun e w'=>(∃ m:Int,e=.returned (.tuple #[.int .i64 m,.bool false]))/\Below wz.heap.size wz w') fun e w' ⟨h1,h2⟩=>⟨by unfold aY at h1;rw[hp] at h1;exact h1,h2⟩;clear hnum hp hT hX1 hX2;go_enter Tryz.func88,Tryz.ntmps88;go_wp2_with (first|(go_at_call 52;refine(HNUM.out _).mono ?_;rintro e w2 ⟨⟨m,rfl⟩,hb2⟩;have B2:=hid (aC ((Below.refl _ _).alloc (Nat.le_refl _) _) hb2);clear hb2)|(go_at_call 125;refine(HDG.out _).mono ?_;rintro e w1 ⟨rfl,rfl⟩))
  go_region
  all_goals (go_wp2_with fail)
  all_goals exact bodyPost_ret (v:=.tuple #[ptr w2.heap.size,.string X2,.bool false]) (by simp[results,Tryz.results88,go_sem, *]) rfl ⟨aE.no HP.out ⟨_,_,rfl⟩,by have BB:=B2.out;have hB:=BB.size;repeat (first|with_reducible exact BB|with_reducible refine Below.drew ?_|with_reducible refine Below.alloc ?_ (by first|exact BB.size|(simp;omega)) _)⟩
 | some g =>
  have HP:=hid (show Wf.parse x (n+1) .num S.data.toList=some (.mk 110 (S.data.toList.takeWhile Wf.aB) 0 [],S.data.toList.dropWhile Wf.aB) by rw[Wf.jF,Wf.aO,hp,(Wf.dF hp).1];rfl);have HNUM:=hid fun wz=>(hnum wz).mono (R':=fun e w'=>e=.returned (.tuple #[.int .i64 g,.bool true])/\Below wz.heap.size wz w') fun e w' ⟨h1,h2⟩=>⟨by unfold aY at h1;rw[hp] at h1;exact h1,h2⟩;clear hnum hp hT hX1 hX2;go_enter Tryz.func88,Tryz.ntmps88;go_wp2_with (first|(go_at_call 52;refine(HNUM.out _).mono ?_;rintro e w2 ⟨rfl,hb2⟩;have B2:=hid (aC ((Below.refl _ _).alloc (Nat.le_refl _) _) hb2);clear hb2)|(go_at_call 125;refine(HDG.out _).mono ?_;rintro e w1 ⟨rfl,rfl⟩))
  go_region
  all_goals (go_wp2_with fail)
  all_goals exact bodyPost_ret (v:=.tuple #[ptr w2.heap.size,.string X2,.bool true]) (by simp[results,Tryz.results88,go_sem, *]) rfl (by
   have hR:∀ W3:World,W3.heap.size=w2.heap.size->Below w.heap.size w W3->(aE (Wf.parse x (n+1) .num S.data.toList) w (.returned (.tuple #[ptr w2.heap.size,.string X2,.bool true])) (W3.alloc (.cells #[tx [110],.string X1,.slice none 0 0,.slice none 0 0] 103))/\Below w.heap.size w (W3.alloc (.cells #[tx [110],.string X1,.slice none 0 0,.slice none 0 0] 103))):=fun W3 h1 h2=>by
    refine⟨aE.yes HP.out ⟨w2.heap.size,by rw[HR.out],?_⟩,h2.alloc h2.size _⟩;rw[<-h1];rw[HX.out];exact LV.new (kd:=[110]) (t:=S.data.toList.takeWhile Wf.aB) (by decide) ⟨rfl,rfl⟩ rfl (h2.size) (by simp) (by simp[go_sem]) (by simp[go_sem]) (by simp[go_sem]) (by simp[go_sem])
   first|exact hR w2 rfl B2.out|exact hR w2.drew rfl B2.out.drew)
theorem vP {l:List UInt8} (h:Wf.quoted l=true):l=39::(l.tail.dropLast++[39]):=by
 obtain⟨b,rfl,_,_⟩:=Wf.eU.1 h;simp
theorem wS (x:Wf.Sc) (n:Nat) (l:List UInt8):Wf.parse x (n+1) .txt l=if Wf.quoted (l.take (Wf.cT l))=true then some (.mk 116 (l.take (Wf.cT l)).tail.dropLast 0 [],l.drop (Wf.cT l)) else none:=by
 cases l with
 | nil=>rw[Wf.nH];rfl
 | cons a r=>exact Wf.a2C x n a r
theorem a2E (x:Wf.Sc) (n:Nat) (v:Value) (S:ByteArray) (hS:S.size<=1048576) (w:World):Calls Tryz.prog 88 #[.agg #[v],.string S,tx [116]] w fun e w'=>aE (Wf.parse x (n+1) .txt S.data.toList) w e w'/\Below w.heap.size w w':=by
 obtain⟨E,hE⟩:∃ E,Wf.cT S.data.toList=E:=⟨_,rfl⟩;have hEle:E<=S.size:=by rw[<-hE,<-aD];exact Wf.a2I _
 have k1:=gT S E hEle;have k2:=bK S E hEle;have HX:=hid (show S.extract 0 E=⟨(S.data.toList.take E).toArray⟩ by rw[aR,bJ,List.drop_zero,Nat.sub_zero]);have HR:=hid (show S.extract E S.size=⟨(S.data.toList.drop E).toArray⟩ by rw[aR,cN]);have htx:=fun wz=>oG (S.extract 0 E) wz (by rw[ByteArray.size_extract];omega);rw[show(S.extract 0 E).data.toList=S.data.toList.take E by rw[bJ,List.drop_zero,Nat.sub_zero]] at htx;obtain⟨Q,hQ⟩:∃ Q,Wf.quoted (S.data.toList.take E)=Q:=⟨_,rfl⟩;have hpt:=wS x n S.data.toList;rw[hE,hQ] at hpt;have HP:=hid hpt;have HQ:=hid hQ;rw[hQ] at htx;obtain⟨X1,hX1⟩:∃ X1,S.extract 0 E=X1:=⟨_,rfl⟩;obtain⟨X2,hX2⟩:∃ X2,S.extract E S.size=X2:=⟨_,rfl⟩;rw[hX1] at k1 HX htx;rw[hX2] at k2 HR;have HTX:=hid htx;obtain⟨K,hK⟩:∃ K,1+(S.data.toList.tail.takeWhile Wf.bH).length=K:=⟨_,rfl⟩;have hEK:E=min (K+1) S.size:=by rw[<-hE,Wf.cT,aD,hK]
 have hKS:S.size≠0->K<=S.size:=fun h=>by
  rw[<-hK];have h1:=gI Wf.bH S.data.toList.tail;rw[List.length_tail,aD] at h1;omega
 have HIN:=hid fun(i:Nat) (h1:1<=i) (h:i<K)=>(show ∃ c,S.data.toList[i]? = some c/\Wf.bH c=true by
  obtain⟨c,hc,hp⟩:=pJ (p:=Wf.bH) (l:=S.data.toList.tail) (i:=i-1) (by omega);rw[List.getElem?_tail,show i-1+1=i by omega] at hc;exact⟨c,hc,hp⟩)
 have HAT:=hid fun(c:UInt8) (h:S.data.toList[K]? = some c)=>(show Wf.bH c=false by
  refine rC (p:=Wf.bH) (l:=S.data.toList.tail) ?_;rw[List.getElem?_tail,show(S.data.toList.tail.takeWhile Wf.bH).length+1=K by omega];exact h)
 have hK1:1<=K:=by omega
 have hK2:K<=1048577:=by
  by_cases h:S.size=0
  ·rw[<-hK]
   have h1:=gI Wf.bH S.data.toList.tail;rw[List.length_tail,aD] at h1;omega
  ·have:=hKS h;omega
 have hmin:min ((K:Int)+1) (S.size:Int)=(E:Int):=by rw[hEK];omega
 have HMIN:=hid hmin;clear hpt hQ htx hX1 hX2 hE hK hEK hKS hmin;go_enter Tryz.func88,Tryz.ntmps88;go_wp2_with fail
 go_loop [9] (fun v=>∃ i:Nat,1<=i/\i<=K/\v=.int .i64 i) (fun v=>K-(RowKit.intOf v).toNat)
 case atStart=>exact⟨1,Nat.le_refl _,hK1,rfl⟩
 case round =>
  obtain⟨i,hi1,hi,rfl⟩:=hrel;by_cases hlt:i<K
  ·obtain⟨c',hc',hd⟩:=HIN.out i hi1 hlt
   have his:i<S.size:=(by rw[<-aD];exact(List.getElem?_eq_some_iff.1 hc').1);obtain⟨c,hc,e1⟩:=byte_at S i his;rw[hc] at hc';obtain rfl:=Option.some.inj hc';obtain⟨b,hb⟩:∃ b,c.toNat=b:=⟨_,rfl⟩;rw[hb] at e1;have h1:((b:Int) != 39)=true:=by
    rw[bne_iff_ne];intro h;have h39:c=39:=UInt8.toNat_inj.1 (by rw[hb];show b=39;omega);rw[h39] at hd;exact absurd hd (by decide)
   clear hc hc' hd hb;go_wp2_with fail
   go_round
   case rel=>exact⟨i+1,by omega,by omega,by go_num⟩
   case measure=>simp[RowKit.intOf];omega
  ·have hiT:i=K:=by omega
   subst hiT;have fin:∀ b:Bool,Q=b->∀ W3:World,W3.heap.size=w.heap.size+1->Below w.heap.size w W3->(aE (Wf.parse x (n+1) .txt S.data.toList) w (.returned (.tuple #[ptr (w.heap.size+1),.string X2,.bool b])) (W3.alloc (.cells #[tx [116],.string X1,.slice none 0 0,.slice none 0 0] 103))/\Below w.heap.size w (W3.alloc (.cells #[tx [116],.string X1,.slice none 0 0,.slice none 0 0] 103))):=fun b hb W3 h1 h2=>by
    refine⟨?_,h2.alloc h2.size _⟩;cases b with
    | false=>exact aE.no (by rw[HP.out,hb];rfl) ⟨_,_,rfl⟩
    | true =>
     refine aE.yes (by rw[HP.out,hb,if_pos rfl]) ⟨w.heap.size+1,by rw[HR.out],?_⟩;rw[<-h1,HX.out];exact LV.new (kd:=[116]) (t:=S.data.toList.take E) (by decide) ⟨rfl,vP (by rw[HQ.out,hb])⟩ rfl (h2.size) (by simp) (by simp[go_sem]) (by simp[go_sem]) (by simp[go_sem]) (by simp[go_sem])
   have FIN:=hid fin;clear fin;have hmin:=HMIN.out;by_cases his:i<S.size
   ·obtain⟨c,hc,e1⟩:=byte_at S i his
    have hd:=HAT.out c hc;have h39:c=39:=(by simpa[Wf.bH] using hd);have hb:c.toNat=39:=(by rw[h39];rfl);rw[hb] at e1;clear hc hd h39 hb;go_wp2_with fail
    go_region_with (go_at_call 126;refine(HTX.out _).mono ?_;rintro e w1 ⟨rfl,rfl⟩)
    all_goals (go_wp2_with fail)
    all_goals exact bodyPost_ret (v:=.tuple #[ptr (w.heap.size+1),.string X2,.bool Q]) (by simp[results,Tryz.results88,go_sem, *]) rfl (by
     have B0:=(Below.refl w.heap.size w).alloc (Nat.le_refl _) (.cells #[v] 99);first|exact FIN.out Q rfl _ (by simp) B0|exact FIN.out Q rfl _ (by simp) B0.drew)
   ·have his2:S.size<=i:=by omega
    clear his;go_wp2_with fail
    go_region_with (go_at_call 126;refine(HTX.out _).mono ?_;rintro e w1 ⟨rfl,rfl⟩)
    all_goals (go_wp2_with fail)
    all_goals exact bodyPost_ret (v:=.tuple #[ptr (w.heap.size+1),.string X2,.bool Q]) (by simp[results,Tryz.results88,go_sem, *]) rfl (by
     have B0:=(Below.refl w.heap.size w).alloc (Nat.le_refl _) (.cells #[v] 99);first|exact FIN.out Q rfl _ (by simp) B0|exact FIN.out Q rfl _ (by simp) B0.drew)

theorem qA (S:ByteArray) (p:List UInt8) (h:p.length<=S.size):((S.extract 0 p.length).toList==p)=decide (p <+: S.data.toList):=by
 rw[ByteArray.toList_eq,bJ,List.drop_zero,Nat.sub_zero,Bool.beq_eq_decide_eq,decide_eq_decide];rw[List.prefix_iff_eq_take];exact eq_comm
def eF (l:List UInt8) (v:Value):Prop:=v=.int .i64 0\/(v=.int .i64 1/\¬ [121,101,115] <+: l)\/(v=.int .i64 2/\¬ [121,101,115] <+: l/\¬ [110,111] <+: l)
theorem a3Y (x:Wf.Sc) (n:Nat) (v:Value) (S:ByteArray) (hS:S.size<=1048576) (w:World):Calls Tryz.prog 88 #[.agg #[v],.string S,tx [102]] w fun e w'=>aE (Wf.parse x (n+1) .flag S.data.toList) w e w'/\Below w.heap.size w w':=by
 go_enter Tryz.func88,Tryz.ntmps88;go_wp2_with fail
 go_loop [70] (fun v=>eF S.data.toList v) (fun v=>2-(RowKit.intOf v).toNat)
 case atStart=>exact .inl rfl
 case round =>
  rcases hrel with rfl|⟨rfl,hy⟩|⟨rfl,hy,hn⟩
  ·by_cases h3:3<=S.size
   ·have hpe:=qA S [121,101,115] h3
    rw[show([121,101,115]:List UInt8).length=3 from rfl] at hpe;cases hd:decide ([121,101,115] <+: S.data.toList) with
    | true =>
     rw[hd] at hpe;obtain⟨q,hq⟩:=of_decide_eq_true hd;have HP:=hid (show Wf.parse x (n+1) .flag S.data.toList=some (.mk 102 [121,101,115] 0 [],q) by rw[<-hq];exact Wf.uF x n q);have HR:=hid (show S.extract 3 S.size=⟨q.toArray⟩ by rw[aR,cN,<-hq];rfl);clear hd hq;go_wp2_with fail
     go_region
     all_goals (go_wp2_with fail)
     all_goals exact bodyPost_ret (v:=.tuple #[ptr (w.heap.size+1+1),.string (S.extract 3 S.size),.bool true]) (by simp[results,Tryz.results88,go_sem, *]) rfl (by
      have hR:∀ W3:World,W3.heap.size=w.heap.size+1+1->Below w.heap.size w W3->(aE (Wf.parse x (n+1) .flag S.data.toList) w (.returned (.tuple #[ptr (w.heap.size+1+1),.string (S.extract 3 S.size),.bool true])) (W3.alloc (.cells #[tx [102],tx [121,101,115],.slice none 0 0,.slice none 0 0] 103))/\Below w.heap.size w (W3.alloc (.cells #[tx [102],tx [121,101,115],.slice none 0 0,.slice none 0 0] 103))):=fun W3 h1 h2=>by
       refine⟨aE.yes HP.out ⟨w.heap.size+1+1,by rw[HR.out],?_⟩,h2.alloc h2.size _⟩;rw[<-h1];exact LV.new (kd:=[102]) (t:=[121,101,115]) (by decide) ⟨rfl,rfl⟩ rfl (h2.size) (by simp) (by simp[go_sem]) (by simp[go_sem]) (by simp[go_sem]) (by simp[go_sem])
      have B0:=((Below.refl w.heap.size w).alloc (Nat.le_refl _) (.cells #[v] 99)).alloc (by simp) (.cells #[.string ⟨#[121,101,115]⟩,.string ⟨#[110,111]⟩] 9);first|exact hR _ (by simp) B0|exact hR _ (by simp) B0.drew)
    | false =>
     rw[hd] at hpe;have HD:=hid (of_decide_eq_false hd);clear hd;go_wp2_with fail
     go_round
     all_goals first|exact⟨(.inr (.inl ⟨rfl,HD.out⟩):eF S.data.toList (.int .i64 1)),by simp[RowKit.intOf]⟩|exact(.inr (.inl ⟨rfl,HD.out⟩):eF S.data.toList (.int .i64 1))|(simp[RowKit.intOf];done)
   ·have HD:=hid (show ¬ [121,101,115] <+: S.data.toList from fun h=>by have:=h.length_le;rw[aD] at this;simp at this;omega)
    have h3d:decide (3<=S.size)=false:=decide_eq_false h3;have h3i:(S.size:Int)<3:=(by omega);go_wp2_with fail
    go_round
    all_goals first|exact⟨(.inr (.inl ⟨rfl,HD.out⟩):eF S.data.toList (.int .i64 1)),by simp[RowKit.intOf]⟩|exact(.inr (.inl ⟨rfl,HD.out⟩):eF S.data.toList (.int .i64 1))|(simp[RowKit.intOf];done)
  ·have HY:=hid hy
   clear hy;by_cases h3:2<=S.size
   ·have hpe:=qA S [110,111] h3
    rw[show([110,111]:List UInt8).length=2 from rfl] at hpe;cases hd:decide ([110,111] <+: S.data.toList) with
    | true =>
     rw[hd] at hpe;obtain⟨q,hq⟩:=of_decide_eq_true hd;have HP:=hid (show Wf.parse x (n+1) .flag S.data.toList=some (.mk 102 [110,111] 0 [],q) by rw[<-hq];exact Wf.nX x n q);have HR:=hid (show S.extract 2 S.size=⟨q.toArray⟩ by rw[aR,cN,<-hq];rfl);clear hd hq;go_wp2_with fail
     go_region
     all_goals (go_wp2_with fail)
     all_goals exact bodyPost_ret (v:=.tuple #[ptr (w.heap.size+1+1),.string (S.extract 2 S.size),.bool true]) (by simp[results,Tryz.results88,go_sem, *]) rfl (by
      have hR:∀ W3:World,W3.heap.size=w.heap.size+1+1->Below w.heap.size w W3->(aE (Wf.parse x (n+1) .flag S.data.toList) w (.returned (.tuple #[ptr (w.heap.size+1+1),.string (S.extract 2 S.size),.bool true])) (W3.alloc (.cells #[tx [102],tx [110,111],.slice none 0 0,.slice none 0 0] 103))/\Below w.heap.size w (W3.alloc (.cells #[tx [102],tx [110,111],.slice none 0 0,.slice none 0 0] 103))):=fun W3 h1 h2=>by
       refine⟨aE.yes HP.out ⟨w.heap.size+1+1,by rw[HR.out],?_⟩,h2.alloc h2.size _⟩;rw[<-h1];exact LV.new (kd:=[102]) (t:=[110,111]) (by decide) ⟨rfl,rfl⟩ rfl (h2.size) (by simp) (by simp[go_sem]) (by simp[go_sem]) (by simp[go_sem]) (by simp[go_sem])
      have B0:=((Below.refl w.heap.size w).alloc (Nat.le_refl _) (.cells #[v] 99)).alloc (by simp) (.cells #[.string ⟨#[121,101,115]⟩,.string ⟨#[110,111]⟩] 9);first|exact hR _ (by simp) B0|exact hR _ (by simp) B0.drew)
    | false =>
     rw[hd] at hpe;have HD:=hid (of_decide_eq_false hd);clear hd;go_wp2_with fail
     go_round
     all_goals first|exact⟨(.inr (.inr ⟨rfl,HY.out,HD.out⟩):eF S.data.toList (.int .i64 2)),by simp[RowKit.intOf]⟩|exact(.inr (.inr ⟨rfl,HY.out,HD.out⟩):eF S.data.toList (.int .i64 2))|(simp[RowKit.intOf];done)
   ·have HD:=hid (show ¬ [110,111] <+: S.data.toList from fun h=>by have:=h.length_le;rw[aD] at this;simp at this;omega)
    have h3d:decide (2<=S.size)=false:=decide_eq_false h3;have h3i:(S.size:Int)<2:=(by omega);go_wp2_with fail
    go_round
    all_goals first|exact⟨(.inr (.inr ⟨rfl,HY.out,HD.out⟩):eF S.data.toList (.int .i64 2)),by simp[RowKit.intOf]⟩|exact(.inr (.inr ⟨rfl,HY.out,HD.out⟩):eF S.data.toList (.int .i64 2))|(simp[RowKit.intOf];done)
  ·have HP:=hid (Wf.rD x n hy hn)
   clear hy hn;go_wp2_with fail
   exact bodyPost_ret (v:=.tuple #[.pointer none,.string S,.bool false]) (by simp[results,Tryz.results88,go_sem, *]) rfl ⟨aE.no HP.out ⟨_,_,rfl⟩,((Below.refl w.heap.size w).alloc (Nat.le_refl _) _).alloc (by simp) _⟩

theorem LVs.snoc {W:World} {P:Nat->Prop} {u:Wf.V} {b:Nat} (hu:LV W P u b):∀ {l:List Wf.V} {bs:List Nat},LVs W P l bs->LVs W P (l++[u]) (bs++[b]):=by
 intro l;induction l with
 | nil =>
  intro bs h;obtain rfl:=h.none;simp only[List.nil_append,LVs];exact⟨b,[],rfl,hu,rfl⟩
 | cons v l ih =>
  intro bs h;simp only[LVs] at h;obtain⟨b',bs',rfl,h1,h2⟩:=h;simp only[List.cons_append,LVs];exact⟨b',_,rfl,h1,ih h2⟩
structure KB (w wr:World) (vb base:Nat) (a:Option Addr) (m c:Nat) (l:List Wf.V) (bs:List Nat):Prop where
 lt:vb<base
 le:w.heap.size<=vb
 sz:base<=wr.heap.size
 v3:wr.cell? ⟨vb,3,none⟩=some (.slice a m c)
 f3:wr.frozen? ⟨vb,3,none⟩=false
 own:wr.ownsRow base 57 1 (.slice a m c) m (bs.map ptr)
 hl:bs.length=m
 vals:LVs wr (fun y=>base<=y/\some y≠(Value.slice a m c).ownBlock) l bs
theorem KB.step {w wr w2:World} {vb base m c:Nat} {a:Option Addr} {l:List Wf.V} {bs:List Nat} (h:KB w wr vb base a m c l bs) (hb:Below wr.heap.size wr w2):KB w w2 vb base a m c l bs:=by
 have hv:vb<wr.heap.size:=Nat.lt_of_lt_of_le h.lt h.sz;exact⟨h.lt,h.le,Nat.le_trans h.sz hb.size,(hb.cell (p:=⟨vb,3,none⟩) hv).trans h.v3,(hb.frozen (p:=⟨vb,3,none⟩) hv).trans h.f3,cO h.own hb,h.hl,LVs.keep (fun y hy hlt=>⟨hy,hb.block y hlt⟩) hb.size _ _ h.vals⟩
theorem KB.put {w wr:World} {vb base m c:Nat} {a:Option Addr} {l:List Wf.V} {bs:List Nat} (h:KB w wr vb base a m c l bs) {wx w4:World} (hx:Below wr.heap.size wr wx) (hg:wx.grownBy w4 (Value.slice a m c).ownBlock) {g cap b:Nat} {u:Wf.V}
  (ho:w4.ownsRow base 57 1 (.slice (some ⟨g,0,none⟩) (m+1) cap) (m+1) (bs.map ptr++[ptr b])) (hat:(Value.slice a m c).ownBlock=some g\/g=wx.heap.size) (hv:LV wx (fun y=>wr.heap.size<=y) u b) :
  KB w (w4.setCell ⟨vb,3,none⟩ (.slice (some ⟨g,0,none⟩) (m+1) cap)) vb base (some ⟨g,0,none⟩) (m+1) cap (l++[u]) (bs++[b]):=by
 have hs:=h.step hx;have hlo:=aT hs.own;have hlo0:=aT h.own;have hB:Below base wx w4:=aW hg (fun g hgk=>(hlo g hgk).1) hs.sz;have hss:(w4.setCell ⟨vb,3,none⟩ (.slice (some ⟨g,0,none⟩) (m+1) cap)).heap.size=w4.heap.size:=by simp
 have c3:=(hB.cell (p:=⟨vb,3,none⟩) h.lt).trans hs.v3;have hloc:(Value.slice (some ⟨g,0,none⟩) (m+1) cap).ownBlock=(Value.slice a m c).ownBlock\/(Value.slice (some ⟨g,0,none⟩) (m+1) cap).ownBlock=some wx.heap.size:=by
  rcases hat with hat|hat
  ·exact .inl hat.symm
  ·exact .inr (by rw[<-hat];rfl)
 have hl:=h.lt;have hkeep:∀ y,base<=y->y<wx.heap.size->some y≠(Value.slice a m c).ownBlock->some y≠(Value.slice (some ⟨g,0,none⟩) (m+1) cap).ownBlock/\(w4.setCell ⟨vb,3,none⟩ (.slice (some ⟨g,0,none⟩) (m+1) cap)).heap[y]? = wx.heap[y]?:=fun y hy1 hy2 hy3=>by
  obtain⟨e1,e2⟩:=gQ hg hloc hy2 hy3;refine⟨e2,?_⟩;rw[Below.heap_setCell w4 ⟨vb,3,none⟩ _ _ (by show y≠vb;omega)];exact e1
 refine⟨h.lt,h.le,by rw[hss];exact Nat.le_trans hs.sz hB.size,World.cell?_setCell_same w4 _ _ c3,?_,?_,by rw[List.length_append,h.hl];rfl,LVs.snoc ?_ ?_⟩
 ·have:=(hB.frozen (p:=⟨vb,3,none⟩) h.lt).trans hs.f3
  simpa using this
 ·rw[List.map_append]
  exact ownsRow_setCell_below ho h.lt _
 ·exact LV.keep (fun y hp hlt=>by
   have hb1:base<=y:=Nat.le_trans h.sz hp;have hb3:some y≠(Value.slice a m c).ownBlock:=fun he=>by
    have h5:=(hlo0 y he.symm).2;have h6:wr.heap.size<=y:=hp;omega
   obtain⟨e1,e2⟩:=hkeep y hb1 hlt hb3;exact⟨⟨hb1,e1⟩,e2⟩) (by rw[hss];exact hB.size) _ _ hv
 ·exact LVs.keep (fun y hp hlt=>by
   obtain⟨e1,e2⟩:=hkeep y hp.1 hlt hp.2;exact⟨⟨hp.1,e1⟩,e2⟩) (by rw[hss];exact hB.size) _ _ hs.vals
structure VBk (v:Value) (w wr:World) (rb vb:Nat) (KT T1:ByteArray):Prop where
 bl:Below w.heap.size w wr
 lt:vb<wr.heap.size
 rlt:rb<wr.heap.size
 r0:wr.cell? ⟨rb,0,none⟩=some v
 v0:wr.cell? ⟨vb,0,none⟩=some (.string KT)
 v1:wr.cell? ⟨vb,1,none⟩=some (.string T1)
theorem VBk.step {v:Value} {w wr w2:World} {rb vb:Nat} {KT T1:ByteArray} {B:Nat} (h:VBk v w wr rb vb KT T1) (hB:Below w.heap.size w w2) (hb:Below B wr w2) (h1:rb<B) (h2:vb<B):VBk v w w2 rb vb KT T1 :=
 ⟨hB,Nat.lt_of_lt_of_le h.lt hb.size,Nat.lt_of_lt_of_le h.rlt hb.size,(hb.cell (p:=⟨rb,0,none⟩) h1).trans h.r0,(hb.cell (p:=⟨vb,0,none⟩) h2).trans h.v0,(hb.cell (p:=⟨vb,1,none⟩) h2).trans h.v1⟩
theorem VBk.put {v:Value} {w wx w4:World} {rb vb base:Nat} {KT T1:ByteArray} (h:VBk v w wx rb vb KT T1) (hb:Below base wx w4) (h0:w.heap.size<=vb) (h1:vb<base) (h2:rb<base) (o:Nat) (ho:2<=o) (val:Value):VBk v w (w4.setCell ⟨vb,o,none⟩ val) rb vb KT T1:=by
 have hs:(w4.setCell ⟨vb,o,none⟩ val).heap.size=w4.heap.size:=by simp
 refine⟨(h.bl.trans (hb.mono (by omega))).setCell (p:=⟨vb,o,none⟩) h0 _,by rw[hs];exact Nat.lt_of_lt_of_le h.lt hb.size,by rw[hs];exact Nat.lt_of_lt_of_le h.rlt hb.size,?_,?_,?_⟩
 ·exact(World.cell?_setCell_other w4 _ _ _ (by simp <;> omega)).trans ((hb.cell (p:=⟨rb,0,none⟩) h2).trans h.r0)
 ·exact(World.cell?_setCell_other w4 _ _ _ (by simp <;> omega)).trans ((hb.cell (p:=⟨vb,0,none⟩) h1).trans h.v0)
 ·exact(World.cell?_setCell_other w4 _ _ _ (by simp <;> omega)).trans ((hb.cell (p:=⟨vb,1,none⟩) h1).trans h.v1)
theorem iR:(Tryz.prog.info? 57).map (fun i=>(i.zero,i.size,i.bytes))=some (some (.pointer none),1,8):=by kernel_rfl
