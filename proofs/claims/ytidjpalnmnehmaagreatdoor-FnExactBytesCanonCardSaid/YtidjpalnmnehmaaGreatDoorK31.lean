/- Packed. -/
import Derived.Test.YtidjpalnmnehmaaGreatDoorK30
set_option maxRecDepth 99999
set_option maxHeartbeats 40000000
set_option linter.all false
namespace Go.Proofs.YtidjpalnmnehmaaGreatDoor
open Go.ChangeShapes Go.WideShapes Go.ChangeAt Go.RowKit Go.Lib
theorem sB {p:UInt8->Bool}:∀ {l:List UInt8} {i:Nat},i<(l.takeWhile p).length->∃ c,l[i]? = some c/\p c=true:=by
 intro l;induction l with
 | nil=>intro i h;simp at h
 | cons a l ih =>
  intro i h;by_cases ha:p a=true
  ·rw[List.takeWhile_cons_of_pos ha] at h
   cases i with
   | zero=>exact⟨a,rfl,ha⟩
   | succ i=>exact ih (by simpa using h)
  ·rw[List.takeWhile_cons_of_neg ha] at h;simp at h
theorem nQ {p:UInt8->Bool}:∀ {l:List UInt8} {c:UInt8},l[(l.takeWhile p).length]? = some c->p c=false:=by
 intro l;induction l with
 | nil=>intro c h;simp at h
 | cons a l ih =>
  intro c h;by_cases ha:p a=true
  ·rw[List.takeWhile_cons_of_pos ha] at h
   exact ih (by simpa using h)
  ·rw[List.takeWhile_cons_of_neg ha] at h
   simp at h;subst h;simpa using ha
theorem fI (p:UInt8->Bool) (l:List UInt8):(l.takeWhile p).length<=l.length:=(List.takeWhile_prefix p).length_le
theorem sR (p:UInt8->Bool) (l:List UInt8):l.take (l.takeWhile p).length=l.takeWhile p:=(List.prefix_iff_eq_take.1 (List.takeWhile_prefix p)).symm
theorem jS (p:UInt8->Bool) (l:List UInt8):l.drop (l.takeWhile p).length=l.dropWhile p:=by
 have h:=List.takeWhile_append_dropWhile (p:=p) (l:=l);have h2:(l.takeWhile p++l.dropWhile p).drop (l.takeWhile p).length=l.dropWhile p:=List.drop_left;rw[h] at h2;exact h2
theorem lE (s:ByteArray) (w:World) (hs:s.size<=1048576):Calls Tryz.prog 125 #[.string s] w fun e w'=>e=.returned (.int .i64 ((s.data.toList.takeWhile Wf.aD).length:Nat))/\w=w':=by
 obtain⟨T,hT⟩:∃ T,(s.data.toList.takeWhile Wf.aD).length=T:=⟨_,rfl⟩;have hle:T<=s.size:=by rw[<-hT,<-aE];exact fI _ _
 have HIN:=hid fun(i:Nat) (h:i<T)=>(by rw[<-hT] at h;exact sB h:∃ c,s.data.toList[i]? = some c/\Wf.aD c=true);have HAT:=hid fun(c:UInt8) (h:s.data.toList[T]? = some c)=>(by rw[<-hT] at h;exact nQ h:Wf.aD c=false);rw[hT];clear hT;go_enter Tryz.func125,Tryz.ntmps125;go_wp2_with fail
 go_loop [3] (fun v=>∃ i:Nat,i<=T/\v=.int .i64 i) (fun v=>T-(RowKit.intOf v).toNat)
 case atStart=>exact⟨0,Nat.zero_le _,rfl⟩
 case round =>
  obtain⟨i,hi,rfl⟩:=hrel;by_cases hlt:i<T
  ·have his:i<s.size:=by omega
   obtain⟨c,hc,e1⟩:=byte_at s i his;obtain⟨c',hc',hd⟩:=HIN.out i hlt;rw[hc] at hc';obtain rfl:=Option.some.inj hc';obtain⟨b,hb⟩:∃ b,c.toNat=b:=⟨_,rfl⟩;rw[hb] at e1;have h1:48<=b:=(by simp[Wf.aD] at hd;omega);have h2:b<=57:=(by simp[Wf.aD] at hd;omega);clear hc hc' hd hb;go_wp2_with fail
   go_round
   case rel=>exact⟨i+1,by omega,by go_num⟩
   case measure=>simp[RowKit.intOf];omega
  ·have hiT:i=T:=by omega
   subst hiT;by_cases his:i<s.size
   ·obtain⟨c,hc,e1⟩:=byte_at s i his
    have hd:=HAT.out c hc;obtain⟨b,hb⟩:∃ b,c.toNat=b:=⟨_,rfl⟩;rw[hb] at e1;by_cases h1:48<=b
    ·have h2:57<b:=by
      simp[Wf.aD] at hd;omega
     clear hc hd hb;go_wp2_with fail
     go_ret
     exact⟨rfl,rfl⟩
    ·have h2:b<48:=by omega
     clear hc hd hb h1;go_wp2_with fail
     go_ret
     exact⟨rfl,rfl⟩
   ·go_wp2_with fail
    go_ret
    exact⟨rfl,rfl⟩
theorem gH (S:ByteArray) (T:Nat) (h:T<=S.size):∀ wz,(Instr.slice 9 (.string S) none (some (.int .i64 T)) none).run Tryz.prog wz=.ok (.string (S.extract 0 T)) wz:=fun wz=>by
 have:=run_slice_string_h (P:=Tryz.prog) wz 9 S Tryz.underlying9 .i64 (T:Int) (by omega) (by omega);rw[this,Int.toNat_natCast]
theorem bD (S:ByteArray) (T:Nat) (h:T<=S.size):∀ wz,(Instr.slice 9 (.string S) (some (.int .i64 T)) none none).run Tryz.prog wz=.ok (.string (S.extract T S.size)) wz:=fun wz=>by
 have:=run_slice_string_l (P:=Tryz.prog) wz 9 S Tryz.underlying9 .i64 (T:Int) (by omega) (by omega);rw[this,Int.toNat_natCast]
theorem kY (S:ByteArray) (p:UInt8->Bool):(S.extract 0 (S.data.toList.takeWhile p).length).data.toList=S.data.toList.takeWhile p:=by
 rw[bH,List.drop_zero,Nat.sub_zero,sR]
theorem cI (S:ByteArray) (T:Nat):(S.extract T S.size).data.toList=S.data.toList.drop T:=by
 rw[bH,zaS (by rw[List.length_drop,aE];exact zaA)]
structure jK (wr:World) (b:Nat):Prop where
 lt:b<wr.heap.size
 r0:wr.cell? ⟨b,0,none⟩=some (.int .i64 0)
 r1:wr.cell? ⟨b,1,none⟩=some (.string ⟨#[]⟩)
 r2:wr.cell? ⟨b,2,none⟩=some (.string ⟨#[]⟩)
 r3:wr.cell? ⟨b,3,none⟩=some (.string ⟨#[]⟩)
 f0:wr.frozen? ⟨b,0,none⟩=false
 f1:wr.frozen? ⟨b,1,none⟩=false
 f2:wr.frozen? ⟨b,2,none⟩=false
 f3:wr.frozen? ⟨b,3,none⟩=false
theorem jK.below {wr w2:World} {b B:Nat} (h:jK wr b) (hb:Below B wr w2) (hr:b<B):jK w2 b:=by
 have h1:=hb.block b hr;have cd:=fun o=>zbJ (w:=wr) (w':=w2) (a:=⟨b,o,none⟩) h1;have cf:=fun o=>World.frozen?_of_block (w:=wr) (w':=w2) (a:=⟨b,o,none⟩) h1;exact⟨zaC h.lt hb.size,(cd 0).trans h.r0,(cd 1).trans h.r1,(cd 2).trans h.r2,(cd 3).trans h.r3,(cf 0).trans h.f0,(cf 1).trans h.f1,(cf 2).trans h.f2,(cf 3).trans h.f3⟩
theorem pF (w:World) (v:Value) (q n c:Nat) (N:ByteArray) (fa:Option Addr) (W1:World) (hW1:((w.alloc (.cells #[v] 99)).alloc (.cells #[.int .u8 q,.string N,.slice fa n c] 143)).alloc (.cells #[.int .i64 0,.string ⟨#[]⟩,.string ⟨#[]⟩,.string ⟨#[]⟩] 163)=W1) :
  W1.cell? ⟨w.heap.size+1,0,none⟩=some (.int .u8 q)/\W1.cell? ⟨w.heap.size+1,1,none⟩=some (.string N)/\W1.cell? ⟨w.heap.size+1,2,none⟩=some (.slice fa n c)/\jK W1 (w.heap.size+1+1)/\Below w.heap.size w W1:=by
 have hB:Below w.heap.size w W1:=by
  rw[<-hW1];exact((((zaB).alloc (zaA) _).alloc (by simp) _).alloc (by simp;omega) _)
 subst hW1;refine⟨?_,?_,?_,⟨?_,?_,?_,?_,?_,?_,?_,?_,?_⟩,hB⟩;all_goals first|(simp[go_sem];done)|(simp[go_sem];omega)
def tagF (t:Wf.Ty) (s:List UInt8):Option Wf.Fd:=(Wf.aI (s.takeWhile Wf.aD) 200).bind t.field
def bV (t:Wf.Ty) (s:List UInt8) (e:Ending):Prop:=match tagF t s with
 | some f=>e=.returned (.tuple #[.agg #[.int .i64 f.tag,tx f.name,tx (if t.sort=69 then [] else f.kind.text),tx f.given],tx (s.dropWhile Wf.aD),.bool true])
 | none=>∃ (m:Int) (a b c:ByteArray),e=.returned (.tuple #[.agg #[.int .i64 m,.string a,.string b,.string c],tx (s.dropWhile Wf.aD),.bool false])
theorem pG (v:Value) (S:ByteArray) (hS:S.size<=1048576) (q n c:Nat) (N:ByteArray) (fa:Option Addr) (m g':Int) (A B C:ByteArray) (b1 b2:Bool) (w:World)
  (hnum:∀ wz,Calls Tryz.prog 52 #[.string (S.extract 0 (S.data.toList.takeWhile Wf.aD).length),.int .i64 200] wz fun e w'=>e=.returned (.tuple #[.int .i64 m,.bool b1])/\Below wz.heap.size wz w')
  (hfld:∀ wz,Below w.heap.size w wz->Calls Tryz.prog 150 #[.agg #[.int .u8 q,.string N,.slice fa n c],.int .i64 m] wz fun e w'=>e=.returned (.tuple #[.agg #[.int .i64 g',.string A,.string B,.string C],.bool b2])/\Below wz.heap.size wz w') :
  Calls Tryz.prog 124 #[.agg #[v],.string S,.agg #[.int .u8 q,.string N,.slice fa n c]] w fun e w'=>e=.returned (.tuple #[.agg #[.int .i64 g',.string A,.string B,.string C],tx (S.data.toList.dropWhile Wf.aD),.bool (b1&&b2)])/\Below w.heap.size w w':=by
 have HDG:=hid fun wz=>lE S wz hS;obtain⟨T,hT⟩:∃ T,(S.data.toList.takeWhile Wf.aD).length=T:=⟨_,rfl⟩;have hle:T<=S.size:=by rw[<-hT,<-aE];exact fI _ _
 have k1:=gH S T hle;have k2:=bD S T hle;have HR:=hid (show(⟨(S.data.toList.dropWhile Wf.aD).toArray⟩:ByteArray)=S.extract T S.size by rw[aQ,cI,<-hT,jS]);rw[hT] at hnum HDG;have HNUM:=hid hnum;have HFLD:=hid hfld;have ST:=hid fun W1 h=>pF w v q n c N fa W1 h;clear hnum hfld hT;cases b1 <;> cases b2;all_goals
  go_enter Tryz.func124,Tryz.ntmps124;go_wp2_with (first|(go_at_call 150;refine(HFLD.out _ B2.out).mono ?_;rintro e w3 ⟨rfl,hb3⟩;have B3:=hid (B2.out.trans (hb3.mono B2.out.size));obtain⟨zl,zr0,zr1,zr2,zr3,zf0,zf1,zf2,zf3⟩:=Z2.out.below hb3 Z2.out.lt;clear hb3)|(go_at_call 52;obtain⟨t0,t1,t2,z0,b0⟩:=ST.out _ rfl;refine(HNUM.out _).mono ?_;rintro e w2 ⟨rfl,hb2⟩;have hlt1:=zaC (zaH _) (Nat.le_of_lt z0.lt);have u0:=(hb2.cell (p:=⟨w.heap.size+1,0,none⟩) hlt1).trans t0;have u1:=(hb2.cell (p:=⟨w.heap.size+1,1,none⟩) hlt1).trans t1;have u2:=(hb2.cell (p:=⟨w.heap.size+1,2,none⟩) hlt1).trans t2;have hl2:=zaC hlt1 hb2.size;have B2:=hid (aC b0 hb2);have Z2:=hid (z0.below hb2 z0.lt);clear hb2 t0 t1 t2 z0 b0 hlt1)|(go_at_call 125;refine(HDG.out _).mono ?_;rintro e w1 ⟨rfl,rfl⟩))
  go_region
  all_goals (go_wp2_with fail)
  all_goals first|exact zbD (v:=.tuple #[.agg #[.int .i64 g',.string A,.string B,.string C],.string (S.extract T S.size),.bool false]) (by simp[results,Tryz.results124,go_sem, *]) rfl ⟨by rw[<-HR.out];rfl,by have BB:=B3.out;have hB:=BB.size;repeat (first|with_reducible exact BB|with_reducible refine zbE ?_|with_reducible refine zbF ?_ (by first|(simp;done)|(simp;omega)) _|with_reducible refine zbG ?_ (by first|exact BB.size|(simp;omega)) _)⟩|exact zbD (v:=.tuple #[.agg #[.int .i64 g',.string A,.string B,.string C],.string (S.extract T S.size),.bool true]) (by simp[results,Tryz.results124,go_sem, *]) rfl ⟨by rw[<-HR.out];rfl,by have BB:=B3.out;have hB:=BB.size;repeat (first|with_reducible exact BB|with_reducible refine zbE ?_|with_reducible refine zbF ?_ (by first|(simp;done)|(simp;omega)) _|with_reducible refine zbG ?_ (by first|exact BB.size|(simp;omega)) _)⟩
theorem zZ (v:Value) (S:ByteArray) (hS:S.size<=1048576) (q n c:Nat) (N:ByteArray) (fa:Option Addr) (w:World)
  (hnum:∀ wz,Calls Tryz.prog 52 #[.string (S.extract 0 (S.data.toList.takeWhile Wf.aD).length),.int .i64 200] wz fun e w'=>(∃ m:Int,e=.returned (.tuple #[.int .i64 m,.bool false]))/\Below wz.heap.size wz w')
  (hfld:∀ (m:Int) wz,Below w.heap.size w wz->Calls Tryz.prog 150 #[.agg #[.int .u8 q,.string N,.slice fa n c],.int .i64 m] wz fun e w'=>(∃ (g':Int) (A B C:ByteArray) (b2:Bool),e=.returned (.tuple #[.agg #[.int .i64 g',.string A,.string B,.string C],.bool b2]))/\Below wz.heap.size wz w') :
  Calls Tryz.prog 124 #[.agg #[v],.string S,.agg #[.int .u8 q,.string N,.slice fa n c]] w fun e w'=>(∃ (g':Int) (A B C:ByteArray),e=.returned (.tuple #[.agg #[.int .i64 g',.string A,.string B,.string C],tx (S.data.toList.dropWhile Wf.aD),.bool false]))/\Below w.heap.size w w':=by
 have HDG:=hid fun wz=>lE S wz hS;obtain⟨T,hT⟩:∃ T,(S.data.toList.takeWhile Wf.aD).length=T:=⟨_,rfl⟩;have hle:T<=S.size:=by rw[<-hT,<-aE];exact fI _ _
 have k1:=gH S T hle;have k2:=bD S T hle;have HR:=hid (show(⟨(S.data.toList.dropWhile Wf.aD).toArray⟩:ByteArray)=S.extract T S.size by rw[aQ,cI,<-hT,jS]);rw[hT] at hnum HDG;have HNUM:=hid hnum;have HFLD:=hid hfld;have ST:=hid fun W1 h=>pF w v q n c N fa W1 h;clear hnum hfld hT;go_enter Tryz.func124,Tryz.ntmps124;go_wp2_with (first|(go_at_call 150;refine(HFLD.out _ _ B2.out).mono ?_;rintro e w3 ⟨⟨g',A,B,C,b2,rfl⟩,hb3⟩;have B3:=hid (B2.out.trans (hb3.mono B2.out.size));obtain⟨zl,zr0,zr1,zr2,zr3,zf0,zf1,zf2,zf3⟩:=Z2.out.below hb3 Z2.out.lt;clear hb3)|(go_at_call 52;obtain⟨t0,t1,t2,z0,b0⟩:=ST.out _ rfl;refine(HNUM.out _).mono ?_;rintro e w2 ⟨⟨m,rfl⟩,hb2⟩;have hlt1:=zaC (zaH _) (Nat.le_of_lt z0.lt);have u0:=(hb2.cell (p:=⟨w.heap.size+1,0,none⟩) hlt1).trans t0;have u1:=(hb2.cell (p:=⟨w.heap.size+1,1,none⟩) hlt1).trans t1;have u2:=(hb2.cell (p:=⟨w.heap.size+1,2,none⟩) hlt1).trans t2;have hl2:=zaC hlt1 hb2.size;have B2:=hid (aC b0 hb2);have Z2:=hid (z0.below hb2 z0.lt);clear hb2 t0 t1 t2 z0 b0 hlt1)|(go_at_call 125;refine(HDG.out _).mono ?_;rintro e w1 ⟨rfl,rfl⟩))
 go_region
 all_goals (go_wp2_with fail)
 all_goals exact zbD (v:=.tuple #[.agg #[.int .i64 g',.string A,.string B,.string C],.string (S.extract T S.size),.bool false]) (by simp[results,Tryz.results124,go_sem, *]) rfl ⟨⟨g',A,B,C,by rw[<-HR.out]⟩,by have BB:=B3.out;have hB:=BB.size;repeat (first|with_reducible exact BB|with_reducible refine zbE ?_|with_reducible refine zbF ?_ (by first|(simp;done)|(simp;omega)) _|with_reducible refine zbG ?_ (by first|exact BB.size|(simp;omega)) _)⟩
theorem kN (t:Wf.Ty) (ht:t.fields.length<=1000) (v:Value) (S:ByteArray) (hS:S.size<=1048576) (fb c:Nat) (fa:Option Addr) (W w:World) (hW:Below W.heap.size W w) (H:RowK W fb (.slice fa t.fields.length c) 4 (t.fields.map (fdS t.sort))) :
  Calls Tryz.prog 124 #[.agg #[v],.string S,.agg #[.int .u8 t.sort.toNat,tx t.name,.slice fa t.fields.length c]] w fun e w'=>bV t S.data.toList e/\Below w.heap.size w w':=by
 have hle:(S.extract 0 (S.data.toList.takeWhile Wf.aD).length).size<=9223372036854775807:=by rw[zaY];omega
 have hnum:=fun wz=>gJ (S.extract 0 (S.data.toList.takeWhile Wf.aD).length) 200 (by omega) wz hle;rw[kY] at hnum;have hf:=fun(g:Int) (wz:World) (hz:Below w.heap.size w wz)=>kI t ht g t.sort.toNat ⟨t.name.toArray⟩ fb fa c W wz (hW.trans (hz.mono hW.size)) H;cases hp:Wf.aI (S.data.toList.takeWhile Wf.aD) 200 with
 | none =>
  refine(zZ v S hS t.sort.toNat t.fields.length c ⟨t.name.toArray⟩ fa w (fun wz=>(hnum wz).mono fun e w' ⟨h1,h2⟩=>⟨by unfold aZ at h1;rw[hp] at h1;exact h1,h2⟩) (fun m wz hz=>(hf m wz hz).mono fun e w' ⟨h1,h2⟩=>⟨?_,h2⟩)).mono fun e w' ⟨h1,h2⟩=>⟨?_,h2⟩
  ·rw[h1]
   cases bJ t m with
   | none=>exact⟨_,_,_,_,_,rfl⟩
   | some f=>exact⟨_,_,_,_,_,rfl⟩
  ·unfold bV tagF
   rw[hp];exact h1
 | some g =>
  have h1:∀ wz,Calls Tryz.prog 52 #[.string (S.extract 0 (S.data.toList.takeWhile Wf.aD).length),.int .i64 200] wz fun e w'=>e=.returned (.tuple #[.int .i64 g,.bool true])/\Below wz.heap.size wz w':=fun wz=>(hnum wz).mono fun e w' ⟨h1,h2⟩=>⟨by unfold aZ at h1;rw[hp] at h1;exact h1,h2⟩;cases hg:t.field g with
  | none =>
   refine(pG v S hS t.sort.toNat t.fields.length c ⟨t.name.toArray⟩ fa g 0 ⟨#[]⟩ ⟨#[]⟩ ⟨#[]⟩ true false w h1 (fun wz hz=>(hf g wz hz).mono fun e w' ⟨h3,h4⟩=>⟨by rw[h3,cJ,hg];rfl,h4⟩)).mono fun e w' ⟨h5,h6⟩=>⟨?_,h6⟩;unfold bV tagF;rw[hp,h5];simp only[Option.bind_some,hg];exact⟨_,_,_,_,rfl⟩
  | some f =>
   refine(pG v S hS t.sort.toNat t.fields.length c ⟨t.name.toArray⟩ fa g f.tag ⟨f.name.toArray⟩ ⟨(if t.sort=69 then [] else f.kind.text).toArray⟩ ⟨f.given.toArray⟩ true true w h1 (fun wz hz=>(hf g wz hz).mono fun e w' ⟨h3,h4⟩=>⟨by rw[h3,cJ,hg];rfl,h4⟩)).mono fun e w' ⟨h5,h6⟩=>⟨?_,h6⟩;unfold bV tagF;rw[hp,h5];simp only[Option.bind_some,hg];rfl

def aB (o:Option (Wf.V × List UInt8)) (w:World) (e:Ending) (w':World):Prop:=match o with
 | some y=>∃ b,e=.returned (.tuple #[ptr b,tx y.2,.bool true])/\LV w' (fun z=>w.heap.size<=z) y.1 b
 | none=>∃ (p:Option Addr) (r:ByteArray),e=.returned (.tuple #[.pointer p,.string r,.bool false])
theorem aB.no {o:Option (Wf.V × List UInt8)} {w w':World} {e:Ending} (h:o=none) (he:∃ (p:Option Addr) (r:ByteArray),e=.returned (.tuple #[.pointer p,.string r,.bool false])):aB o w e w':=by
 subst h;exact he
theorem aB.yes {o:Option (Wf.V × List UInt8)} {w w':World} {e:Ending} {v:Wf.V} {r:List UInt8} (h:o=some (v,r)) (he:∃ b,e=.returned (.tuple #[ptr b,tx r,.bool true])/\LV w' (fun z=>w.heap.size<=z) v b):aB o w e w':=by
 subst h;exact he
theorem gP (w:World) (b:Nat):aH w b (.slice none 0 0) []:=⟨none,0,rfl,zaA,by unfold maxLen;omega,.inl rfl⟩
theorem LV.new {w W:World} {P:Nat->Prop} {what:UInt8} {text kd t:List UInt8} {tag:Nat} (h61:what≠61) (hs:bG what text kd t) (ht:bU what tag []=[]) (hp:P w.heap.size) (hlt:w.heap.size<W.heap.size)
  (c0:W.cell? ⟨w.heap.size,0,none⟩=some (tx kd)) (c1:W.cell? ⟨w.heap.size,1,none⟩=some (tx t)) (c2:W.cell? ⟨w.heap.size,2,none⟩=some (.slice none 0 0)) (c3:W.cell? ⟨w.heap.size,3,none⟩=some (.slice none 0 0)):LV W P (.mk what text tag []) w.heap.size :=
 LV.mk (bs:=[]) (tb:=0) (kb:=0) h61 hp hlt c0 c1 c2 c3 (by rw[ht];exact gP _ _) (.inl ht) (gP _ _) (.inl rfl) hs (by simp only[LVs])
theorem zK (x:Wf.Sc) (n:Nat) (v:Value) (S:ByteArray) (hS:S.size<=1048576) (w:World):Calls Tryz.prog 88 #[.agg #[v],.string S,tx [110]] w fun e w'=>aB (Wf.parse x (n+1) .num S.data.toList) w e w'/\Below w.heap.size w w':=by
 have HDG:=hid fun wz=>lE S wz hS;have hle:(S.extract 0 (S.data.toList.takeWhile Wf.aD).length).size<=9223372036854775807:=by rw[zaY];omega
 have hnum:=fun wz=>gJ (S.extract 0 (S.data.toList.takeWhile Wf.aD).length) 999999 (by omega) wz hle;rw[kY] at hnum;obtain⟨T,hT⟩:∃ T,(S.data.toList.takeWhile Wf.aD).length=T:=⟨_,rfl⟩;have hTle:T<=S.size:=by rw[<-hT,<-aE];exact fI _ _
 have k1:=gH S T hTle;have k2:=bD S T hTle;have HX:=hid (show S.extract 0 T=⟨(S.data.toList.takeWhile Wf.aD).toArray⟩ by rw[aQ,<-hT,kY]);have HR:=hid (show S.extract T S.size=⟨(S.data.toList.dropWhile Wf.aD).toArray⟩ by rw[aQ,cI,<-hT,jS]);rw[hT] at HDG hnum;obtain⟨X1,hX1⟩:∃ X1,S.extract 0 T=X1:=⟨_,rfl⟩;obtain⟨X2,hX2⟩:∃ X2,S.extract T S.size=X2:=⟨_,rfl⟩;rw[hX1] at k1 HX hnum;rw[hX2] at k2 HR;cases hp:Wf.aI (S.data.toList.takeWhile Wf.aD) 999999 with
 | none =>
  have HP:=hid (show Wf.parse x (n+1) .num S.data.toList=none by rw[Wf.iK,Wf.aO,hp];rfl);have HNUM:=hid fun wz=>(hnum wz).mono (R':=fun e w'=>(∃ m:Int,e=.returned (.tuple #[.int .i64 m,.bool false]))/\Below wz.heap.size wz w') fun e w' ⟨h1,h2⟩=>⟨by unfold aZ at h1;rw[hp] at h1;exact h1,h2⟩;clear hnum hp hT hX1 hX2;go_enter Tryz.func88,Tryz.ntmps88;go_wp2_with (first|(go_at_call 52;refine(HNUM.out _).mono ?_;rintro e w2 ⟨⟨m,rfl⟩,hb2⟩;have B2:=hid (aC ((zaB).alloc (zaA) _) hb2);clear hb2)|(go_at_call 125;refine(HDG.out _).mono ?_;rintro e w1 ⟨rfl,rfl⟩))
  go_region
  all_goals (go_wp2_with fail)
  all_goals exact zbD (v:=.tuple #[ptr w2.heap.size,.string X2,.bool false]) (by simp[results,Tryz.results88,go_sem, *]) rfl ⟨aB.no HP.out ⟨_,_,rfl⟩,by have BB:=B2.out;have hB:=BB.size;repeat (first|with_reducible exact BB|with_reducible refine zbE ?_|with_reducible refine zbG ?_ (by first|exact BB.size|(simp;omega)) _)⟩
 | some g =>
  have HP:=hid (show Wf.parse x (n+1) .num S.data.toList=some (.mk 110 (S.data.toList.takeWhile Wf.aD) 0 [],S.data.toList.dropWhile Wf.aD) by rw[Wf.iK,Wf.aO,hp,(Wf.dP hp).1];rfl);have HNUM:=hid fun wz=>(hnum wz).mono (R':=fun e w'=>e=.returned (.tuple #[.int .i64 g,.bool true])/\Below wz.heap.size wz w') fun e w' ⟨h1,h2⟩=>⟨by unfold aZ at h1;rw[hp] at h1;exact h1,h2⟩;clear hnum hp hT hX1 hX2;go_enter Tryz.func88,Tryz.ntmps88;go_wp2_with (first|(go_at_call 52;refine(HNUM.out _).mono ?_;rintro e w2 ⟨rfl,hb2⟩;have B2:=hid (aC ((zaB).alloc (zaA) _) hb2);clear hb2)|(go_at_call 125;refine(HDG.out _).mono ?_;rintro e w1 ⟨rfl,rfl⟩))
  go_region
  all_goals (go_wp2_with fail)
  all_goals exact zbD (v:=.tuple #[ptr w2.heap.size,.string X2,.bool true]) (by simp[results,Tryz.results88,go_sem, *]) rfl (by
   have hR:∀ W3:World,W3.heap.size=w2.heap.size->Below w.heap.size w W3->(aB (Wf.parse x (n+1) .num S.data.toList) w (.returned (.tuple #[ptr w2.heap.size,.string X2,.bool true])) (W3.alloc (.cells #[tx [110],.string X1,.slice none 0 0,.slice none 0 0] 103))/\Below w.heap.size w (W3.alloc (.cells #[tx [110],.string X1,.slice none 0 0,.slice none 0 0] 103))):=fun W3 h1 h2=>by
    refine⟨aB.yes HP.out ⟨w2.heap.size,by rw[HR.out],?_⟩,h2.alloc h2.size _⟩;rw[<-h1];rw[HX.out];exact LV.new (kd:=[110]) (t:=S.data.toList.takeWhile Wf.aD) (by decide) ⟨rfl,rfl⟩ rfl (h2.size) (by simp) (by simp[go_sem]) (by simp[go_sem]) (by simp[go_sem]) (by simp[go_sem])
   first|exact hR w2 rfl B2.out|exact hR w2.drew rfl B2.out.drew)
theorem zU {l:List UInt8} (h:Wf.quoted l=true):l=39::(l.tail.dropLast++[39]):=by
 obtain⟨b,rfl,_,_⟩:=Wf.eL.1 h;simp
theorem a3L (x:Wf.Sc) (n:Nat) (l:List UInt8):Wf.parse x (n+1) .txt l=if Wf.quoted (l.take (Wf.cN l))=true then some (.mk 116 (l.take (Wf.cN l)).tail.dropLast 0 [],l.drop (Wf.cN l)) else none:=by
 cases l with
 | nil=>rw[Wf.rM];rfl
 | cons a r=>exact Wf.xY x n a r
theorem wC (x:Wf.Sc) (n:Nat) (v:Value) (S:ByteArray) (hS:S.size<=1048576) (w:World):Calls Tryz.prog 88 #[.agg #[v],.string S,tx [116]] w fun e w'=>aB (Wf.parse x (n+1) .txt S.data.toList) w e w'/\Below w.heap.size w w':=by
 obtain⟨E,hE⟩:∃ E,Wf.cN S.data.toList=E:=⟨_,rfl⟩;have hEle:E<=S.size:=by rw[<-hE,<-aE];exact Wf.a0P _
 have k1:=gH S E hEle;have k2:=bD S E hEle;have HX:=hid (show S.extract 0 E=⟨(S.data.toList.take E).toArray⟩ by rw[aQ,bH,List.drop_zero,Nat.sub_zero]);have HR:=hid (show S.extract E S.size=⟨(S.data.toList.drop E).toArray⟩ by rw[aQ,cI]);have htx:=fun wz=>lW (S.extract 0 E) wz (by rw[zaY];omega);rw[show(S.extract 0 E).data.toList=S.data.toList.take E by rw[bH,List.drop_zero,Nat.sub_zero]] at htx;obtain⟨Q,hQ⟩:∃ Q,Wf.quoted (S.data.toList.take E)=Q:=⟨_,rfl⟩;have hpt:=a3L x n S.data.toList;rw[hE,hQ] at hpt;have HP:=hid hpt;have HQ:=hid hQ;rw[hQ] at htx;obtain⟨X1,hX1⟩:∃ X1,S.extract 0 E=X1:=⟨_,rfl⟩;obtain⟨X2,hX2⟩:∃ X2,S.extract E S.size=X2:=⟨_,rfl⟩;rw[hX1] at k1 HX htx;rw[hX2] at k2 HR;have HTX:=hid htx;obtain⟨K,hK⟩:∃ K,1+(S.data.toList.tail.takeWhile Wf.bI).length=K:=⟨_,rfl⟩;have hEK:E=min (K+1) S.size:=by rw[<-hE,Wf.cN,aE,hK]
 have hKS:S.size≠0->K<=S.size:=fun h=>by
  rw[<-hK];have h1:=fI Wf.bI S.data.toList.tail;rw[List.length_tail,aE] at h1;omega
 have HIN:=hid fun(i:Nat) (h1:1<=i) (h:i<K)=>(show ∃ c,S.data.toList[i]? = some c/\Wf.bI c=true by
  obtain⟨c,hc,hp⟩:=sB (p:=Wf.bI) (l:=S.data.toList.tail) (i:=i-1) (by omega);rw[List.getElem?_tail,show i-1+1=i by omega] at hc;exact⟨c,hc,hp⟩)
 have HAT:=hid fun(c:UInt8) (h:S.data.toList[K]? = some c)=>(show Wf.bI c=false by
  refine nQ (p:=Wf.bI) (l:=S.data.toList.tail) ?_;rw[List.getElem?_tail,show(S.data.toList.tail.takeWhile Wf.bI).length+1=K by omega];exact h)
 have hK1:1<=K:=by omega
 have hK2:K<=1048577:=by
  by_cases h:S.size=0
  ·rw[<-hK]
   have h1:=fI Wf.bI S.data.toList.tail;rw[List.length_tail,aE] at h1;omega
  ·have:=hKS h;omega
 have hmin:min ((K:Int)+1) (S.size:Int)=(E:Int):=by rw[hEK];omega
 have HMIN:=hid hmin;clear hpt hQ htx hX1 hX2 hE hK hEK hKS hmin;go_enter Tryz.func88,Tryz.ntmps88;go_wp2_with fail
 go_loop [9] (fun v=>∃ i:Nat,1<=i/\i<=K/\v=.int .i64 i) (fun v=>K-(RowKit.intOf v).toNat)
 case atStart=>exact⟨1,zaA,hK1,rfl⟩
 case round =>
  obtain⟨i,hi1,hi,rfl⟩:=hrel;by_cases hlt:i<K
  ·obtain⟨c',hc',hd⟩:=HIN.out i hi1 hlt
   have his:i<S.size:=(by rw[<-aE];exact(List.getElem?_eq_some_iff.1 hc').1);obtain⟨c,hc,e1⟩:=byte_at S i his;rw[hc] at hc';obtain rfl:=Option.some.inj hc';obtain⟨b,hb⟩:∃ b,c.toNat=b:=⟨_,rfl⟩;rw[hb] at e1;have h1:((b:Int) != 39)=true:=by
    rw[bne_iff_ne];intro h;have h39:c=39:=UInt8.toNat_inj.1 (by rw[hb];show b=39;omega);rw[h39] at hd;exact absurd hd (by decide)
   clear hc hc' hd hb;go_wp2_with fail
   go_round
   case rel=>exact⟨i+1,by omega,by omega,by go_num⟩
   case measure=>simp[RowKit.intOf];omega
  ·have hiT:i=K:=by omega
   subst hiT;have fin:∀ b:Bool,Q=b->∀ W3:World,W3.heap.size=w.heap.size+1->Below w.heap.size w W3->(aB (Wf.parse x (n+1) .txt S.data.toList) w (.returned (.tuple #[ptr (w.heap.size+1),.string X2,.bool b])) (W3.alloc (.cells #[tx [116],.string X1,.slice none 0 0,.slice none 0 0] 103))/\Below w.heap.size w (W3.alloc (.cells #[tx [116],.string X1,.slice none 0 0,.slice none 0 0] 103))):=fun b hb W3 h1 h2=>by
    refine⟨?_,h2.alloc h2.size _⟩;cases b with
    | false=>exact aB.no (by rw[HP.out,hb];rfl) ⟨_,_,rfl⟩
    | true =>
     refine aB.yes (by rw[HP.out,hb,if_pos rfl]) ⟨w.heap.size+1,by rw[HR.out],?_⟩;rw[<-h1,HX.out];exact LV.new (kd:=[116]) (t:=S.data.toList.take E) (by decide) ⟨rfl,zU (by rw[HQ.out,hb])⟩ rfl (h2.size) (by simp) (by simp[go_sem]) (by simp[go_sem]) (by simp[go_sem]) (by simp[go_sem])
   have FIN:=hid fin;clear fin;have hmin:=HMIN.out;by_cases his:i<S.size
   ·obtain⟨c,hc,e1⟩:=byte_at S i his
    have hd:=HAT.out c hc;have h39:c=39:=(by simpa[Wf.bI] using hd);have hb:c.toNat=39:=(by rw[h39];rfl);rw[hb] at e1;clear hc hd h39 hb;go_wp2_with fail
    go_region_with (go_at_call 126;refine(HTX.out _).mono ?_;rintro e w1 ⟨rfl,rfl⟩)
    all_goals (go_wp2_with fail)
    all_goals exact zbD (v:=.tuple #[ptr (w.heap.size+1),.string X2,.bool Q]) (by simp[results,Tryz.results88,go_sem, *]) rfl (by
     have B0:=(Below.refl w.heap.size w).alloc (zaA) (.cells #[v] 99);first|exact FIN.out Q rfl _ (by simp) B0|exact FIN.out Q rfl _ (by simp) B0.drew)
   ·have his2:S.size<=i:=by omega
    clear his;go_wp2_with fail
    go_region_with (go_at_call 126;refine(HTX.out _).mono ?_;rintro e w1 ⟨rfl,rfl⟩)
    all_goals (go_wp2_with fail)
    all_goals exact zbD (v:=.tuple #[ptr (w.heap.size+1),.string X2,.bool Q]) (by simp[results,Tryz.results88,go_sem, *]) rfl (by
     have B0:=(Below.refl w.heap.size w).alloc (zaA) (.cells #[v] 99);first|exact FIN.out Q rfl _ (by simp) B0|exact FIN.out Q rfl _ (by simp) B0.drew)

theorem oS (S:ByteArray) (p:List UInt8) (h:p.length<=S.size):((S.extract 0 p.length).toList==p)=decide (p <+: S.data.toList):=by
 rw[zaZ,bH,List.drop_zero,Nat.sub_zero,Bool.beq_eq_decide_eq,decide_eq_decide];rw[List.prefix_iff_eq_take];exact eq_comm
def dV (l:List UInt8) (v:Value):Prop:=v=.int .i64 0\/(v=.int .i64 1/\¬ [121,101,115] <+: l)\/(v=.int .i64 2/\¬ [121,101,115] <+: l/\¬ [110,111] <+: l)
theorem tQ (x:Wf.Sc) (n:Nat) (v:Value) (S:ByteArray) (hS:S.size<=1048576) (w:World):Calls Tryz.prog 88 #[.agg #[v],.string S,tx [102]] w fun e w'=>aB (Wf.parse x (n+1) .flag S.data.toList) w e w'/\Below w.heap.size w w':=by
 go_enter Tryz.func88,Tryz.ntmps88;go_wp2_with fail
 go_loop [70] (fun v=>dV S.data.toList v) (fun v=>2-(RowKit.intOf v).toNat)
 case atStart=>exact .inl rfl
 case round =>
  rcases hrel with rfl|⟨rfl,hy⟩|⟨rfl,hy,hn⟩
  ·by_cases h3:3<=S.size
   ·have hpe:=oS S [121,101,115] h3
    rw[show([121,101,115]:List UInt8).length=3 from rfl] at hpe;cases hd:decide ([121,101,115] <+: S.data.toList) with
    | true =>
     rw[hd] at hpe;obtain⟨q,hq⟩:=of_decide_eq_true hd;have HP:=hid (show Wf.parse x (n+1) .flag S.data.toList=some (.mk 102 [121,101,115] 0 [],q) by rw[<-hq];exact Wf.pQ x n q);have HR:=hid (show S.extract 3 S.size=⟨q.toArray⟩ by rw[aQ,cI,<-hq];rfl);clear hd hq;go_wp2_with fail
     go_region
     all_goals (go_wp2_with fail)
     all_goals exact zbD (v:=.tuple #[ptr (w.heap.size+1+1),.string (S.extract 3 S.size),.bool true]) (by simp[results,Tryz.results88,go_sem, *]) rfl (by
      have hR:∀ W3:World,W3.heap.size=w.heap.size+1+1->Below w.heap.size w W3->(aB (Wf.parse x (n+1) .flag S.data.toList) w (.returned (.tuple #[ptr (w.heap.size+1+1),.string (S.extract 3 S.size),.bool true])) (W3.alloc (.cells #[tx [102],tx [121,101,115],.slice none 0 0,.slice none 0 0] 103))/\Below w.heap.size w (W3.alloc (.cells #[tx [102],tx [121,101,115],.slice none 0 0,.slice none 0 0] 103))):=fun W3 h1 h2=>by
       refine⟨aB.yes HP.out ⟨w.heap.size+1+1,by rw[HR.out],?_⟩,h2.alloc h2.size _⟩;rw[<-h1];exact LV.new (kd:=[102]) (t:=[121,101,115]) (by decide) ⟨rfl,rfl⟩ rfl (h2.size) (by simp) (by simp[go_sem]) (by simp[go_sem]) (by simp[go_sem]) (by simp[go_sem])
      have B0:=((Below.refl w.heap.size w).alloc (zaA) (.cells #[v] 99)).alloc (by simp) (.cells #[.string ⟨#[121,101,115]⟩,.string ⟨#[110,111]⟩] 9);first|exact hR _ (by simp) B0|exact hR _ (by simp) B0.drew)
    | false =>
     rw[hd] at hpe;have HD:=hid (of_decide_eq_false hd);clear hd;go_wp2_with fail
     go_round
     all_goals first|exact⟨(.inr (.inl ⟨rfl,HD.out⟩):dV S.data.toList (.int .i64 1)),by simp[RowKit.intOf]⟩|exact(.inr (.inl ⟨rfl,HD.out⟩):dV S.data.toList (.int .i64 1))|(simp[RowKit.intOf];done)
   ·have HD:=hid (show ¬ [121,101,115] <+: S.data.toList from fun h=>by have:=h.length_le;rw[aE] at this;simp at this;omega)
    have h3d:decide (3<=S.size)=false:=decide_eq_false h3;have h3i:(S.size:Int)<3:=(by omega);go_wp2_with fail
    go_round
    all_goals first|exact⟨(.inr (.inl ⟨rfl,HD.out⟩):dV S.data.toList (.int .i64 1)),by simp[RowKit.intOf]⟩|exact(.inr (.inl ⟨rfl,HD.out⟩):dV S.data.toList (.int .i64 1))|(simp[RowKit.intOf];done)
  ·have HY:=hid hy
   clear hy;by_cases h3:2<=S.size
   ·have hpe:=oS S [110,111] h3
    rw[show([110,111]:List UInt8).length=2 from rfl] at hpe;cases hd:decide ([110,111] <+: S.data.toList) with
    | true =>
     rw[hd] at hpe;obtain⟨q,hq⟩:=of_decide_eq_true hd;have HP:=hid (show Wf.parse x (n+1) .flag S.data.toList=some (.mk 102 [110,111] 0 [],q) by rw[<-hq];exact Wf.nP x n q);have HR:=hid (show S.extract 2 S.size=⟨q.toArray⟩ by rw[aQ,cI,<-hq];rfl);clear hd hq;go_wp2_with fail
     go_region
     all_goals (go_wp2_with fail)
     all_goals exact zbD (v:=.tuple #[ptr (w.heap.size+1+1),.string (S.extract 2 S.size),.bool true]) (by simp[results,Tryz.results88,go_sem, *]) rfl (by
      have hR:∀ W3:World,W3.heap.size=w.heap.size+1+1->Below w.heap.size w W3->(aB (Wf.parse x (n+1) .flag S.data.toList) w (.returned (.tuple #[ptr (w.heap.size+1+1),.string (S.extract 2 S.size),.bool true])) (W3.alloc (.cells #[tx [102],tx [110,111],.slice none 0 0,.slice none 0 0] 103))/\Below w.heap.size w (W3.alloc (.cells #[tx [102],tx [110,111],.slice none 0 0,.slice none 0 0] 103))):=fun W3 h1 h2=>by
       refine⟨aB.yes HP.out ⟨w.heap.size+1+1,by rw[HR.out],?_⟩,h2.alloc h2.size _⟩;rw[<-h1];exact LV.new (kd:=[102]) (t:=[110,111]) (by decide) ⟨rfl,rfl⟩ rfl (h2.size) (by simp) (by simp[go_sem]) (by simp[go_sem]) (by simp[go_sem]) (by simp[go_sem])
      have B0:=((Below.refl w.heap.size w).alloc (zaA) (.cells #[v] 99)).alloc (by simp) (.cells #[.string ⟨#[121,101,115]⟩,.string ⟨#[110,111]⟩] 9);first|exact hR _ (by simp) B0|exact hR _ (by simp) B0.drew)
    | false =>
     rw[hd] at hpe;have HD:=hid (of_decide_eq_false hd);clear hd;go_wp2_with fail
     go_round
     all_goals first|exact⟨(.inr (.inr ⟨rfl,HY.out,HD.out⟩):dV S.data.toList (.int .i64 2)),by simp[RowKit.intOf]⟩|exact(.inr (.inr ⟨rfl,HY.out,HD.out⟩):dV S.data.toList (.int .i64 2))|(simp[RowKit.intOf];done)
   ·have HD:=hid (show ¬ [110,111] <+: S.data.toList from fun h=>by have:=h.length_le;rw[aE] at this;simp at this;omega)
    have h3d:decide (2<=S.size)=false:=decide_eq_false h3;have h3i:(S.size:Int)<2:=(by omega);go_wp2_with fail
    go_round
    all_goals first|exact⟨(.inr (.inr ⟨rfl,HY.out,HD.out⟩):dV S.data.toList (.int .i64 2)),by simp[RowKit.intOf]⟩|exact(.inr (.inr ⟨rfl,HY.out,HD.out⟩):dV S.data.toList (.int .i64 2))|(simp[RowKit.intOf];done)
  ·have HP:=hid (Wf.nC x n hy hn)
   clear hy hn;go_wp2_with fail
   exact zbD (v:=.tuple #[.pointer none,.string S,.bool false]) (by simp[results,Tryz.results88,go_sem, *]) rfl ⟨aB.no HP.out ⟨_,_,rfl⟩,((Below.refl w.heap.size w).alloc (zaA) _).alloc (by simp) _⟩

theorem LVs.snoc {W:World} {P:Nat->Prop} {u:Wf.V} {b:Nat} (hu:LV W P u b):∀ {l:List Wf.V} {bs:List Nat},LVs W P l bs->LVs W P (l++[u]) (bs++[b]):=by
 intro l;induction l with
 | nil =>
  intro bs h;obtain rfl:=h.none;simp only[List.nil_append,LVs];exact⟨b,[],rfl,hu,rfl⟩
 | cons v l ih =>
  intro bs h;simp only[LVs] at h;obtain⟨b',bs',rfl,h1,h2⟩:=h;simp only[zaN,LVs];exact⟨b',_,rfl,h1,ih h2⟩
structure KB (w wr:World) (vb base:Nat) (a:Option Addr) (m c:Nat) (l:List Wf.V) (bs:List Nat):Prop where
 lt:vb<base
 le:w.heap.size<=vb
 sz:base<=wr.heap.size
 v3:wr.cell? ⟨vb,3,none⟩=some (.slice a m c)
 f3:wr.frozen? ⟨vb,3,none⟩=false
 own:wr.ownsRow base 57 1 (.slice a m c) m (bs.map ptr)
 hl:bs.length=m
 vals:LVs wr (fun y=>base<=y/\some y≠(Value.slice a m c).ownBlock) l bs
theorem KB.step {w wr w2:World} {vb base m c:Nat} {a:Option Addr} {l:List Wf.V} {bs:List Nat} (h:KB w wr vb base a m c l bs) (hb:Below wr.heap.size wr w2):KB w w2 vb base a m c l bs:=by
 have hv:vb<wr.heap.size:=zaC h.lt h.sz;exact⟨h.lt,h.le,zaI h.sz hb.size,(hb.cell (p:=⟨vb,3,none⟩) hv).trans h.v3,(hb.frozen (p:=⟨vb,3,none⟩) hv).trans h.f3,bY h.own hb,h.hl,LVs.keep (fun y hy hlt=>⟨hy,hb.block y hlt⟩) hb.size _ _ h.vals⟩
theorem KB.put {w wr:World} {vb base m c:Nat} {a:Option Addr} {l:List Wf.V} {bs:List Nat} (h:KB w wr vb base a m c l bs) {wx w4:World} (hx:Below wr.heap.size wr wx) (hg:wx.grownBy w4 (Value.slice a m c).ownBlock) {g cap b:Nat} {u:Wf.V}
  (ho:w4.ownsRow base 57 1 (.slice (some ⟨g,0,none⟩) (m+1) cap) (m+1) (bs.map ptr++[ptr b])) (hat:(Value.slice a m c).ownBlock=some g\/g=wx.heap.size) (hv:LV wx (fun y=>wr.heap.size<=y) u b) :
  KB w (w4.setCell ⟨vb,3,none⟩ (.slice (some ⟨g,0,none⟩) (m+1) cap)) vb base (some ⟨g,0,none⟩) (m+1) cap (l++[u]) (bs++[b]):=by
 have hs:=h.step hx;have hlo:=aU hs.own;have hlo0:=aU h.own;have hB:Below base wx w4:=aW hg (fun g hgk=>(hlo g hgk).1) hs.sz;have hss:(w4.setCell ⟨vb,3,none⟩ (.slice (some ⟨g,0,none⟩) (m+1) cap)).heap.size=w4.heap.size:=by simp
 have c3:=(hB.cell (p:=⟨vb,3,none⟩) h.lt).trans hs.v3;have hloc:(Value.slice (some ⟨g,0,none⟩) (m+1) cap).ownBlock=(Value.slice a m c).ownBlock\/(Value.slice (some ⟨g,0,none⟩) (m+1) cap).ownBlock=some wx.heap.size:=by
  rcases hat with hat|hat
  ·exact .inl hat.symm
  ·exact .inr (by rw[<-hat];rfl)
 have hl:=h.lt;have hkeep:∀ y,base<=y->y<wx.heap.size->some y≠(Value.slice a m c).ownBlock->some y≠(Value.slice (some ⟨g,0,none⟩) (m+1) cap).ownBlock/\(w4.setCell ⟨vb,3,none⟩ (.slice (some ⟨g,0,none⟩) (m+1) cap)).heap[y]? = wx.heap[y]?:=fun y hy1 hy2 hy3=>by
  obtain⟨e1,e2⟩:=fE hg hloc hy2 hy3;refine⟨e2,?_⟩;rw[Below.heap_setCell w4 ⟨vb,3,none⟩ _ _ (by show y≠vb;omega)];exact e1
 refine⟨h.lt,h.le,by rw[hss];exact zaI hs.sz hB.size,zbC w4 _ _ c3,?_,?_,by rw[zaD,h.hl];rfl,LVs.snoc ?_ ?_⟩
 ·have:=(hB.frozen (p:=⟨vb,3,none⟩) h.lt).trans hs.f3
  simpa using this
 ·rw[List.map_append]
  exact ownsRow_setCell_below ho h.lt _
 ·exact LV.keep (fun y hp hlt=>by
   have hb1:base<=y:=zaI h.sz hp;have hb3:some y≠(Value.slice a m c).ownBlock:=fun he=>by
    have h5:=(hlo0 y he.symm).2;have h6:wr.heap.size<=y:=hp;omega
   obtain⟨e1,e2⟩:=hkeep y hb1 hlt hb3;exact⟨⟨hb1,e1⟩,e2⟩) (by rw[hss];exact hB.size) _ _ hv
 ·exact LVs.keep (fun y hp hlt=>by
   obtain⟨e1,e2⟩:=hkeep y hp.1 hlt hp.2;exact⟨⟨hp.1,e1⟩,e2⟩) (by rw[hss];exact hB.size) _ _ hs.vals
structure VBk (v:Value) (w wr:World) (rb vb:Nat) (KT T1:ByteArray):Prop where
 bl:Below w.heap.size w wr
 lt:vb<wr.heap.size
 rlt:rb<wr.heap.size
 r0:wr.cell? ⟨rb,0,none⟩=some v
 v0:wr.cell? ⟨vb,0,none⟩=some (.string KT)
 v1:wr.cell? ⟨vb,1,none⟩=some (.string T1)
theorem VBk.step {v:Value} {w wr w2:World} {rb vb:Nat} {KT T1:ByteArray} {B:Nat} (h:VBk v w wr rb vb KT T1) (hB:Below w.heap.size w w2) (hb:Below B wr w2) (h1:rb<B) (h2:vb<B):VBk v w w2 rb vb KT T1 :=
 ⟨hB,zaC h.lt hb.size,zaC h.rlt hb.size,(hb.cell (p:=⟨rb,0,none⟩) h1).trans h.r0,(hb.cell (p:=⟨vb,0,none⟩) h2).trans h.v0,(hb.cell (p:=⟨vb,1,none⟩) h2).trans h.v1⟩
theorem VBk.put {v:Value} {w wx w4:World} {rb vb base:Nat} {KT T1:ByteArray} (h:VBk v w wx rb vb KT T1) (hb:Below base wx w4) (h0:w.heap.size<=vb) (h1:vb<base) (h2:rb<base) (o:Nat) (ho:2<=o) (val:Value):VBk v w (w4.setCell ⟨vb,o,none⟩ val) rb vb KT T1:=by
 have hs:(w4.setCell ⟨vb,o,none⟩ val).heap.size=w4.heap.size:=by simp
 refine⟨(h.bl.trans (hb.mono (by omega))).setCell (p:=⟨vb,o,none⟩) h0 _,by rw[hs];exact zaC h.lt hb.size,by rw[hs];exact zaC h.rlt hb.size,?_,?_,?_⟩
 ·exact(zbA w4 _ _ _ (by simp <;> omega)).trans ((hb.cell (p:=⟨rb,0,none⟩) h2).trans h.r0)
 ·exact(zbA w4 _ _ _ (by simp <;> omega)).trans ((hb.cell (p:=⟨vb,0,none⟩) h1).trans h.v0)
 ·exact(zbA w4 _ _ _ (by simp <;> omega)).trans ((hb.cell (p:=⟨vb,1,none⟩) h1).trans h.v1)
theorem iC:(Tryz.prog.info? 57).map (fun i=>(i.zero,i.size,i.bytes))=some (some (.pointer none),1,8):=by kernel_rfl

def LR (x:Wf.Sc) (v:Value) (W:World) (n:Nat) (k:Wf.K):Prop:=∀ (S:ByteArray) (w:World),S.size<=1048576->Below W.heap.size W w->Calls Tryz.prog 51 #[.agg #[v],.string S,tx k.text,.int .i64 n] w fun e w'=>aB (Wf.parse x n k S.data.toList) w e w'/\Below w.heap.size w w'
def strN:Value->Nat
 | .string s=>s.size
 | _=>0
theorem KB.list {v:Value} {w wr:World} {vb base m c:Nat} {a:Option Addr} {l:List Wf.V} {bs:List Nat} {rb:Nat} {KT:ByteArray} (h:KB w wr vb base a m c l bs) (hv:VBk v w wr rb vb KT ⟨#[]⟩) (h2:wr.cell? ⟨vb,2,none⟩=some (.slice none 0 0)) (hk:KT.data.toList.head? = some 91):LV wr (fun y=>w.heap.size<=y) (.mk 91 [] 0 l) vb:=by
 have hbl:(bs.map ptr).length=m:=by rw[zaG,h.hl]
 obtain⟨b,hb,hrow⟩:=aH.cO (xs:=bs.map ptr) (by rw[hbl];exact h.own);have h1:=h.lt;have h3:=h.le;exact LV.mk (kd:=KT.data.toList) (t:=[]) (tb:=0) (kb:=b) (bs:=bs) (by decide) h3 hv.lt hv.v0 hv.v1 h2 h.v3 (gP _ _) (.inl rfl) hrow (.inr (by omega)) ⟨hk,rfl⟩ (LVs.keep (fun y hp hlt=>⟨by have:=hp.1;omega,rfl⟩) (zaA) _ _ h.vals)
theorem lU (w:World) (v:Value) (KT:ByteArray) (W1:World) (hW1:(w.alloc (.cells #[v] 99)).alloc (.cells #[.string KT,.string ⟨#[]⟩,.slice none 0 0,.slice none 0 0] 103)=W1) :
  VBk v w W1 w.heap.size (w.heap.size+1) KT ⟨#[]⟩/\KB w W1 (w.heap.size+1) (w.heap.size+1+1) none 0 0 [] []/\W1.cell? ⟨w.heap.size+1,2,none⟩=some (.slice none 0 0):=by
 have hB:Below w.heap.size w W1:=by
  rw[<-hW1];exact(((zaB).alloc (zaA) _).alloc (by simp) _)
 subst hW1;refine⟨⟨hB,?_,?_,?_,?_,?_⟩,⟨?_,?_,?_,?_,?_,World.ownsRow_nil _ _ _ _,rfl,by simp only[LVs]⟩,?_⟩;all_goals first|(simp[go_sem];done)|(simp[go_sem];omega)|omega
theorem fL (b:Nat):∀ u∈[ptr b],u.oneCell'=true:=by
 intro u hu;rw[List.mem_singleton.1 hu];rfl
section
variable (x:Wf.Sc) (v:Value) (W:World) (n:Nat) (k:Wf.K) (S:ByteArray) (D:Int) (w:World)
theorem vD (hS:S.size<=1048576) (hD:D=(n:Int)+1) (hn:n<=1000) (hh:S.data.toList.head? ≠ some 93) (IH:LR x v W n k) (hW:Below W.heap.size W w):Calls Tryz.prog 86 #[.agg #[v],.string S,tx (Wf.K.list k).text,.int .i64 D] w fun e w'=>aB (Wf.parse x (n+1) (.list k) (91::S.data.toList)) w e w'/\Below w.heap.size w w':=by
 have HP:=hid (Wf.pU x n k hh);obtain⟨KT,hKT⟩:∃ KT:ByteArray,(⟨(Wf.K.list k).text.toArray⟩:ByteArray)=KT:=⟨_,rfl⟩;obtain⟨K1,hK1⟩:∃ K1:ByteArray,(⟨k.text.toArray⟩:ByteArray)=K1:=⟨_,rfl⟩;have hkl:KT.data.toList=91::k.text:=by rw[<-hKT];rfl
 have hks:1<=KT.size:=by rw[<-aE,hkl];simp
 have hkx:KT.extract 1 KT.size=K1:=by rw[<-hK1,aQ,cI,hkl];rfl
 have kx:∀ wz,(Instr.slice 9 (.string KT) (some (.int .i64 1)) none none).run Tryz.prog wz=.ok (.string K1) wz:=fun wz=>by
  have h:=bD KT 1 hks wz;rw[hkx] at h;exact h
 have HKH:=hid (show KT.data.toList.head? = some 91 by rw[hkl];rfl);have hIH2:∀ (S:ByteArray) (w:World),S.size<=1048576->Below W.heap.size W w->Calls Tryz.prog 51 #[.agg #[v],.string S,.string K1,.int .i64 n] w fun e w'=>aB (Wf.parse x n k S.data.toList) w e w'/\Below w.heap.size w w':=by rw[<-hK1];exact IH
 have HRD:=hid hIH2;have HW:=hid hW;have kd:IntKind.i64.wrap (D-1)=(n:Int):=by rw[hD,Int.add_sub_cancel];exact zbI _ (by omega)
 have ST:=hid fun W1 h=>lU w v KT W1 h;have hg:S.toList.isEmpty=true\/(S.toList.isEmpty=false/\0<S.size/\∃ b:Nat,(∀ h,(S[0]'h).toNat=b)/\((b:Int)==93)=false):=by
  by_cases h0:S.size=0
  ·left
   rw[zaZ,List.isEmpty_iff];exact List.eq_nil_of_length_eq_zero (by rw[aE];exact h0)
  ·right
   obtain⟨c,hc,e1⟩:=byte_at S 0 (by omega);refine⟨?_,by omega,c.toNat,e1,?_⟩
   ·rw[zaZ,List.isEmpty_eq_false_iff]
    intro h;rw[h] at hc;simp at hc
   ·rw[zaJ]
    intro h;apply hh;rw[List.head?_eq_getElem?,hc];exact congrArg some (UInt8.toNat_inj.1 (by show c.toNat=93;omega))
 rw[tx,hKT];clear hh hKT hK1 hkl hkx hIH2 IH hW hD;rcases hg with hg1|⟨hg1,hg2,b0,e1,hb93⟩;all_goals
  go_enter Tryz.func86,Tryz.ntmps86;go_wp2_with fail
  obtain⟨vb0,kb0,t20⟩:=ST.out _ rfl;have VB0:=hid vb0;have KB0:=hid kb0;have T20:=hid t20;clear vb0 kb0 t20;go_loopw [1] (fun s1 wr=>∃ (C:ByteArray) (a:Option Addr) (m c:Nat) (l:List Wf.V) (bs:List Nat),s1=.string C/\C.size<=S.size/\m<=20/\Hid (VBk v w wr w.heap.size (w.heap.size+1) KT ⟨#[]⟩/\KB w wr (w.heap.size+1) (w.heap.size+1+1) a m c l bs/\wr.cell? ⟨w.heap.size+1,2,none⟩=some (.slice none 0 0)/\Wf.itemsL (Wf.parse x n k) [] S.data.toList=Wf.itemsL (Wf.parse x n k) l C.data.toList)) (fun s1 _=>strN s1)
  case atStart=>exact⟨S,none,0,0,[],[],rfl,zaA,Nat.zero_le _,hid ⟨VB0.out,KB0.out,T20.out,rfl⟩⟩
  case round =>
   obtain⟨C,a,m,c,l,bs,rfl,hCS,hm20,hh⟩:=hrel;have hv3:=hh.out.2.1.v3;have hf3:=hh.out.2.1.f3;have hr0:=hh.out.1.r0;have hlv:=hh.out.1.lt;have hlr:=hh.out.1.rlt;have hsz:=hh.out.2.1.sz;have HLL:=hid (show l.length=m by rw[<-hh.out.2.1.vals.len,hh.out.2.1.hl]);have HST:=hid (Wf.itemsL_step (fun s v r h=>Wf.dN (v:=v) (r:=r) h) l C.data.toList (p:=Wf.parse x n k));by_cases hlt:m<20
   ·have BW:=hid (HW.out.trans (hh.out.1.bl.mono HW.out.size))
    have HR:=hid (HRD.out C wr.drew (by omega) (BW.out.trans ⟨rfl,rfl,rfl,zaA,fun _ _=>rfl⟩));go_wp2_with fail
    cases hp:Wf.parse x n k C.data.toList with
    | none =>
     have HRES:=hid (show Wf.parse x (n+1) (.list k) (91::S.data.toList)=none by rw[HP.out,hh.out.2.2.2,HST.out,hp];rfl);have HO:=hid fun(e:Ending) (w':World) (h:aB (Wf.parse x n k C.data.toList) wr.drew e w')=>(by unfold aB at h;rw[hp] at h;exact h:∃ (p:Option Addr) (r:ByteArray),e=.returned (.tuple #[.pointer p,.string r,.bool false]));clear hp;go_region_held3 (fun w'=>w'.cell? ⟨w.heap.size,0,none⟩=some v) (first|exact j0|go_keep) ((go_at_call 51;refine HR.out.mono ?_;rintro e w3 ⟨ho,hb3⟩;obtain⟨p3,r3,rfl⟩:=HO.out _ _ ho;have HB3:=hid (zbE (Below.refl wr.heap.size wr) |>.trans hb3);have j0:=(HB3.out.cell (p:=⟨w.heap.size,0,none⟩) hlr).trans hr0;clear ho hb3))
     all_goals (go_wp2_with fail)
     all_goals exact zbD (v:=.tuple #[.pointer none,.string C,.bool false]) (by simp[results,Tryz.results86,go_sem, *]) rfl ⟨aB.no HRES.out ⟨_,_,rfl⟩,hh.out.1.bl.trans (HB3.out.mono hh.out.1.bl.size)⟩
    | some y =>
     obtain⟨u,rr⟩:=y;obtain⟨RR,hRR⟩:∃ RR:ByteArray,(⟨rr.toArray⟩:ByteArray)=RR:=⟨_,rfl⟩;have HRR:=hid hRR;have HLT:=hid (show rr.length<C.size by rw[<-aE];exact Wf.dN (v:=u) (r:=rr) hp);have HO:=hid fun(e:Ending) (w':World) (h:aB (Wf.parse x n k C.data.toList) wr.drew e w')=>(by unfold aB at h;rw[hp] at h;dsimp only at h;rw[tx,hRR] at h;exact h:∃ b,e=.returned (.tuple #[ptr b,.string RR,.bool true])/\LV w' (fun z=>wr.drew.heap.size<=z) u b);have HS2:=hid (show Wf.itemsL (Wf.parse x n k) l C.data.toList=_ by rw[HST.out,hp]);obtain⟨i0,hi0,hz0,hz1,hz2⟩:=info_parts iC;have HI0:=hid hi0;have HZ0:=hid hz0;have HZ1:=hid hz1;have HZ2:=hid hz2;clear hi0 hz0 hz1 hz2 hp;cases rr with
     | nil =>
      have hre:RR.toList.isEmpty=true:=(by rw[<-hRR,zaZ];rfl);have hre2:RR.toList=[]:=List.isEmpty_iff.1 hre;have HRES:=hid (show Wf.parse x (n+1) (.list k) (91::S.data.toList)=none by rw[HP.out,hh.out.2.2.2,HS2.out];rfl);clear hRR;go_region_held3 (fun w'=>w'.cell? ⟨w.heap.size,0,none⟩=some v) (first|exact j0|go_keep) ((go_at_call 51;refine HR.out.mono ?_;rintro e w3 ⟨ho,hb3⟩;obtain⟨pb,rfl,hlv3⟩:=HO.out _ _ ho;have HLV3:=hid hlv3;have HB3:=hid (zbE (Below.refl wr.heap.size wr) |>.trans hb3);have j0:=(HB3.out.cell (p:=⟨w.heap.size,0,none⟩) hlr).trans hr0;have j3:=(HB3.out.cell (p:=⟨w.heap.size+1,3,none⟩) hlv).trans hv3;have jf:=(HB3.out.frozen (p:=⟨w.heap.size+1,3,none⟩) hlv).trans hf3;have hw3:=zaC hlv HB3.out.size;have HOWN:=hid (bY hh.out.2.1.own HB3.out);clear ho hb3 hlv3))
      all_goals (go_wp2_with fail)
      all_goals exact zbD (v:=.tuple #[.pointer none,.string C,.bool false]) (by simp[results,Tryz.results86,go_sem, *]) rfl ⟨aB.no HRES.out ⟨_,_,rfl⟩,hh.out.1.bl.trans (HB3.out.mono hh.out.1.bl.size)⟩
     | cons b0 q =>
      have hre:RR.toList.isEmpty=false:=(by rw[<-hRR,zaZ];rfl);have hre2:RR.toList≠[]:=(by rw[<-hRR,zaZ];exact List.cons_ne_nil _ _);have hrs:0<RR.size:=(by rw[<-hRR];simp[ByteArray.size]);have hr1:1<=RR.size:=hrs;obtain⟨b,hb⟩:∃ b,b0.toNat=b:=⟨_,rfl⟩;have e2:∀ h,(RR[0]'h).toNat=b:=fun h=>by subst hRR;rw[<-hb];rfl
      obtain⟨Q1,hQ1⟩:∃ Q1:ByteArray,(⟨q.toArray⟩:ByteArray)=Q1:=⟨_,rfl⟩;have hqx:RR.extract 1 RR.size=Q1:=(by rw[<-hQ1,aQ,cI,<-hRR];rfl);have HQ1:=hid (show Q1.data.toList=q by rw[<-hQ1]);have hqs:Q1.size<C.size:=(by have:=HLT.out;rw[<-aE,HQ1.out];simp at this;omega);by_cases h44:b=44
      ·subst h44
       have hb44:b0=44:=UInt8.toNat_inj.1 (by rw[hb];rfl);have HE:=hid (show Wf.itemsL (Wf.parse x n k) l C.data.toList=Wf.itemsL (Wf.parse x n k) (l++[u]) q by rw[HS2.out,hb44];rfl);clear hRR hb hQ1 hb44;go_region_held3 (fun w'=>w'.cell? ⟨w.heap.size,0,none⟩=some v) (first|exact j0|go_keep) ((go_at_call 51;refine HR.out.mono ?_;rintro e w3 ⟨ho,hb3⟩;obtain⟨pb,rfl,hlv3⟩:=HO.out _ _ ho;have HLV3:=hid hlv3;have HB3:=hid (zbE (Below.refl wr.heap.size wr) |>.trans hb3);have j0:=(HB3.out.cell (p:=⟨w.heap.size,0,none⟩) hlr).trans hr0;have j3:=(HB3.out.cell (p:=⟨w.heap.size+1,3,none⟩) hlv).trans hv3;have jf:=(HB3.out.frozen (p:=⟨w.heap.size+1,3,none⟩) hlv).trans hf3;have hw3:=zaC hlv HB3.out.size;have HOWN:=hid (bY hh.out.2.1.own HB3.out);clear ho hb3 hlv3))
       all_goals (go_wp2_with (at_builtin;refine wpList_append_lies _ rfl (.tmp 66) (.tmp 68) 101 rfl (w.heap.size+1+1) 57 i0 (.pointer none) 1 8 Tryz.underlying101 HI0.out HZ0.out HZ1.out HZ2.out rfl (by decide) (.slice a m c) m _ (by rfl) (HOWN.out.alloc _) ⟨w3.heap.size,0,none⟩ 1 1 [ptr pb] (by rfl) rfl (World.news_of_block (MapKept.heap_alloc w3 (.cells #[ptr pb] 57)).1) (fL _) (by decide) (by unfold maxLen;omega) (by omega) (by simp;omega) _ rfl ?_;intro g cap w4 hown4 hgrow4 hat4 hlt4;have B4:=hid (aW (base:=w.heap.size+1+1) hgrow4 (fun g hg=>(aU HOWN.out g hg).1) (by simp;omega));have u3:w4.cell? ⟨w.heap.size+1,3,none⟩=some (.slice a m c):=((B4.out.cell (p:=⟨w.heap.size+1,3,none⟩) (zaH _)).trans ((zbB w3 _ ⟨w.heap.size+1,3,none⟩ hw3).trans j3));have uf:w4.frozen? ⟨w.heap.size+1,3,none⟩=false:=((B4.out.frozen (p:=⟨w.heap.size+1,3,none⟩) (zaH _)).trans ((((Below.refl w3.heap.size w3).alloc (zaA) _).frozen (p:=⟨w.heap.size+1,3,none⟩) hw3).trans jf));have hlt4v:w.heap.size+1<w4.heap.size:=zaC hw3 (zaI (by simp) B4.out.size);have HOWN4:=hid hown4;have HG4:=hid hgrow4;have HAT4:=hid hat4;clear hown4 hgrow4 hat4))
       have B3X:=hid (HB3.out.trans (((Below.refl w3.heap.size w3).alloc (zaA) (.cells #[ptr pb] 57)).mono HB3.out.size));have KBN:=hid (hh.out.2.1.put B3X.out HG4.out HOWN4.out HAT4.out (LV.below (W:=w3) HLV3.out ((zaB).alloc (zaA) _)));have VBN:=hid ((hh.out.1.step (hh.out.1.bl.trans (B3X.out.mono hh.out.1.bl.size)) B3X.out hlr hlv).put B4.out (by omega) (by omega) (by omega) 3 (by omega) (.slice (some ⟨g,0,none⟩) (m+1) cap));have C2N:=hid (show(w4.setCell ⟨w.heap.size+1,3,none⟩ (.slice (some ⟨g,0,none⟩) (m+1) cap)).cell? ⟨w.heap.size+1,2,none⟩=some (.slice none 0 0) from(zbA w4 _ _ _ (by simp)).trans ((B4.out.cell (p:=⟨w.heap.size+1,2,none⟩) (zaH _)).trans ((B3X.out.cell (p:=⟨w.heap.size+1,2,none⟩) hlv).trans hh.out.2.2.1)));all_goals go_roundw
       all_goals first
       | exact⟨Q1,_,m+1,cap,_,_,rfl,by omega,by omega,hid ⟨VBN.out,KBN.out,C2N.out,by rw[hh.out.2.2.2,HE.out,HQ1.out]⟩⟩
       | (simp only[strN];omega)
      ·by_cases h93:b=93
       ·subst h93
        have hb93:b0=93:=UInt8.toNat_inj.1 (by rw[hb];rfl);have HRES:=hid (show Wf.parse x (n+1) (.list k) (91::S.data.toList)=some (.mk 91 [] 0 (l++[u]),q) by
         have h9:l.length+1<=20:=(by rw[HLL.out];omega);rw[HP.out,hh.out.2.2.2,HS2.out,hb93];show Option.map _ (if l.length+1<=20 then some (l++[u],q) else none)=_;rw[if_pos h9];rfl)
        clear hRR hb hQ1 hb93 h44;go_region_held3 (fun w'=>w'.cell? ⟨w.heap.size,0,none⟩=some v) (first|exact j0|go_keep) ((go_at_call 51;refine HR.out.mono ?_;rintro e w3 ⟨ho,hb3⟩;obtain⟨pb,rfl,hlv3⟩:=HO.out _ _ ho;have HLV3:=hid hlv3;have HB3:=hid (zbE (Below.refl wr.heap.size wr) |>.trans hb3);have j0:=(HB3.out.cell (p:=⟨w.heap.size,0,none⟩) hlr).trans hr0;have j3:=(HB3.out.cell (p:=⟨w.heap.size+1,3,none⟩) hlv).trans hv3;have jf:=(HB3.out.frozen (p:=⟨w.heap.size+1,3,none⟩) hlv).trans hf3;have hw3:=zaC hlv HB3.out.size;have HOWN:=hid (bY hh.out.2.1.own HB3.out);clear ho hb3 hlv3))
        all_goals (go_wp2_with (at_builtin;refine wpList_append_lies _ rfl (.tmp 66) (.tmp 68) 101 rfl (w.heap.size+1+1) 57 i0 (.pointer none) 1 8 Tryz.underlying101 HI0.out HZ0.out HZ1.out HZ2.out rfl (by decide) (.slice a m c) m _ (by rfl) (HOWN.out.alloc _) ⟨w3.heap.size,0,none⟩ 1 1 [ptr pb] (by rfl) rfl (World.news_of_block (MapKept.heap_alloc w3 (.cells #[ptr pb] 57)).1) (fL _) (by decide) (by unfold maxLen;omega) (by omega) (by simp;omega) _ rfl ?_;intro g cap w4 hown4 hgrow4 hat4 hlt4;have B4:=hid (aW (base:=w.heap.size+1+1) hgrow4 (fun g hg=>(aU HOWN.out g hg).1) (by simp;omega));have u3:w4.cell? ⟨w.heap.size+1,3,none⟩=some (.slice a m c):=((B4.out.cell (p:=⟨w.heap.size+1,3,none⟩) (zaH _)).trans ((zbB w3 _ ⟨w.heap.size+1,3,none⟩ hw3).trans j3));have uf:w4.frozen? ⟨w.heap.size+1,3,none⟩=false:=((B4.out.frozen (p:=⟨w.heap.size+1,3,none⟩) (zaH _)).trans ((((Below.refl w3.heap.size w3).alloc (zaA) _).frozen (p:=⟨w.heap.size+1,3,none⟩) hw3).trans jf));have hlt4v:w.heap.size+1<w4.heap.size:=zaC hw3 (zaI (by simp) B4.out.size);have HOWN4:=hid hown4;have HG4:=hid hgrow4;have HAT4:=hid hat4;clear hown4 hgrow4 hat4))
        have B3X:=hid (HB3.out.trans (((Below.refl w3.heap.size w3).alloc (zaA) (.cells #[ptr pb] 57)).mono HB3.out.size));have KBN:=hid (hh.out.2.1.put B3X.out HG4.out HOWN4.out HAT4.out (LV.below (W:=w3) HLV3.out ((zaB).alloc (zaA) _)));have VBN:=hid ((hh.out.1.step (hh.out.1.bl.trans (B3X.out.mono hh.out.1.bl.size)) B3X.out hlr hlv).put B4.out (by omega) (by omega) (by omega) 3 (by omega) (.slice (some ⟨g,0,none⟩) (m+1) cap));have C2N:=hid (show(w4.setCell ⟨w.heap.size+1,3,none⟩ (.slice (some ⟨g,0,none⟩) (m+1) cap)).cell? ⟨w.heap.size+1,2,none⟩=some (.slice none 0 0) from(zbA w4 _ _ _ (by simp)).trans ((B4.out.cell (p:=⟨w.heap.size+1,2,none⟩) (zaH _)).trans ((B3X.out.cell (p:=⟨w.heap.size+1,2,none⟩) hlv).trans hh.out.2.2.1)));all_goals exact zbD (v:=.tuple #[ptr (w.heap.size+1),.string Q1,.bool true]) (by simp[results,Tryz.results86,go_sem, *]) rfl ⟨aB.yes HRES.out ⟨w.heap.size+1,by rw[<-HQ1.out],KBN.out.list VBN.out C2N.out HKH.out⟩,VBN.out.bl⟩
       ·have m1:((b:Int) != 44)=true:=by rw[bne_iff_ne];omega
        have m2:((b:Int) != 93)=true:=(by rw[bne_iff_ne];omega);have HRES:=hid (show Wf.parse x (n+1) (.list k) (91::S.data.toList)=none by
         rw[HP.out,hh.out.2.2.2,HS2.out];dsimp only;split
         ·rename_i heq;rw[List.cons.injEq] at heq;exact absurd (by rw[<-hb,heq.1];rfl) h44
         ·rename_i heq;rw[List.cons.injEq] at heq;exact absurd (by rw[<-hb,heq.1];rfl) h93
         ·rfl)
        clear hRR hb hQ1 h44 h93;go_region_held3 (fun w'=>w'.cell? ⟨w.heap.size,0,none⟩=some v) (first|exact j0|go_keep) ((go_at_call 51;refine HR.out.mono ?_;rintro e w3 ⟨ho,hb3⟩;obtain⟨pb,rfl,hlv3⟩:=HO.out _ _ ho;have HLV3:=hid hlv3;have HB3:=hid (zbE (Below.refl wr.heap.size wr) |>.trans hb3);have j0:=(HB3.out.cell (p:=⟨w.heap.size,0,none⟩) hlr).trans hr0;have j3:=(HB3.out.cell (p:=⟨w.heap.size+1,3,none⟩) hlv).trans hv3;have jf:=(HB3.out.frozen (p:=⟨w.heap.size+1,3,none⟩) hlv).trans hf3;have hw3:=zaC hlv HB3.out.size;have HOWN:=hid (bY hh.out.2.1.own HB3.out);clear ho hb3 hlv3))
        all_goals (go_wp2_with fail)
        all_goals exact zbD (v:=.tuple #[.pointer none,.string C,.bool false]) (by simp[results,Tryz.results86,go_sem, *]) rfl ⟨aB.no HRES.out ⟨_,_,rfl⟩,hh.out.1.bl.trans (HB3.out.mono hh.out.1.bl.size)⟩
   ·have hm:m=20:=by omega
    subst hm;have HRES:=hid (show Wf.parse x (n+1) (.list k) (91::S.data.toList)=none by rw[HP.out,hh.out.2.2.2,Wf.zQ (fun s v r h=>Wf.dN (v:=v) (r:=r) h) (by rw[HLL.out];exact zaA)];rfl);go_wp2_with fail
    exact zbD (v:=.tuple #[.pointer none,.string C,.bool false]) (by simp[results,Tryz.results86,go_sem, *]) rfl ⟨aB.no HRES.out ⟨_,_,rfl⟩,hh.out.1.bl⟩
theorem sX (q:List UInt8) (hS:S.data.toList=93::q):Calls Tryz.prog 86 #[.agg #[v],.string S,tx (Wf.K.list k).text,.int .i64 D] w fun e w'=>aB (Wf.parse x (n+1) (.list k) (91::S.data.toList)) w e w'/\Below w.heap.size w w':=by
 have HP:=hid (show Wf.parse x (n+1) (.list k) (91::S.data.toList)=some (.mk 91 [] 0 [],q) by rw[hS];exact Wf.qQ x n k q);obtain⟨KT,hKT⟩:∃ KT:ByteArray,(⟨(Wf.K.list k).text.toArray⟩:ByteArray)=KT:=⟨_,rfl⟩;have HKH:=hid (show KT.data.toList.head? = some 91 by rw[<-hKT];rfl);have hss:1<=S.size:=by rw[<-aE,hS];simp
 have hs0:0<S.size:=hss;obtain⟨Q1,hQ1⟩:∃ Q1:ByteArray,(⟨q.toArray⟩:ByteArray)=Q1:=⟨_,rfl⟩;have kx:∀ wz,(Instr.slice 9 (.string S) (some (.int .i64 1)) none none).run Tryz.prog wz=.ok (.string Q1) wz:=fun wz=>by
  have h:=bD S 1 hss wz;have he:S.extract 1 S.size=Q1:=by rw[<-hQ1,aQ,cI,hS];rfl
  rw[he] at h;exact h
 have HQ1:=hid hQ1;have e1:∀ h,(S[0]'h).toNat=93:=fun h=>by
  obtain⟨c,hc,e⟩:=byte_at S 0 hs0;rw[hS] at hc;simp at hc;rw[e h,<-hc];rfl
 have hse:S.toList.isEmpty=false:=by rw[zaZ,hS];rfl
 have ST:=hid fun W1 h=>lU w v KT W1 h;rw[tx,hKT];clear hKT hQ1 hS;go_enter Tryz.func86,Tryz.ntmps86;go_wp2_with fail
 obtain⟨vb0,kb0,t20⟩:=ST.out _ rfl;have VB0:=hid vb0;have KB0:=hid kb0;have T20:=hid t20;clear vb0 kb0 t20;go_quiet (fail)
 all_goals (go_wp2_with fail)
 all_goals exact zbD (v:=.tuple #[ptr (w.heap.size+1),.string Q1,.bool true]) (by simp[results,Tryz.results86,go_sem, *]) rfl ⟨aB.yes HP.out ⟨w.heap.size+1,by rw[<-HQ1.out],LV.below (KB0.out.list VB0.out T20.out HKH.out) ⟨rfl,rfl,rfl,zaA,fun _ _=>rfl⟩⟩,VB0.out.bl.trans ⟨rfl,rfl,rfl,zaA,fun _ _=>rfl⟩⟩
theorem sU (hS:S.size<=1048576) (hD:D=(n:Int)+1) (hn:n<=1000) (IH:LR x v W n k) (hW:Below W.heap.size W w):Calls Tryz.prog 86 #[.agg #[v],.string S,tx (Wf.K.list k).text,.int .i64 D] w fun e w'=>aB (Wf.parse x (n+1) (.list k) (91::S.data.toList)) w e w'/\Below w.heap.size w w':=by
 by_cases h:S.data.toList.head? = some 93
 ·cases hl:S.data.toList with
  | nil=>rw[hl] at h;simp at h
  | cons a q =>
   rw[hl] at h;simp at h;subst h;have:=sX x v n k S D w q hl;rw[hl] at this;exact this
 ·exact vD x v W n k S D w hS hD hn h IH hW
end
