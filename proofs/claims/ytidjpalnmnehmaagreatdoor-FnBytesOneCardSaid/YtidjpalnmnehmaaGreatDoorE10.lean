/- Packed by pack.py: Lf Lg. -/
import Derived.Test.YtidjpalnmnehmaaGreatDoorE8
import Derived.Test.YtidjpalnmnehmaaGreatDoorE6
import Derived.Deep.RegionWith
namespace Go.Proofs.YtidjpalnmnehmaaGreatDoor
open Go.ChangeShapes Go.WideShapes Go.ChangeAt Go.RowKit Go.Lib
set_option linter.unusedVariables false
theorem RowAt.two {w:World} {b:Nat} {v x0 x1:Value} (h:RowAt w b v [x0,x1]):∃ o cap,v=.slice (some ⟨b,o,none⟩) 2 cap∧2≤cap∧cap≤maxLen∧b<w.heap.size∧w.cell? ⟨b,o,none⟩=some x0∧w.cell? ⟨b,o+1,none⟩=some x1:=by
 obtain⟨a,cap,h1,h2,h3,h4|⟨o,h5,h6,h7⟩⟩:=h
 ·cases h4
 ·exact⟨o,cap,by rw[h1,h5];rfl,h2,h3,h6,(h7 0 (by simp)).1,(h7 1 (by simp)).1⟩
theorem RowAt.three {w:World} {b:Nat} {v x0 x1 x2:Value} (h:RowAt w b v [x0,x1,x2]):∃ o cap,v=.slice (some ⟨b,o,none⟩) 3 cap∧3≤cap∧cap≤maxLen∧b<w.heap.size∧w.cell? ⟨b,o,none⟩=some x0∧w.cell? ⟨b,o+1,none⟩=some x1∧w.cell? ⟨b,o+2,none⟩=some x2:=by
 obtain⟨a,cap,h1,h2,h3,h4|⟨o,h5,h6,h7⟩⟩:=h
 ·cases h4
 ·exact⟨o,cap,by rw[h1,h5];rfl,h2,h3,h6,(h7 0 (by simp)).1,(h7 1 (by simp)).1,(h7 2 (by simp)).1⟩
theorem RowAt.first {w:World} {b n:Nat} {v x0:Value} {xs:List Value} (h:RowAt w b v (x0::xs)) (hn:(x0::xs).length=n):∃ o cap,v=.slice (some ⟨b,o,none⟩) n cap∧1≤n∧n≤cap∧cap≤maxLen∧b<w.heap.size∧w.cell? ⟨b,o,none⟩=some x0:=by
 obtain⟨a,cap,h1,h2,h3,h4|⟨o,h5,h6,h7⟩⟩:=h
 ·cases h4
 ·rw[hn] at h1 h2
  exact⟨o,cap,by rw[h1,h5],by rw[← hn];simp,h2,h3,h6,(h7 0 (by simp)).1⟩
theorem RowAt.len {w:World} {b n:Nat} {v:Value} {xs:List Value} (h:RowAt w b v xs) (hn:xs.length=n):∃ a cap,v=.slice a n cap:=by
 obtain⟨a,cap,h1,_⟩:=h
 exact⟨a,cap,by rw[h1,hn]⟩
def fdS (sort:UInt8) (f:Wf.Fd):List Value:=[.int .i64 f.tag,tx f.name,tx (if sort=69 then [] else f.kind.text),tx f.given]
def CutOut (w:World) (ps:List (List UInt8)) (e:Ending) (w':World):Prop:=∃ b v,e=.returned v∧w.heap.size≤b∧RowAt w' b v (ps.map tx)∧Below w.heap.size w w'
set_option maxRecDepth 20000 in
set_option maxHeartbeats 1000000 in
theorem rf_len (s:ByteArray) (sort:Nat) (n:Nat) (ps:List (List UInt8)) (hn:ps.length=n) (g:((n:Int) != 3)=true∧((sort:Int) != 69)=true∨((n:Int) != 2)=true∧sort=69) (w:World) (hcut:∀ w,Calls Tryz.prog 118 #[.string s, .int .u8 58] w fun e w'=>CutOut w ps e w') :
  Calls Tryz.prog 147 #[.string s, .int .u8 sort] w fun e w'=>e=.returned (.tuple #[.agg #[.int .i64 0,tx [],tx [],tx []], .bool false])∧Below w.heap.size w w':=by
 have HC:=hid hcut
 have HN:=hid (show(ps.map tx).length=n by rw[List.length_map];exact hn)
 clear hcut hn
 rcases g with⟨g1,g2⟩|⟨g1,rfl⟩
 ·cases g3:((n:Int) != 2)
  all_goals
   go_enter Tryz.func147,Tryz.ntmps147
   go_wp2_with (go_at_call 118;refine(HC.out _).mono ?_;rintro e w1 ⟨b1,v1,rfl,hb1,hr1,hB1⟩;obtain⟨a1,c1,rfl⟩:=hr1.len HN.out;have B1:Below w.heap.size w w1:=below_join ((Below.refl _ _).alloc (Nat.le_refl _) _) hB1;obtain⟨hc1,hc2⟩:=bcell hB1;have hz:w.heap.size<w1.heap.size:=(by have:=hB1.size;simp at this;omega);clear hr1)
   exact bodyPost_ret (v:=.tuple #[.agg #[.int .i64 0,tx [],tx [],tx []], .bool false]) (by simp[results,Tryz.results147,go_sem,hc1]) rfl ⟨rfl,(by repeat (first|exact B1|refine Below.alloc ?_ (by first|(simp;done)|(simp;omega)|omega) _|refine Below.setCell ?_ (by first|(simp;done)|(simp;omega)|omega) _|refine Below.drew ?_))⟩
 ·cases g3:((n:Int) != 3)
  all_goals
   go_enter Tryz.func147,Tryz.ntmps147
   go_wp2_with (go_at_call 118;refine(HC.out _).mono ?_;rintro e w1 ⟨b1,v1,rfl,hb1,hr1,hB1⟩;obtain⟨a1,c1,rfl⟩:=hr1.len HN.out;have B1:Below w.heap.size w w1:=below_join ((Below.refl _ _).alloc (Nat.le_refl _) _) hB1;obtain⟨hc1,hc2⟩:=bcell hB1;have hz:w.heap.size<w1.heap.size:=(by have:=hB1.size;simp at this;omega);clear hr1)
   exact bodyPost_ret (v:=.tuple #[.agg #[.int .i64 0,tx [],tx [],tx []], .bool false]) (by simp[results,Tryz.results147,go_sem,hc1]) rfl ⟨rfl,(by repeat (first|exact B1|refine Below.alloc ?_ (by first|(simp;done)|(simp;omega)|omega) _|refine Below.setCell ?_ (by first|(simp;done)|(simp;omega)|omega) _|refine Below.drew ?_))⟩

set_option maxRecDepth 20000 in
set_option maxHeartbeats 1000000 in
theorem rf_nonum3 (s:ByteArray) (sort:Nat) (g:((sort:Int)==69)=false) (g2:((sort:Int) != 69)=true) (p q r:List UInt8) (w:World) (hcut:∀ w,Calls Tryz.prog 118 #[.string s, .int .u8 58] w fun e w'=>CutOut w [p,q,r] e w')
  (HN0:∀ w,Calls Tryz.prog 52 #[tx p, .int .i64 200] w fun e w'=>(∃ m:Int,e=.returned (.tuple #[.int .i64 m, .bool false]))∧Below w.heap.size w w'):Calls Tryz.prog 147 #[.string s, .int .u8 sort] w fun e w'=>(∃ m:Int,e=.returned (.tuple #[.agg #[.int .i64 m,tx q,tx [],tx []], .bool false]))∧Below w.heap.size w w':=by
 have HC:=hid hcut
 clear hcut
 have HNUM:=hid HN0
 clear HN0
 go_enter Tryz.func147,Tryz.ntmps147
 go_wp2_with (first|(go_at_call 52;refine(HNUM.out _).mono ?_;rintro e w2 ⟨⟨m,rfl⟩,hB2⟩;have B2:Below w.heap.size w w2:=below_join B1 hB2;obtain⟨hc3,hc4⟩:=bcell hB2;have hz2:w.heap.size<w2.heap.size:=Nat.lt_of_lt_of_le hz hB2.size;have hbb:b1<w2.heap.size:=Nat.lt_of_lt_of_le hb1w hB2.size)|(go_at_call 118;refine(HC.out _).mono ?_;rintro e w1 ⟨b1,v1,rfl,hb1,hr1,hB1⟩;obtain⟨o1,c1,rfl,hcc,hcm,hb1w,p0,p1,p2⟩:=hr1.three;have B1:Below w.heap.size w w1:=below_join ((Below.refl _ _).alloc (Nat.le_refl _) _) hB1;obtain⟨hc1,hc2⟩:=bcell hB1;have hz:w.heap.size<w1.heap.size:=(by have:=hB1.size;simp at this;omega);clear hr1))
 exact bodyPost_ret (v:=.tuple #[.agg #[.int .i64 m,tx q,tx [],tx []], .bool false]) (by simp[results,Tryz.results147,go_sem,hc1,hc3,hz,hz2]) rfl ⟨⟨m,rfl⟩,(by repeat (first|with_reducible exact B2|with_reducible refine Below.drew ?_|with_reducible refine Below.setCell ?_ (by first|(simp;done)|(simp;omega)|omega) _|with_reducible refine Below.alloc ?_ (by first|exact(B2).size|(simp;done)|(simp;omega)|omega) _))⟩
set_option maxRecDepth 20000 in
set_option maxHeartbeats 1000000 in
theorem rf_low3 (s:ByteArray) (sort:Nat) (g:((sort:Int)==69)=false) (g2:((sort:Int) != 69)=true) (p q r:List UInt8) (w:World) (hcut:∀ w,Calls Tryz.prog 118 #[.string s, .int .u8 58] w fun e w'=>CutOut w [p,q,r] e w')
  (t:Nat) (HN0:∀ w,Calls Tryz.prog 52 #[tx p, .int .i64 200] w fun e w'=>e=.returned (.tuple #[.int .i64 t, .bool true])∧Below w.heap.size w w') (ht:t<1):Calls Tryz.prog 147 #[.string s, .int .u8 sort] w fun e w'=>e=.returned (.tuple #[.agg #[.int .i64 t,tx q,tx [],tx []], .bool false])∧Below w.heap.size w w':=by
 have HC:=hid hcut
 clear hcut
 have HNUM:=hid HN0
 clear HN0
 go_enter Tryz.func147,Tryz.ntmps147
 go_wp2_with (first|(go_at_call 52;refine(HNUM.out _).mono ?_;rintro e w2 ⟨rfl,hB2⟩;have B2:Below w.heap.size w w2:=below_join B1 hB2;obtain⟨hc3,hc4⟩:=bcell hB2;have hz2:w.heap.size<w2.heap.size:=Nat.lt_of_lt_of_le hz hB2.size;have hbb:b1<w2.heap.size:=Nat.lt_of_lt_of_le hb1w hB2.size)|(go_at_call 118;refine(HC.out _).mono ?_;rintro e w1 ⟨b1,v1,rfl,hb1,hr1,hB1⟩;obtain⟨o1,c1,rfl,hcc,hcm,hb1w,p0,p1,p2⟩:=hr1.three;have B1:Below w.heap.size w w1:=below_join ((Below.refl _ _).alloc (Nat.le_refl _) _) hB1;obtain⟨hc1,hc2⟩:=bcell hB1;have hz:w.heap.size<w1.heap.size:=(by have:=hB1.size;simp at this;omega);clear hr1))
 exact bodyPost_ret (v:=.tuple #[.agg #[.int .i64 t,tx q,tx [],tx []], .bool false]) (by simp[results,Tryz.results147,go_sem,hc1,hc3,hz,hz2]) rfl ⟨rfl,(by repeat (first|with_reducible exact B2|with_reducible refine Below.drew ?_|with_reducible refine Below.setCell ?_ (by first|(simp;done)|(simp;omega)|omega) _|with_reducible refine Below.alloc ?_ (by first|exact(B2).size|(simp;done)|(simp;omega)|omega) _))⟩
set_option maxRecDepth 20000 in
set_option maxHeartbeats 1000000 in
theorem rf_noname3 (s:ByteArray) (sort:Nat) (g:((sort:Int)==69)=false) (g2:((sort:Int) != 69)=true) (p q r:List UInt8) (w:World) (hcut:∀ w,Calls Tryz.prog 118 #[.string s, .int .u8 58] w fun e w'=>CutOut w [p,q,r] e w')
  (t:Nat) (HN0:∀ w,Calls Tryz.prog 52 #[tx p, .int .i64 200] w fun e w'=>e=.returned (.tuple #[.int .i64 t, .bool true])∧Below w.heap.size w w') (ht:1≤t) (HM0:∀ w,Calls Tryz.prog 121 #[tx q] w fun e w'=>e=.returned (.bool false)∧w=w'):Calls Tryz.prog 147 #[.string s, .int .u8 sort] w fun e w'=>e=.returned (.tuple #[.agg #[.int .i64 t,tx q,tx [],tx []], .bool false])∧Below w.heap.size w w':=by
 have HC:=hid hcut
 clear hcut
 have HNUM:=hid HN0
 have HNAME:=hid HM0
 clear HN0 HM0
 go_enter Tryz.func147,Tryz.ntmps147
 go_wp2_with (first|(go_at_call 121;refine(HNAME.out _).mono ?_;rintro e wn ⟨rfl,rfl⟩)|(go_at_call 52;refine(HNUM.out _).mono ?_;rintro e w2 ⟨rfl,hB2⟩;have B2:Below w.heap.size w w2:=below_join B1 hB2;obtain⟨hc3,hc4⟩:=bcell hB2;have hz2:w.heap.size<w2.heap.size:=Nat.lt_of_lt_of_le hz hB2.size;have hbb:b1<w2.heap.size:=Nat.lt_of_lt_of_le hb1w hB2.size)|(go_at_call 118;refine(HC.out _).mono ?_;rintro e w1 ⟨b1,v1,rfl,hb1,hr1,hB1⟩;obtain⟨o1,c1,rfl,hcc,hcm,hb1w,p0,p1,p2⟩:=hr1.three;have B1:Below w.heap.size w w1:=below_join ((Below.refl _ _).alloc (Nat.le_refl _) _) hB1;obtain⟨hc1,hc2⟩:=bcell hB1;have hz:w.heap.size<w1.heap.size:=(by have:=hB1.size;simp at this;omega);clear hr1))
 exact bodyPost_ret (v:=.tuple #[.agg #[.int .i64 t,tx q,tx [],tx []], .bool false]) (by simp[results,Tryz.results147,go_sem,hc1,hc3,hz,hz2]) rfl ⟨rfl,(by repeat (first|with_reducible exact B2|with_reducible refine Below.drew ?_|with_reducible refine Below.setCell ?_ (by first|(simp;done)|(simp;omega)|omega) _|with_reducible refine Below.alloc ?_ (by first|exact(B2).size|(simp;done)|(simp;omega)|omega) _))⟩
set_option maxRecDepth 20000 in
set_option maxHeartbeats 1000000 in
theorem rf_nonum2 (s:ByteArray)  (p q:List UInt8) (w:World) (hcut:∀ w,Calls Tryz.prog 118 #[.string s, .int .u8 58] w fun e w'=>CutOut w [p,q] e w')
  (HN0:∀ w,Calls Tryz.prog 52 #[tx p, .int .i64 200] w fun e w'=>(∃ m:Int,e=.returned (.tuple #[.int .i64 m, .bool false]))∧Below w.heap.size w w'):Calls Tryz.prog 147 #[.string s, .int .u8 69] w fun e w'=>(∃ m:Int,e=.returned (.tuple #[.agg #[.int .i64 m,tx q,tx [],tx []], .bool false]))∧Below w.heap.size w w':=by
 have HC:=hid hcut
 clear hcut
 have HNUM:=hid HN0
 clear HN0
 go_enter Tryz.func147,Tryz.ntmps147
 go_wp2_with (first|(go_at_call 52;refine(HNUM.out _).mono ?_;rintro e w2 ⟨⟨m,rfl⟩,hB2⟩;have B2:Below w.heap.size w w2:=below_join B1 hB2;obtain⟨hc3,hc4⟩:=bcell hB2;have hz2:w.heap.size<w2.heap.size:=Nat.lt_of_lt_of_le hz hB2.size;have hbb:b1<w2.heap.size:=Nat.lt_of_lt_of_le hb1w hB2.size)|(go_at_call 118;refine(HC.out _).mono ?_;rintro e w1 ⟨b1,v1,rfl,hb1,hr1,hB1⟩;obtain⟨o1,c1,rfl,hcc,hcm,hb1w,p0,p1⟩:=hr1.two;have B1:Below w.heap.size w w1:=below_join ((Below.refl _ _).alloc (Nat.le_refl _) _) hB1;obtain⟨hc1,hc2⟩:=bcell hB1;have hz:w.heap.size<w1.heap.size:=(by have:=hB1.size;simp at this;omega);clear hr1))
 exact bodyPost_ret (v:=.tuple #[.agg #[.int .i64 m,tx q,tx [],tx []], .bool false]) (by simp[results,Tryz.results147,go_sem,hc1,hc3,hz,hz2]) rfl ⟨⟨m,rfl⟩,(by repeat (first|with_reducible exact B2|with_reducible refine Below.drew ?_|with_reducible refine Below.setCell ?_ (by first|(simp;done)|(simp;omega)|omega) _|with_reducible refine Below.alloc ?_ (by first|exact(B2).size|(simp;done)|(simp;omega)|omega) _))⟩
set_option maxRecDepth 20000 in
set_option maxHeartbeats 1000000 in
theorem rf_low2 (s:ByteArray)  (p q:List UInt8) (w:World) (hcut:∀ w,Calls Tryz.prog 118 #[.string s, .int .u8 58] w fun e w'=>CutOut w [p,q] e w')
  (t:Nat) (HN0:∀ w,Calls Tryz.prog 52 #[tx p, .int .i64 200] w fun e w'=>e=.returned (.tuple #[.int .i64 t, .bool true])∧Below w.heap.size w w') (ht:t<1):Calls Tryz.prog 147 #[.string s, .int .u8 69] w fun e w'=>e=.returned (.tuple #[.agg #[.int .i64 t,tx q,tx [],tx []], .bool false])∧Below w.heap.size w w':=by
 have HC:=hid hcut
 clear hcut
 have HNUM:=hid HN0
 clear HN0
 go_enter Tryz.func147,Tryz.ntmps147
 go_wp2_with (first|(go_at_call 52;refine(HNUM.out _).mono ?_;rintro e w2 ⟨rfl,hB2⟩;have B2:Below w.heap.size w w2:=below_join B1 hB2;obtain⟨hc3,hc4⟩:=bcell hB2;have hz2:w.heap.size<w2.heap.size:=Nat.lt_of_lt_of_le hz hB2.size;have hbb:b1<w2.heap.size:=Nat.lt_of_lt_of_le hb1w hB2.size)|(go_at_call 118;refine(HC.out _).mono ?_;rintro e w1 ⟨b1,v1,rfl,hb1,hr1,hB1⟩;obtain⟨o1,c1,rfl,hcc,hcm,hb1w,p0,p1⟩:=hr1.two;have B1:Below w.heap.size w w1:=below_join ((Below.refl _ _).alloc (Nat.le_refl _) _) hB1;obtain⟨hc1,hc2⟩:=bcell hB1;have hz:w.heap.size<w1.heap.size:=(by have:=hB1.size;simp at this;omega);clear hr1))
 exact bodyPost_ret (v:=.tuple #[.agg #[.int .i64 t,tx q,tx [],tx []], .bool false]) (by simp[results,Tryz.results147,go_sem,hc1,hc3,hz,hz2]) rfl ⟨rfl,(by repeat (first|with_reducible exact B2|with_reducible refine Below.drew ?_|with_reducible refine Below.setCell ?_ (by first|(simp;done)|(simp;omega)|omega) _|with_reducible refine Below.alloc ?_ (by first|exact(B2).size|(simp;done)|(simp;omega)|omega) _))⟩
set_option maxRecDepth 20000 in
set_option maxHeartbeats 1000000 in
theorem rf_noname2 (s:ByteArray)  (p q:List UInt8) (w:World) (hcut:∀ w,Calls Tryz.prog 118 #[.string s, .int .u8 58] w fun e w'=>CutOut w [p,q] e w')
  (t:Nat) (HN0:∀ w,Calls Tryz.prog 52 #[tx p, .int .i64 200] w fun e w'=>e=.returned (.tuple #[.int .i64 t, .bool true])∧Below w.heap.size w w') (ht:1≤t) (HM0:∀ w,Calls Tryz.prog 121 #[tx q] w fun e w'=>e=.returned (.bool false)∧w=w'):Calls Tryz.prog 147 #[.string s, .int .u8 69] w fun e w'=>e=.returned (.tuple #[.agg #[.int .i64 t,tx q,tx [],tx []], .bool false])∧Below w.heap.size w w':=by
 have HC:=hid hcut
 clear hcut
 have HNUM:=hid HN0
 have HNAME:=hid HM0
 clear HN0 HM0
 go_enter Tryz.func147,Tryz.ntmps147
 go_wp2_with (first|(go_at_call 121;refine(HNAME.out _).mono ?_;rintro e wn ⟨rfl,rfl⟩)|(go_at_call 52;refine(HNUM.out _).mono ?_;rintro e w2 ⟨rfl,hB2⟩;have B2:Below w.heap.size w w2:=below_join B1 hB2;obtain⟨hc3,hc4⟩:=bcell hB2;have hz2:w.heap.size<w2.heap.size:=Nat.lt_of_lt_of_le hz hB2.size;have hbb:b1<w2.heap.size:=Nat.lt_of_lt_of_le hb1w hB2.size)|(go_at_call 118;refine(HC.out _).mono ?_;rintro e w1 ⟨b1,v1,rfl,hb1,hr1,hB1⟩;obtain⟨o1,c1,rfl,hcc,hcm,hb1w,p0,p1⟩:=hr1.two;have B1:Below w.heap.size w w1:=below_join ((Below.refl _ _).alloc (Nat.le_refl _) _) hB1;obtain⟨hc1,hc2⟩:=bcell hB1;have hz:w.heap.size<w1.heap.size:=(by have:=hB1.size;simp at this;omega);clear hr1))
 exact bodyPost_ret (v:=.tuple #[.agg #[.int .i64 t,tx q,tx [],tx []], .bool false]) (by simp[results,Tryz.results147,go_sem,hc1,hc3,hz,hz2]) rfl ⟨rfl,(by repeat (first|with_reducible exact B2|with_reducible refine Below.drew ?_|with_reducible refine Below.setCell ?_ (by first|(simp;done)|(simp;omega)|omega) _|with_reducible refine Below.alloc ?_ (by first|exact(B2).size|(simp;done)|(simp;omega)|omega) _))⟩
set_option maxRecDepth 20000 in
set_option maxHeartbeats 1000000 in
theorem rf_enum (s:ByteArray)  (p q:List UInt8) (w:World) (hcut:∀ w,Calls Tryz.prog 118 #[.string s, .int .u8 58] w fun e w'=>CutOut w [p,q] e w')
  (t:Nat) (HN0:∀ w,Calls Tryz.prog 52 #[tx p, .int .i64 200] w fun e w'=>e=.returned (.tuple #[.int .i64 t, .bool true])∧Below w.heap.size w w') (ht:1≤t) (HM0:∀ w,Calls Tryz.prog 121 #[tx q] w fun e w'=>e=.returned (.bool true)∧w=w'):Calls Tryz.prog 147 #[.string s, .int .u8 69] w fun e w'=>e=.returned (.tuple #[.agg #[.int .i64 t,tx q,tx [],tx []], .bool true])∧Below w.heap.size w w':=by
 have HC:=hid hcut
 clear hcut
 have HNUM:=hid HN0
 have HNAME:=hid HM0
 clear HN0 HM0
 go_enter Tryz.func147,Tryz.ntmps147
 go_wp2_with (first|(go_at_call 121;refine(HNAME.out _).mono ?_;rintro e wn ⟨rfl,rfl⟩)|(go_at_call 52;refine(HNUM.out _).mono ?_;rintro e w2 ⟨rfl,hB2⟩;have B2:Below w.heap.size w w2:=below_join B1 hB2;obtain⟨hc3,hc4⟩:=bcell hB2;have hz2:w.heap.size<w2.heap.size:=Nat.lt_of_lt_of_le hz hB2.size;have hbb:b1<w2.heap.size:=Nat.lt_of_lt_of_le hb1w hB2.size)|(go_at_call 118;refine(HC.out _).mono ?_;rintro e w1 ⟨b1,v1,rfl,hb1,hr1,hB1⟩;obtain⟨o1,c1,rfl,hcc,hcm,hb1w,p0,p1⟩:=hr1.two;have B1:Below w.heap.size w w1:=below_join ((Below.refl _ _).alloc (Nat.le_refl _) _) hB1;obtain⟨hc1,hc2⟩:=bcell hB1;have hz:w.heap.size<w1.heap.size:=(by have:=hB1.size;simp at this;omega);clear hr1))
 exact bodyPost_ret (v:=.tuple #[.agg #[.int .i64 t,tx q,tx [],tx []], .bool true]) (by simp[results,Tryz.results147,go_sem,hc1,hc3,hz,hz2]) rfl ⟨rfl,(by repeat (first|with_reducible exact B2|with_reducible refine Below.drew ?_|with_reducible refine Below.setCell ?_ (by first|(simp;done)|(simp;omega)|omega) _|with_reducible refine Below.alloc ?_ (by first|exact(B2).size|(simp;done)|(simp;omega)|omega) _))⟩
end Go.Proofs.YtidjpalnmnehmaaGreatDoor
