/- Packed by pack.py: Lg. -/
import Derived.Test.YtmdacedmjbiekaaGreatDoorR12
namespace Go.Proofs.YtmdacedmjbiekaaGreatDoor
open Go.ChangeShapes Go.WideShapes Go.ChangeAt Go.RowKit Go.Lib
set_option linter.unusedVariables false
set_option maxRecDepth 20000 in
set_option maxHeartbeats 1000000 in
theorem rf_nonum3 (s:ByteArray) (sort:Nat) (g:((sort:Int)==69)=false) (g2:((sort:Int) != 69)=true) (p q r:List UInt8) (w:World) (hcut:∀ w,Calls Tryz.prog 101 #[.string s, .int .u8 58] w fun e w'=>CutOut w [p,q,r] e w')
  (HN0:∀ w,Calls Tryz.prog 135 #[tx p, .int .i64 200] w fun e w'=>(∃ m:Int,e=.returned (.tuple #[.int .i64 m, .bool false]))∧Below w.heap.size w w'):Calls Tryz.prog 146 #[.string s, .int .u8 sort] w fun e w'=>(∃ m:Int,e=.returned (.tuple #[.agg #[.int .i64 m,tx q,tx [],tx []], .bool false]))∧Below w.heap.size w w':=by
 have HC:=hid hcut
 clear hcut
 have HNUM:=hid HN0
 clear HN0
 go_enter Tryz.func146,Tryz.ntmps146
 go_wp2_with (first|(go_at_call 135;refine(HNUM.out _).mono ?_;rintro e w2 ⟨⟨m,rfl⟩,hB2⟩;have B2:Below w.heap.size w w2:=below_join B1 hB2;obtain⟨hc3,hc4⟩:=bcell hB2;have hz2:w.heap.size<w2.heap.size:=Nat.lt_of_lt_of_le hz hB2.size;have hbb:b1<w2.heap.size:=Nat.lt_of_lt_of_le hb1w hB2.size)|(go_at_call 101;refine(HC.out _).mono ?_;rintro e w1 ⟨b1,v1,rfl,hb1,hr1,hB1⟩;obtain⟨o1,c1,rfl,hcc,hcm,hb1w,p0,p1,p2⟩:=hr1.three;have B1:Below w.heap.size w w1:=below_join ((Below.refl _ _).alloc (Nat.le_refl _) _) hB1;obtain⟨hc1,hc2⟩:=bcell hB1;have hz:w.heap.size<w1.heap.size:=(by have:=hB1.size;simp at this;omega);clear hr1))
 exact bodyPost_ret (v:=.tuple #[.agg #[.int .i64 m,tx q,tx [],tx []], .bool false]) (by simp[results,Tryz.results146,go_sem,hc1,hc3,hz,hz2]) rfl ⟨⟨m,rfl⟩,(by repeat (first|with_reducible exact B2|with_reducible refine Below.drew ?_|with_reducible refine Below.setCell ?_ (by first|(simp;done)|(simp;omega)|omega) _|with_reducible refine Below.alloc ?_ (by first|exact(B2).size|(simp;done)|(simp;omega)|omega) _))⟩
set_option maxRecDepth 20000 in
set_option maxHeartbeats 1000000 in
theorem rf_low3 (s:ByteArray) (sort:Nat) (g:((sort:Int)==69)=false) (g2:((sort:Int) != 69)=true) (p q r:List UInt8) (w:World) (hcut:∀ w,Calls Tryz.prog 101 #[.string s, .int .u8 58] w fun e w'=>CutOut w [p,q,r] e w')
  (t:Nat) (HN0:∀ w,Calls Tryz.prog 135 #[tx p, .int .i64 200] w fun e w'=>e=.returned (.tuple #[.int .i64 t, .bool true])∧Below w.heap.size w w') (ht:t<1):Calls Tryz.prog 146 #[.string s, .int .u8 sort] w fun e w'=>e=.returned (.tuple #[.agg #[.int .i64 t,tx q,tx [],tx []], .bool false])∧Below w.heap.size w w':=by
 have HC:=hid hcut
 clear hcut
 have HNUM:=hid HN0
 clear HN0
 go_enter Tryz.func146,Tryz.ntmps146
 go_wp2_with (first|(go_at_call 135;refine(HNUM.out _).mono ?_;rintro e w2 ⟨rfl,hB2⟩;have B2:Below w.heap.size w w2:=below_join B1 hB2;obtain⟨hc3,hc4⟩:=bcell hB2;have hz2:w.heap.size<w2.heap.size:=Nat.lt_of_lt_of_le hz hB2.size;have hbb:b1<w2.heap.size:=Nat.lt_of_lt_of_le hb1w hB2.size)|(go_at_call 101;refine(HC.out _).mono ?_;rintro e w1 ⟨b1,v1,rfl,hb1,hr1,hB1⟩;obtain⟨o1,c1,rfl,hcc,hcm,hb1w,p0,p1,p2⟩:=hr1.three;have B1:Below w.heap.size w w1:=below_join ((Below.refl _ _).alloc (Nat.le_refl _) _) hB1;obtain⟨hc1,hc2⟩:=bcell hB1;have hz:w.heap.size<w1.heap.size:=(by have:=hB1.size;simp at this;omega);clear hr1))
 exact bodyPost_ret (v:=.tuple #[.agg #[.int .i64 t,tx q,tx [],tx []], .bool false]) (by simp[results,Tryz.results146,go_sem,hc1,hc3,hz,hz2]) rfl ⟨rfl,(by repeat (first|with_reducible exact B2|with_reducible refine Below.drew ?_|with_reducible refine Below.setCell ?_ (by first|(simp;done)|(simp;omega)|omega) _|with_reducible refine Below.alloc ?_ (by first|exact(B2).size|(simp;done)|(simp;omega)|omega) _))⟩
set_option maxRecDepth 20000 in
set_option maxHeartbeats 1000000 in
theorem rf_noname3 (s:ByteArray) (sort:Nat) (g:((sort:Int)==69)=false) (g2:((sort:Int) != 69)=true) (p q r:List UInt8) (w:World) (hcut:∀ w,Calls Tryz.prog 101 #[.string s, .int .u8 58] w fun e w'=>CutOut w [p,q,r] e w')
  (t:Nat) (HN0:∀ w,Calls Tryz.prog 135 #[tx p, .int .i64 200] w fun e w'=>e=.returned (.tuple #[.int .i64 t, .bool true])∧Below w.heap.size w w') (ht:1≤t) (HM0:∀ w,Calls Tryz.prog 104 #[tx q] w fun e w'=>e=.returned (.bool false)∧w=w'):Calls Tryz.prog 146 #[.string s, .int .u8 sort] w fun e w'=>e=.returned (.tuple #[.agg #[.int .i64 t,tx q,tx [],tx []], .bool false])∧Below w.heap.size w w':=by
 have HC:=hid hcut
 clear hcut
 have HNUM:=hid HN0
 have HNAME:=hid HM0
 clear HN0 HM0
 go_enter Tryz.func146,Tryz.ntmps146
 go_wp2_with (first|(go_at_call 104;refine(HNAME.out _).mono ?_;rintro e wn ⟨rfl,rfl⟩)|(go_at_call 135;refine(HNUM.out _).mono ?_;rintro e w2 ⟨rfl,hB2⟩;have B2:Below w.heap.size w w2:=below_join B1 hB2;obtain⟨hc3,hc4⟩:=bcell hB2;have hz2:w.heap.size<w2.heap.size:=Nat.lt_of_lt_of_le hz hB2.size;have hbb:b1<w2.heap.size:=Nat.lt_of_lt_of_le hb1w hB2.size)|(go_at_call 101;refine(HC.out _).mono ?_;rintro e w1 ⟨b1,v1,rfl,hb1,hr1,hB1⟩;obtain⟨o1,c1,rfl,hcc,hcm,hb1w,p0,p1,p2⟩:=hr1.three;have B1:Below w.heap.size w w1:=below_join ((Below.refl _ _).alloc (Nat.le_refl _) _) hB1;obtain⟨hc1,hc2⟩:=bcell hB1;have hz:w.heap.size<w1.heap.size:=(by have:=hB1.size;simp at this;omega);clear hr1))
 exact bodyPost_ret (v:=.tuple #[.agg #[.int .i64 t,tx q,tx [],tx []], .bool false]) (by simp[results,Tryz.results146,go_sem,hc1,hc3,hz,hz2]) rfl ⟨rfl,(by repeat (first|with_reducible exact B2|with_reducible refine Below.drew ?_|with_reducible refine Below.setCell ?_ (by first|(simp;done)|(simp;omega)|omega) _|with_reducible refine Below.alloc ?_ (by first|exact(B2).size|(simp;done)|(simp;omega)|omega) _))⟩
set_option maxRecDepth 20000 in
set_option maxHeartbeats 1000000 in
theorem rf_nonum2 (s:ByteArray)  (p q:List UInt8) (w:World) (hcut:∀ w,Calls Tryz.prog 101 #[.string s, .int .u8 58] w fun e w'=>CutOut w [p,q] e w')
  (HN0:∀ w,Calls Tryz.prog 135 #[tx p, .int .i64 200] w fun e w'=>(∃ m:Int,e=.returned (.tuple #[.int .i64 m, .bool false]))∧Below w.heap.size w w'):Calls Tryz.prog 146 #[.string s, .int .u8 69] w fun e w'=>(∃ m:Int,e=.returned (.tuple #[.agg #[.int .i64 m,tx q,tx [],tx []], .bool false]))∧Below w.heap.size w w':=by
 have HC:=hid hcut
 clear hcut
 have HNUM:=hid HN0
 clear HN0
 go_enter Tryz.func146,Tryz.ntmps146
 go_wp2_with (first|(go_at_call 135;refine(HNUM.out _).mono ?_;rintro e w2 ⟨⟨m,rfl⟩,hB2⟩;have B2:Below w.heap.size w w2:=below_join B1 hB2;obtain⟨hc3,hc4⟩:=bcell hB2;have hz2:w.heap.size<w2.heap.size:=Nat.lt_of_lt_of_le hz hB2.size;have hbb:b1<w2.heap.size:=Nat.lt_of_lt_of_le hb1w hB2.size)|(go_at_call 101;refine(HC.out _).mono ?_;rintro e w1 ⟨b1,v1,rfl,hb1,hr1,hB1⟩;obtain⟨o1,c1,rfl,hcc,hcm,hb1w,p0,p1⟩:=hr1.two;have B1:Below w.heap.size w w1:=below_join ((Below.refl _ _).alloc (Nat.le_refl _) _) hB1;obtain⟨hc1,hc2⟩:=bcell hB1;have hz:w.heap.size<w1.heap.size:=(by have:=hB1.size;simp at this;omega);clear hr1))
 exact bodyPost_ret (v:=.tuple #[.agg #[.int .i64 m,tx q,tx [],tx []], .bool false]) (by simp[results,Tryz.results146,go_sem,hc1,hc3,hz,hz2]) rfl ⟨⟨m,rfl⟩,(by repeat (first|with_reducible exact B2|with_reducible refine Below.drew ?_|with_reducible refine Below.setCell ?_ (by first|(simp;done)|(simp;omega)|omega) _|with_reducible refine Below.alloc ?_ (by first|exact(B2).size|(simp;done)|(simp;omega)|omega) _))⟩
set_option maxRecDepth 20000 in
set_option maxHeartbeats 1000000 in
theorem rf_low2 (s:ByteArray)  (p q:List UInt8) (w:World) (hcut:∀ w,Calls Tryz.prog 101 #[.string s, .int .u8 58] w fun e w'=>CutOut w [p,q] e w')
  (t:Nat) (HN0:∀ w,Calls Tryz.prog 135 #[tx p, .int .i64 200] w fun e w'=>e=.returned (.tuple #[.int .i64 t, .bool true])∧Below w.heap.size w w') (ht:t<1):Calls Tryz.prog 146 #[.string s, .int .u8 69] w fun e w'=>e=.returned (.tuple #[.agg #[.int .i64 t,tx q,tx [],tx []], .bool false])∧Below w.heap.size w w':=by
 have HC:=hid hcut
 clear hcut
 have HNUM:=hid HN0
 clear HN0
 go_enter Tryz.func146,Tryz.ntmps146
 go_wp2_with (first|(go_at_call 135;refine(HNUM.out _).mono ?_;rintro e w2 ⟨rfl,hB2⟩;have B2:Below w.heap.size w w2:=below_join B1 hB2;obtain⟨hc3,hc4⟩:=bcell hB2;have hz2:w.heap.size<w2.heap.size:=Nat.lt_of_lt_of_le hz hB2.size;have hbb:b1<w2.heap.size:=Nat.lt_of_lt_of_le hb1w hB2.size)|(go_at_call 101;refine(HC.out _).mono ?_;rintro e w1 ⟨b1,v1,rfl,hb1,hr1,hB1⟩;obtain⟨o1,c1,rfl,hcc,hcm,hb1w,p0,p1⟩:=hr1.two;have B1:Below w.heap.size w w1:=below_join ((Below.refl _ _).alloc (Nat.le_refl _) _) hB1;obtain⟨hc1,hc2⟩:=bcell hB1;have hz:w.heap.size<w1.heap.size:=(by have:=hB1.size;simp at this;omega);clear hr1))
 exact bodyPost_ret (v:=.tuple #[.agg #[.int .i64 t,tx q,tx [],tx []], .bool false]) (by simp[results,Tryz.results146,go_sem,hc1,hc3,hz,hz2]) rfl ⟨rfl,(by repeat (first|with_reducible exact B2|with_reducible refine Below.drew ?_|with_reducible refine Below.setCell ?_ (by first|(simp;done)|(simp;omega)|omega) _|with_reducible refine Below.alloc ?_ (by first|exact(B2).size|(simp;done)|(simp;omega)|omega) _))⟩
set_option maxRecDepth 20000 in
set_option maxHeartbeats 1000000 in
theorem rf_noname2 (s:ByteArray)  (p q:List UInt8) (w:World) (hcut:∀ w,Calls Tryz.prog 101 #[.string s, .int .u8 58] w fun e w'=>CutOut w [p,q] e w')
  (t:Nat) (HN0:∀ w,Calls Tryz.prog 135 #[tx p, .int .i64 200] w fun e w'=>e=.returned (.tuple #[.int .i64 t, .bool true])∧Below w.heap.size w w') (ht:1≤t) (HM0:∀ w,Calls Tryz.prog 104 #[tx q] w fun e w'=>e=.returned (.bool false)∧w=w'):Calls Tryz.prog 146 #[.string s, .int .u8 69] w fun e w'=>e=.returned (.tuple #[.agg #[.int .i64 t,tx q,tx [],tx []], .bool false])∧Below w.heap.size w w':=by
 have HC:=hid hcut
 clear hcut
 have HNUM:=hid HN0
 have HNAME:=hid HM0
 clear HN0 HM0
 go_enter Tryz.func146,Tryz.ntmps146
 go_wp2_with (first|(go_at_call 104;refine(HNAME.out _).mono ?_;rintro e wn ⟨rfl,rfl⟩)|(go_at_call 135;refine(HNUM.out _).mono ?_;rintro e w2 ⟨rfl,hB2⟩;have B2:Below w.heap.size w w2:=below_join B1 hB2;obtain⟨hc3,hc4⟩:=bcell hB2;have hz2:w.heap.size<w2.heap.size:=Nat.lt_of_lt_of_le hz hB2.size;have hbb:b1<w2.heap.size:=Nat.lt_of_lt_of_le hb1w hB2.size)|(go_at_call 101;refine(HC.out _).mono ?_;rintro e w1 ⟨b1,v1,rfl,hb1,hr1,hB1⟩;obtain⟨o1,c1,rfl,hcc,hcm,hb1w,p0,p1⟩:=hr1.two;have B1:Below w.heap.size w w1:=below_join ((Below.refl _ _).alloc (Nat.le_refl _) _) hB1;obtain⟨hc1,hc2⟩:=bcell hB1;have hz:w.heap.size<w1.heap.size:=(by have:=hB1.size;simp at this;omega);clear hr1))
 exact bodyPost_ret (v:=.tuple #[.agg #[.int .i64 t,tx q,tx [],tx []], .bool false]) (by simp[results,Tryz.results146,go_sem,hc1,hc3,hz,hz2]) rfl ⟨rfl,(by repeat (first|with_reducible exact B2|with_reducible refine Below.drew ?_|with_reducible refine Below.setCell ?_ (by first|(simp;done)|(simp;omega)|omega) _|with_reducible refine Below.alloc ?_ (by first|exact(B2).size|(simp;done)|(simp;omega)|omega) _))⟩
set_option maxRecDepth 20000 in
set_option maxHeartbeats 1000000 in
theorem rf_enum (s:ByteArray)  (p q:List UInt8) (w:World) (hcut:∀ w,Calls Tryz.prog 101 #[.string s, .int .u8 58] w fun e w'=>CutOut w [p,q] e w')
  (t:Nat) (HN0:∀ w,Calls Tryz.prog 135 #[tx p, .int .i64 200] w fun e w'=>e=.returned (.tuple #[.int .i64 t, .bool true])∧Below w.heap.size w w') (ht:1≤t) (HM0:∀ w,Calls Tryz.prog 104 #[tx q] w fun e w'=>e=.returned (.bool true)∧w=w'):Calls Tryz.prog 146 #[.string s, .int .u8 69] w fun e w'=>e=.returned (.tuple #[.agg #[.int .i64 t,tx q,tx [],tx []], .bool true])∧Below w.heap.size w w':=by
 have HC:=hid hcut
 clear hcut
 have HNUM:=hid HN0
 have HNAME:=hid HM0
 clear HN0 HM0
 go_enter Tryz.func146,Tryz.ntmps146
 go_wp2_with (first|(go_at_call 104;refine(HNAME.out _).mono ?_;rintro e wn ⟨rfl,rfl⟩)|(go_at_call 135;refine(HNUM.out _).mono ?_;rintro e w2 ⟨rfl,hB2⟩;have B2:Below w.heap.size w w2:=below_join B1 hB2;obtain⟨hc3,hc4⟩:=bcell hB2;have hz2:w.heap.size<w2.heap.size:=Nat.lt_of_lt_of_le hz hB2.size;have hbb:b1<w2.heap.size:=Nat.lt_of_lt_of_le hb1w hB2.size)|(go_at_call 101;refine(HC.out _).mono ?_;rintro e w1 ⟨b1,v1,rfl,hb1,hr1,hB1⟩;obtain⟨o1,c1,rfl,hcc,hcm,hb1w,p0,p1⟩:=hr1.two;have B1:Below w.heap.size w w1:=below_join ((Below.refl _ _).alloc (Nat.le_refl _) _) hB1;obtain⟨hc1,hc2⟩:=bcell hB1;have hz:w.heap.size<w1.heap.size:=(by have:=hB1.size;simp at this;omega);clear hr1))
 exact bodyPost_ret (v:=.tuple #[.agg #[.int .i64 t,tx q,tx [],tx []], .bool true]) (by simp[results,Tryz.results146,go_sem,hc1,hc3,hz,hz2]) rfl ⟨rfl,(by repeat (first|with_reducible exact B2|with_reducible refine Below.drew ?_|with_reducible refine Below.setCell ?_ (by first|(simp;done)|(simp;omega)|omega) _|with_reducible refine Below.alloc ?_ (by first|exact(B2).size|(simp;done)|(simp;omega)|omega) _))⟩
end Go.Proofs.YtmdacedmjbiekaaGreatDoor
