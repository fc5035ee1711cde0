/- Packed by pack.py: Lh. -/
import Derived.Test.YtidjpalnmnehmaaF8
namespace Go.Proofs.Ytidjpalnmnehmaa
open Go.ChangeShapes Go.WideShapes Go.ChangeAt Go.RowKit Go.Lib
set_option linter.unusedVariables false
set_option maxRecDepth 20000 in
set_option maxHeartbeats 1000000 in
theorem rf_two_no (s : ByteArray) (sort : Nat) (g : ((sort : Int) == 69) = false) (g2 : ((sort : Int) != 69) = true) (p q r : List UInt8) (w : World) (hcut : ∀ w,Calls Try.prog 48 #[.string s, .int .u8 58] w fun e w' => CutOut w [p,q,r] e w')
    (t : Nat) (HN0 : ∀ w,Calls Try.prog 32 #[tx p, .int .i64 200] w fun e w' => e = .returned (.tuple #[.int .i64 t, .bool true]) ∧ Below w.heap.size w w') (ht : 1 ≤ t) (HM0 : ∀ w,Calls Try.prog 51 #[tx q] w fun e w' => e = .returned (.bool true) ∧ w = w') (a b : List UInt8) (hcut2 : ∀ w,Calls Try.prog 48 #[tx r, .int .u8 61] w fun e w' => CutOut w [a,b] e w') (g3 : ((sort : Int) == 82) = false) : Calls Try.prog 58 #[.string s, .int .u8 sort] w fun e w' => e = .returned (.tuple #[.agg #[.int .i64 t,tx q,tx a,tx b], .bool false]) ∧ Below w.heap.size w w':=by
  have HC:=hid hcut
  clear hcut
  have HNUM:=hid HN0
  have HNAME:=hid HM0
  have HC2:=hid hcut2
  clear HN0 HM0 hcut2
  go_enter Try.func58,Try.ntmps58
  go_wp2_with (first | (go_at_call 48;have _u:=hB2;refine (HC2.out _).mono ?_;rintro e w3 ⟨b3,v3,rfl,hb3,hr3,hB3⟩;obtain ⟨o3,c3,rfl,hdc,hdm,hb3w,q0,q1⟩:=hr3.two;have B3 : Below w.heap.size w w3:=below_join (B2.alloc B2.size _) hB3;obtain ⟨hc5,hc6⟩:=bcell hB3;have hz3 : w.heap.size < w3.heap.size:=(by have:=hB3.size;simp at this;omega);have hz4 : w2.heap.size < w3.heap.size:=(by have:=hB3.size;simp at this;omega);have hz5 : w.heap.size < w2.heap.size + 1:=Nat.lt_succ_of_lt hz2;have hz6 : ¬ w2.heap.size = w.heap.size:=(by omega);have hz7 : ¬ b3 = w2.heap.size:=(by simp at hb3;omega);have hz8 : ¬ w2.heap.size = b3:=(by omega);clear hr3) | (go_at_call 51;refine (HNAME.out _).mono ?_;rintro e wn ⟨rfl,rfl⟩) | (go_at_call 32;refine (HNUM.out _).mono ?_;rintro e w2 ⟨rfl,hB2⟩;have B2 : Below w.heap.size w w2:=below_join B1 hB2;obtain ⟨hc3,hc4⟩:=bcell hB2;have hz2 : w.heap.size < w2.heap.size:=Nat.lt_of_lt_of_le hz hB2.size;have hbb : b1 < w2.heap.size:=Nat.lt_of_lt_of_le hb1w hB2.size) | (go_at_call 48;refine (HC.out _).mono ?_;rintro e w1 ⟨b1,v1,rfl,hb1,hr1,hB1⟩;obtain ⟨o1,c1,rfl,hcc,hcm,hb1w,p0,p1,p2⟩:=hr1.three;have B1 : Below w.heap.size w w1:=below_join ((Below.refl _ _).alloc (Nat.le_refl _) _) hB1;obtain ⟨hc1,hc2⟩:=bcell hB1;have hz : w.heap.size < w1.heap.size:=(by have:=hB1.size;simp at this;omega);clear hr1))
  go_region
  all_goals go_wp2
  all_goals exact bodyPost_ret (v:=.tuple #[.agg #[.int .i64 t,tx q,tx a,tx b], .bool false]) (by simp [results,Try.results58,go_sem, *]) rfl ⟨rfl,(by repeat (first | with_reducible exact B3 | with_reducible refine Below.drew ?_ | with_reducible refine Below.setCell ?_ (by first | (simp;done) | (simp;omega) | omega) _ | with_reducible refine Below.alloc ?_ (by first | exact (B3).size | (simp;done) | (simp;omega) | omega) _))⟩
set_option maxRecDepth 20000 in
set_option maxHeartbeats 1000000 in
theorem rf_two_rec (s : ByteArray) (sort : Nat) (g : ((sort : Int) == 69) = false) (g2 : ((sort : Int) != 69) = true) (p q r : List UInt8) (w : World) (hcut : ∀ w,Calls Try.prog 48 #[.string s, .int .u8 58] w fun e w' => CutOut w [p,q,r] e w')
    (t : Nat) (HN0 : ∀ w,Calls Try.prog 32 #[tx p, .int .i64 200] w fun e w' => e = .returned (.tuple #[.int .i64 t, .bool true]) ∧ Below w.heap.size w w') (ht : 1 ≤ t) (HM0 : ∀ w,Calls Try.prog 51 #[tx q] w fun e w' => e = .returned (.bool true) ∧ w = w') (a b : List UInt8) (hcut2 : ∀ w,Calls Try.prog 48 #[tx r, .int .u8 61] w fun e w' => CutOut w [a,b] e w') (g3 : ((sort : Int) == 82) = true) (x : Bool) (HS0 : ∀ w,Calls Try.prog 62 #[tx a,tx b] w fun e w' => e = .returned (.bool x) ∧ Below w.heap.size w w') : Calls Try.prog 58 #[.string s, .int .u8 sort] w fun e w' => e = .returned (.tuple #[.agg #[.int .i64 t,tx q,tx a,tx b], .bool x]) ∧ Below w.heap.size w w':=by
  have HC:=hid hcut
  clear hcut
  have HNUM:=hid HN0
  have HNAME:=hid HM0
  have HC2:=hid hcut2
  have HST:=hid HS0
  clear HN0 HM0 hcut2 HS0
  go_enter Try.func58,Try.ntmps58
  go_wp2_with (first | (go_at_call 48;have _u:=hB2;refine (HC2.out _).mono ?_;rintro e w3 ⟨b3,v3,rfl,hb3,hr3,hB3⟩;obtain ⟨o3,c3,rfl,hdc,hdm,hb3w,q0,q1⟩:=hr3.two;have B3 : Below w.heap.size w w3:=below_join (B2.alloc B2.size _) hB3;obtain ⟨hc5,hc6⟩:=bcell hB3;have hz3 : w.heap.size < w3.heap.size:=(by have:=hB3.size;simp at this;omega);have hz4 : w2.heap.size < w3.heap.size:=(by have:=hB3.size;simp at this;omega);have hz5 : w.heap.size < w2.heap.size + 1:=Nat.lt_succ_of_lt hz2;have hz6 : ¬ w2.heap.size = w.heap.size:=(by omega);have hz7 : ¬ b3 = w2.heap.size:=(by simp at hb3;omega);have hz8 : ¬ w2.heap.size = b3:=(by omega);clear hr3) | (go_at_call 51;refine (HNAME.out _).mono ?_;rintro e wn ⟨rfl,rfl⟩) | (go_at_call 32;refine (HNUM.out _).mono ?_;rintro e w2 ⟨rfl,hB2⟩;have B2 : Below w.heap.size w w2:=below_join B1 hB2;obtain ⟨hc3,hc4⟩:=bcell hB2;have hz2 : w.heap.size < w2.heap.size:=Nat.lt_of_lt_of_le hz hB2.size;have hbb : b1 < w2.heap.size:=Nat.lt_of_lt_of_le hb1w hB2.size) | (go_at_call 48;refine (HC.out _).mono ?_;rintro e w1 ⟨b1,v1,rfl,hb1,hr1,hB1⟩;obtain ⟨o1,c1,rfl,hcc,hcm,hb1w,p0,p1,p2⟩:=hr1.three;have B1 : Below w.heap.size w w1:=below_join ((Below.refl _ _).alloc (Nat.le_refl _) _) hB1;obtain ⟨hc1,hc2⟩:=bcell hB1;have hz : w.heap.size < w1.heap.size:=(by have:=hB1.size;simp at this;omega);clear hr1))
  go_region_with (go_at_call 62;refine (HST.out _).mono ?_;rintro e w4 ⟨rfl,hB4⟩;obtain ⟨hc7,hc8⟩:=bcell hB4;have B4 : Below w.heap.size w w4:=below_join (((B3.setCell (by simp;omega) _).setCell (by simp;omega) _).drew) hB4;have hz9 : w.heap.size < w4.heap.size:=(by have:=hB4.size;simp at this;omega);have hz10 : w2.heap.size < w4.heap.size:=(by have:=hB4.size;simp at this;omega))
  all_goals go_wp2
  all_goals exact bodyPost_ret (v:=.tuple #[.agg #[.int .i64 t,tx q,tx a,tx b], .bool x]) (by simp [results,Try.results58,go_sem, *]) rfl ⟨rfl,(by repeat (first | with_reducible exact B4 | with_reducible refine Below.drew ?_ | with_reducible refine Below.setCell ?_ (by first | (simp;done) | (simp;omega) | omega) _ | with_reducible refine Below.alloc ?_ (by first | exact (B4).size | (simp;done) | (simp;omega) | omega) _))⟩
end Go.Proofs.Ytidjpalnmnehmaa
