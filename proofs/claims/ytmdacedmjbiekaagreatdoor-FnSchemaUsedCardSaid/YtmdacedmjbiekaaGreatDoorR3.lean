/- Packed by pack.py: Nm. -/
import Derived.Test.YtmdacedmjbiekaaGreatDoorR1
import Derived.Test.YtmdacedmjbiekaaGreatDoorR2
import Derived.Deep.RegionWith
import Derived.IntWalk
namespace Go.Proofs.YtmdacedmjbiekaaGreatDoor
open Go.ChangeShapes Go.WideShapes Go.ChangeAt Go.RowKit Go.Lib
set_option linter.unusedVariables false
theorem dec_step {n:Nat} (h:10≤n):Wf.dec n=Wf.dec (n / 10)++Wf.dec (n % 10):=by
 rw[Wf.dec_ge h,Wf.dec_lt (show n % 10<10 by omega)]
theorem tx_app (a b:List UInt8):(⟨a.toArray⟩:ByteArray)++⟨b.toArray⟩=⟨(a++b).toArray⟩:=by rw[eq_list];simp
theorem ret_str {a b:ByteArray} (h:a=b):Ending.returned (.string a)=.returned (.string b):=by rw[h]
set_option maxRecDepth 20000 in
theorem decimal (m:Nat):∀ (n:Nat) (w:World),n≤m→n≤999999→Calls Tryz.prog 94 #[.int .i64 n] w fun e w'=>e=.returned (tx (Wf.dec n))∧Below w.heap.size w w':=by
 have kc:=run_convert_lit (P:=Tryz.prog) 28 9 5 Tryz.underlying28 Tryz.underlying5 Tryz.underlying9
 induction m with
 | zero =>
  intro n w hm hn
  have:n=0:=by omega
  subst this
  go_enter Tryz.func94,Tryz.ntmps94
  go_wp2_with fail
  go_ret
  exact⟨by rw[Wf.dec_lt (by omega)];rfl,(Below.refl _ _).alloc (Nat.le_refl _) _⟩
 | succ m ih =>
  intro n w hm hn
  by_cases h:n<10
  ·have HD:=hid (Wf.dec_lt h)
   go_enter Tryz.func94,Tryz.ntmps94
   go_wp2_with fail
   go_ret
   exact⟨by rw[HD.out];simp[UInt8.ofNat_add],(Below.refl _ _).alloc (Nat.le_refl _) _⟩
  ·have HD:=hid (dec_step (n:=n) (by omega))
   have H1:=hid fun w=>ih (n / 10) w (by omega) (by omega)
   have H2:=hid fun w=>ih (n % 10) w (by omega) (by omega)
   obtain⟨a,ha⟩:∃ a,Wf.dec (n / 10)=a:=⟨_,rfl⟩
   obtain⟨b,hb⟩:∃ b,Wf.dec (n % 10)=b:=⟨_,rfl⟩
   have la:(⟨a.toArray⟩:ByteArray).size≤6:=by rw[← ha];exact Wf.dec_len6 (by omega)
   have lb:(⟨b.toArray⟩:ByteArray).size≤6:=by rw[← hb];exact Wf.dec_len6 (by omega)
   rw[ha] at H1
   rw[hb] at H2
   rw[ha,hb] at HD
   have HA:=hid (tx_app a b)
   obtain⟨A,hA⟩:∃ A:ByteArray,(⟨a.toArray⟩:ByteArray)=A:=⟨_,rfl⟩
   obtain⟨B,hB⟩:∃ B:ByteArray,(⟨b.toArray⟩:ByteArray)=B:=⟨_,rfl⟩
   rw[tx,hA] at H1
   rw[tx,hB] at H2
   rw[hA,hB] at HA
   rw[hA] at la
   rw[hB] at lb
   clear ih ha hb hA hB
   go_enter Tryz.func94,Tryz.ntmps94
   go_wp2_with (first|(go_at_call 94;have _u:=hb1;refine(H2.out _).mono ?_;rintro e w2 ⟨rfl,hb2⟩)|(go_at_call 94;refine(H1.out _).mono ?_;rintro e w1 ⟨rfl,hb1⟩))
   go_ret
   exact⟨by rw[HD.out,tx,← HA.out];rfl,hb1.trans (hb2.mono hb1.size)⟩
set_option maxRecDepth 20000 in
set_option maxHeartbeats 1000000 in
theorem l6Dec (m:Nat):∀ (n:Nat) (w:World),n≤m→n≤1000000000→Calls Tryz.prog 124 #[.int .i64 n] w fun e w'=>e=.returned (tx (Wf.dec n))∧Below w.heap.size w w':=by
 have kc:=run_convert_lit (P:=Tryz.prog) 28 9 5 Tryz.underlying28 Tryz.underlying5 Tryz.underlying9
 induction m with
 | zero =>
  intro n w hm hn
  have:n=0:=by omega
  subst this
  go_enter Tryz.func124,Tryz.ntmps124
  go_wp2_with fail
  go_ret
  exact⟨by rw[Wf.dec_lt (by omega)];rfl,(Below.refl _ _).alloc (Nat.le_refl _) _⟩
 | succ m ih =>
  intro n w hm hn
  by_cases h:n<10
  ·have HD:=hid (Wf.dec_lt h)
   go_enter Tryz.func124,Tryz.ntmps124
   go_wp2_with fail
   go_ret
   exact⟨by rw[HD.out];simp[UInt8.ofNat_add],(Below.refl _ _).alloc (Nat.le_refl _) _⟩
  ·obtain⟨q,hq⟩:∃ q,n / 10=q:=⟨_,rfl⟩
   obtain⟨r,hr⟩:∃ r,n % 10=r:=⟨_,rfl⟩
   have hr9:r<10:=by omega
   have HD:=Wf.dec_ge (n:=n) (by omega)
   have H1:=hid fun w=>ih q w (by omega) (by omega)
   rw[hq,hr] at HD
   obtain⟨a,ha⟩:∃ a,Wf.dec q=a:=⟨_,rfl⟩
   have la:(⟨a.toArray⟩:ByteArray).size≤10:=by rw[← ha];exact Wf.dec_len q 9 (by have:(10:Nat)^10=10000000000:=rfl;omega)
   rw[ha] at H1 HD
   obtain⟨A,hA⟩:∃ A:ByteArray,(⟨a.toArray⟩:ByteArray)=A:=⟨_,rfl⟩
   have HA:A++(⟨#[48+UInt8.ofNat r]⟩:ByteArray)=⟨(Wf.dec n).toArray⟩:=by
    rw[HD,← hA,← tx_app,UInt8.ofNat_add];rfl
   rw[tx,hA] at H1
   rw[hA] at la
   have kc1:=fun W a c h=>run_convert_one (P:=Tryz.prog) 28 9 5 Tryz.underlying28 Tryz.underlying5 Tryz.underlying9 W a c (48+(r:Int)) h
   have e1:IntKind.i64.wrap ((n:Int) / 10)=(q:Int):=by rw[IntWalk.i64_in _ (by omega)];omega
   have e2:(n:Int).tmod 10=(r:Int):=by rw[Int.tmod_eq_emod_of_nonneg (by omega)];omega
   have e3:IntKind.i64.wrap (48+(r:Int))=48+(r:Int):=IntWalk.i64_in _ (by omega)
   have e4:IntKind.u8.wrap (48+(r:Int))=48+(r:Int):=by simp[IntKind.wrap,IntKind.bits,IntKind.signed];omega
   have HAA:=hid HA
   clear ih ha hA hq hr HD HA
   go_enter Tryz.func124,Tryz.ntmps124
   go_wp2_with fail
   go_region_with (go_at_call 124;refine(H1.out _).mono ?_;rintro e w1 ⟨rfl,hb1⟩;obtain⟨hc1,hc2⟩:=bcell hb1;have hz:w.heap.size<w1.heap.size+1:=(by have:=hb1.size;simp at this;omega);have B1:Below w.heap.size w w1:=(by first|exact below_join ((Below.refl _ _).drew) hb1|exact below_join (((Below.refl _ _).alloc (Nat.le_refl _) _).drew) hb1))
   all_goals go_wp2
   all_goals go_ret
   all_goals exact⟨ret_str HAA.out,by first|exact B1|exact B1.alloc B1.size _⟩
end Go.Proofs.YtmdacedmjbiekaaGreatDoor
