/- Packed. -/
import Derived.Test.YtidjpalnmnehmaaGreatDoorK13
set_option maxRecDepth 99999
set_option maxHeartbeats 40000000
set_option linter.all false
namespace Go.Proofs.YtidjpalnmnehmaaGreatDoor
open Go.ChangeShapes Go.WideShapes Go.ChangeAt Go.RowKit Go.Lib
structure EqAt (s:ByteArray) (p:Nat):Prop where
 le:p<=s.size
 no:∀ i,i<p->∀ h:i<s.size,((((s[i]'h).toNat:Nat):Int) != 61)=true
 yes:∀ h:p<s.size,((((s[p]'h).toNat:Nat):Int) != 61)=false
theorem qJ (s:ByteArray) (w:World) (hs:s.size<=1000000) (p:Nat) (he:EqAt s p) (h1:s.size<=p) :
  Calls Tryz.prog 119 #[.string s] w fun e w'=>e=.returned (.tuple #[.agg #[.int .u8 0,tx [],.slice none 0 0],.bool false])/\Below w.heap.size w w':=by
 have hple:=he.le;have HE:=hid he;clear he;go_enter Tryz.func119,Tryz.ntmps119;go_wp2;go_loop [4] (fun i=>∃ k:Nat,k<=p/\i=.int .i64 k) (fun i=>s.size-(RowKit.intOf i).toNat)
 case atStart=>exact⟨0,Nat.zero_le _,rfl⟩
 case round =>
  obtain⟨k,hk,rfl⟩:=hrel;by_cases hlt:k<p
  ·have hks:k<s.size:=by omega
   have e1:=HE.out.no k hlt hks;go_wp2;go_round
   case rel=>exact⟨k+1,by omega,by go_num⟩
   case measure=>simp[RowKit.intOf];omega
  ·have hkp:p=k:=by omega
   subst hkp;go_wp2;all_goals exact zbD (v:=.tuple #[.agg #[.int .u8 0,tx [],.slice none 0 0],.bool false]) (by simp[results,Tryz.results119,go_sem, *]) rfl ⟨rfl,(by repeat (first|with_reducible exact zaB|with_reducible refine zbE ?_|with_reducible refine zbF ?_ (by first|(simp;done)|(simp;omega)|omega) _|with_reducible refine zbG ?_ (by first|exact(zaB).size|(simp;done)|(simp;omega)|omega) _))⟩
theorem yU (s:ByteArray) (w:World) (hs:s.size<=1000000) (p:Nat) (he:EqAt s p) (h1:p<1) (h2:p<s.size) :
  Calls Tryz.prog 119 #[.string s] w fun e w'=>e=.returned (.tuple #[.agg #[.int .u8 0,tx [],.slice none 0 0],.bool false])/\Below w.heap.size w w':=by
 have hple:=he.le;have HE:=hid he;clear he;go_enter Tryz.func119,Tryz.ntmps119;go_wp2;go_loop [4] (fun i=>∃ k:Nat,k<=p/\i=.int .i64 k) (fun i=>s.size-(RowKit.intOf i).toNat)
 case atStart=>exact⟨0,Nat.zero_le _,rfl⟩
 case round =>
  obtain⟨k,hk,rfl⟩:=hrel;by_cases hlt:k<p
  ·have hks:k<s.size:=by omega
   have e1:=HE.out.no k hlt hks;go_wp2;go_round
   case rel=>exact⟨k+1,by omega,by go_num⟩
   case measure=>simp[RowKit.intOf];omega
  ·have hkp:p=k:=by omega
   subst hkp;have e1:=HE.out.yes h2;go_wp2;all_goals exact zbD (v:=.tuple #[.agg #[.int .u8 0,tx [],.slice none 0 0],.bool false]) (by simp[results,Tryz.results119,go_sem, *]) rfl ⟨rfl,(by repeat (first|with_reducible exact zaB|with_reducible refine zbE ?_|with_reducible refine zbF ?_ (by first|(simp;done)|(simp;omega)|omega) _|with_reducible refine zbG ?_ (by first|exact(zaB).size|(simp;done)|(simp;omega)|omega) _))⟩
theorem a0A (s:ByteArray) (w:World) (hs:s.size<=1000000) (p:Nat) (he:EqAt s p) (h1:1<=p) (h2:p<s.size) (a:Nat) (e0:∀ h,(s[0]'h).toNat=a) (hn:∀ w,Calls Tryz.prog 121 #[.string (s.extract 1 p)] w fun e w'=>e=.returned (.bool false)/\w=w') :
  Calls Tryz.prog 119 #[.string s] w fun e w'=>e=.returned (.tuple #[.agg #[.int .u8 a,.string (s.extract 1 p),.slice none 0 0],.bool false])/\Below w.heap.size w w':=by
 have hple:=he.le;have HE:=hid he;clear he;have HN:=hid hn;clear hn;go_enter Tryz.func119,Tryz.ntmps119;go_wp2;go_loop [4] (fun i=>∃ k:Nat,k<=p/\i=.int .i64 k) (fun i=>s.size-(RowKit.intOf i).toNat)
 case atStart=>exact⟨0,Nat.zero_le _,rfl⟩
 case round =>
  obtain⟨k,hk,rfl⟩:=hrel;by_cases hlt:k<p
  ·have hks:k<s.size:=by omega
   have e1:=HE.out.no k hlt hks;go_wp2;go_round
   case rel=>exact⟨k+1,by omega,by go_num⟩
   case measure=>simp[RowKit.intOf];omega
  ·have hkp:p=k:=by omega
   subst hkp;have e1:=HE.out.yes h2;go_wp2_with fail
   go_region
   go_wp2_with (go_at_call 121;refine(HN.out _).mono ?_;rintro e w1 ⟨rfl,rfl⟩)
   all_goals exact zbD (v:=.tuple #[.agg #[.int .u8 a,.string (s.extract 1 p),.slice none 0 0],.bool false]) (by simp[results,Tryz.results119,go_sem, *]) rfl ⟨rfl,(by repeat (first|with_reducible exact zaB|with_reducible refine zbE ?_|with_reducible refine zbF ?_ (by first|(simp;done)|(simp;omega)|omega) _|with_reducible refine zbG ?_ (by first|exact(zaB).size|(simp;done)|(simp;omega)|omega) _))⟩
theorem a2E (s:ByteArray) (w:World) (hs:s.size<=1000000) (p:Nat) (he:EqAt s p) (h1:1<=p) (h2:p<s.size) (a:Nat) (e0:∀ h,(s[0]'h).toNat=a) (hn:∀ w,Calls Tryz.prog 121 #[.string (s.extract 1 p)] w fun e w'=>e=.returned (.bool true)/\w=w') (g1:((a:Int) != 82)=true) (g2:((a:Int) != 85)=true) (g3:((a:Int) != 69)=true) :
  Calls Tryz.prog 119 #[.string s] w fun e w'=>e=.returned (.tuple #[.agg #[.int .u8 a,.string (s.extract 1 p),.slice none 0 0],.bool false])/\Below w.heap.size w w':=by
 have hple:=he.le;have HE:=hid he;clear he;have HN:=hid hn;clear hn;go_enter Tryz.func119,Tryz.ntmps119;go_wp2;go_loop [4] (fun i=>∃ k:Nat,k<=p/\i=.int .i64 k) (fun i=>s.size-(RowKit.intOf i).toNat)
 case atStart=>exact⟨0,Nat.zero_le _,rfl⟩
 case round =>
  obtain⟨k,hk,rfl⟩:=hrel;by_cases hlt:k<p
  ·have hks:k<s.size:=by omega
   have e1:=HE.out.no k hlt hks;go_wp2;go_round
   case rel=>exact⟨k+1,by omega,by go_num⟩
   case measure=>simp[RowKit.intOf];omega
  ·have hkp:p=k:=by omega
   subst hkp;have e1:=HE.out.yes h2;go_wp2_with fail
   go_region
   go_wp2_with (go_at_call 121;refine(HN.out _).mono ?_;rintro e w1 ⟨rfl,rfl⟩)
   all_goals exact zbD (v:=.tuple #[.agg #[.int .u8 a,.string (s.extract 1 p),.slice none 0 0],.bool false]) (by simp[results,Tryz.results119,go_sem, *]) rfl ⟨rfl,(by repeat (first|with_reducible exact zaB|with_reducible refine zbE ?_|with_reducible refine zbF ?_ (by first|(simp;done)|(simp;omega)|omega) _|with_reducible refine zbG ?_ (by first|exact(zaB).size|(simp;done)|(simp;omega)|omega) _))⟩
theorem a2X (s:ByteArray) (w:World) (hs:s.size<=1000000) (p:Nat) (he:EqAt s p) (h1:1<=p) (h2:p<s.size) (e0:∀ h,(s[0]'h).toNat=82) (hn:∀ w,Calls Tryz.prog 121 #[.string (s.extract 1 p)] w fun e w'=>e=.returned (.bool true)/\w=w') (hr:(s.extract (p+1) s.size).toList.isEmpty=true) :
  Calls Tryz.prog 119 #[.string s] w fun e w'=>e=.returned (.tuple #[.agg #[.int .u8 82,.string (s.extract 1 p),.slice none 0 0],.bool true])/\Below w.heap.size w w':=by
 have hple:=he.le;have HE:=hid he;clear he;have HN:=hid hn;clear hn;go_enter Tryz.func119,Tryz.ntmps119;go_wp2;go_loop [4] (fun i=>∃ k:Nat,k<=p/\i=.int .i64 k) (fun i=>s.size-(RowKit.intOf i).toNat)
 case atStart=>exact⟨0,Nat.zero_le _,rfl⟩
 case round =>
  obtain⟨k,hk,rfl⟩:=hrel;by_cases hlt:k<p
  ·have hks:k<s.size:=by omega
   have e1:=HE.out.no k hlt hks;go_wp2;go_round
   case rel=>exact⟨k+1,by omega,by go_num⟩
   case measure=>simp[RowKit.intOf];omega
  ·have hkp:p=k:=by omega
   subst hkp;have e1:=HE.out.yes h2;go_wp2_with fail
   go_region
   go_wp2_with (go_at_call 121;refine(HN.out _).mono ?_;rintro e w1 ⟨rfl,rfl⟩)
   all_goals go_region
   all_goals go_wp2
   all_goals exact zbD (v:=.tuple #[.agg #[.int .u8 82,.string (s.extract 1 p),.slice none 0 0],.bool true]) (by simp[results,Tryz.results119,go_sem, *]) rfl ⟨rfl,(by repeat (first|with_reducible exact zaB|with_reducible refine zbE ?_|with_reducible refine zbF ?_ (by first|(simp;done)|(simp;omega)|omega) _|with_reducible refine zbG ?_ (by first|exact(zaB).size|(simp;done)|(simp;omega)|omega) _))⟩
theorem xJ (s:ByteArray) (w:World) (hs:s.size<=1000000) (p:Nat) (he:EqAt s p) (h1:1<=p) (h2:p<s.size) (e0:∀ h,(s[0]'h).toNat=85) (hn:∀ w,Calls Tryz.prog 121 #[.string (s.extract 1 p)] w fun e w'=>e=.returned (.bool true)/\w=w') (hr:(s.extract (p+1) s.size).toList.isEmpty=true) :
  Calls Tryz.prog 119 #[.string s] w fun e w'=>e=.returned (.tuple #[.agg #[.int .u8 85,.string (s.extract 1 p),.slice none 0 0],.bool false])/\Below w.heap.size w w':=by
 have hple:=he.le;have HE:=hid he;clear he;have HN:=hid hn;clear hn;go_enter Tryz.func119,Tryz.ntmps119;go_wp2;go_loop [4] (fun i=>∃ k:Nat,k<=p/\i=.int .i64 k) (fun i=>s.size-(RowKit.intOf i).toNat)
 case atStart=>exact⟨0,Nat.zero_le _,rfl⟩
 case round =>
  obtain⟨k,hk,rfl⟩:=hrel;by_cases hlt:k<p
  ·have hks:k<s.size:=by omega
   have e1:=HE.out.no k hlt hks;go_wp2;go_round
   case rel=>exact⟨k+1,by omega,by go_num⟩
   case measure=>simp[RowKit.intOf];omega
  ·have hkp:p=k:=by omega
   subst hkp;have e1:=HE.out.yes h2;go_wp2_with fail
   go_region
   go_wp2_with (go_at_call 121;refine(HN.out _).mono ?_;rintro e w1 ⟨rfl,rfl⟩)
   all_goals go_region
   all_goals go_wp2
   all_goals exact zbD (v:=.tuple #[.agg #[.int .u8 85,.string (s.extract 1 p),.slice none 0 0],.bool false]) (by simp[results,Tryz.results119,go_sem, *]) rfl ⟨rfl,(by repeat (first|with_reducible exact zaB|with_reducible refine zbE ?_|with_reducible refine zbF ?_ (by first|(simp;done)|(simp;omega)|omega) _|with_reducible refine zbG ?_ (by first|exact(zaB).size|(simp;done)|(simp;omega)|omega) _))⟩
theorem a1C (s:ByteArray) (w:World) (hs:s.size<=1000000) (p:Nat) (he:EqAt s p) (h1:1<=p) (h2:p<s.size) (e0:∀ h,(s[0]'h).toNat=69) (hn:∀ w,Calls Tryz.prog 121 #[.string (s.extract 1 p)] w fun e w'=>e=.returned (.bool true)/\w=w') (hr:(s.extract (p+1) s.size).toList.isEmpty=true) :
  Calls Tryz.prog 119 #[.string s] w fun e w'=>e=.returned (.tuple #[.agg #[.int .u8 69,.string (s.extract 1 p),.slice none 0 0],.bool false])/\Below w.heap.size w w':=by
 have hple:=he.le;have HE:=hid he;clear he;have HN:=hid hn;clear hn;go_enter Tryz.func119,Tryz.ntmps119;go_wp2;go_loop [4] (fun i=>∃ k:Nat,k<=p/\i=.int .i64 k) (fun i=>s.size-(RowKit.intOf i).toNat)
 case atStart=>exact⟨0,Nat.zero_le _,rfl⟩
 case round =>
  obtain⟨k,hk,rfl⟩:=hrel;by_cases hlt:k<p
  ·have hks:k<s.size:=by omega
   have e1:=HE.out.no k hlt hks;go_wp2;go_round
   case rel=>exact⟨k+1,by omega,by go_num⟩
   case measure=>simp[RowKit.intOf];omega
  ·have hkp:p=k:=by omega
   subst hkp;have e1:=HE.out.yes h2;go_wp2_with fail
   go_region
   go_wp2_with (go_at_call 121;refine(HN.out _).mono ?_;rintro e w1 ⟨rfl,rfl⟩)
   all_goals go_region
   all_goals go_wp2
   all_goals exact zbD (v:=.tuple #[.agg #[.int .u8 69,.string (s.extract 1 p),.slice none 0 0],.bool false]) (by simp[results,Tryz.results119,go_sem, *]) rfl ⟨rfl,(by repeat (first|with_reducible exact zaB|with_reducible refine zbE ?_|with_reducible refine zbF ?_ (by first|(simp;done)|(simp;omega)|omega) _|with_reducible refine zbG ?_ (by first|exact(zaB).size|(simp;done)|(simp;omega)|omega) _))⟩
