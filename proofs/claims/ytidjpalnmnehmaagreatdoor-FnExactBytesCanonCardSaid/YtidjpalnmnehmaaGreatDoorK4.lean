/- Packed. -/
import Derived.Test.YtidjpalnmnehmaaGreatDoorK3
import Derived.Deep.QuietTactic
import Derived.Deep.RegionWith
import Derived.Deep.RegionHeld3
set_option maxRecDepth 99999
set_option maxHeartbeats 40000000
set_option linter.all false
namespace Go.Proofs.YtidjpalnmnehmaaGreatDoor
open Go.ChangeShapes Go.WideShapes Go.ChangeAt Go.RowKit Go.Lib
abbrev tx (l:List UInt8):Value:=.string ⟨l.toArray⟩
def kV (k:Wf.K):Value:=.agg #[tx k.signs,tx k.base,tx k.name]
theorem sV (s:ByteArray) (w:World) (hs:12<s.size) (hs2:s.size<=9223372036854775807):Calls Tryz.prog 55 #[.string s] w fun e w'=>e=.returned (.tuple #[.agg #[tx [],tx [],tx []],.bool false])/\Below w.heap.size w w':=by
 go_enter Tryz.func55,Tryz.ntmps55;go_wp2;exact zbD (v:=.tuple #[.agg #[tx [],tx [],tx []],.bool false]) (by simp[results,Tryz.results55,go_sem]) rfl ⟨rfl,((zaB).alloc (zaA) _)⟩
theorem aC {W X w2:World} (hX:Below W.heap.size W X) (h:Below X.heap.size X w2):Below W.heap.size W w2:=hX.trans (h.mono hX.size)
theorem pX (s p:ByteArray) (w:World):Calls Tryz.prog 91 #[.string s,.string p] w fun e w'=>e=.returned (.bool (Lib.hasPrefix s.data.toList p.data.toList))/\w=w' :=
 (Tryz.strings_HasPrefix s p w).mono fun _ _ ⟨h1,h2⟩=>⟨h1,h2.symm⟩
theorem qG (s p:ByteArray) (w:World) (hs:s.size<=9223372036854775807):Calls Tryz.prog 92 #[.string s,.string p] w fun e w'=>e=.returned (.bool (Lib.hasSuffix s.data.toList p.data.toList))/\w=w' :=
 (Tryz.strings_HasSuffix s p w hs).mono fun _ _ ⟨h1,h2⟩=>⟨h1,h2.symm⟩
theorem yC (s t:ByteArray) (w:World) (hs:s.size<=12) (hts:t.size<=s.size) (h0:(t.toList==[110] || t.toList==[116] || t.toList==[102])=true)
  (hc:∀ w,Calls Tryz.prog 90 #[.string s,.string ⟨#[91,63]⟩] w fun e w'=>e=.returned (.string t)/\Below w.heap.size w w'):Calls Tryz.prog 55 #[.string s] w fun e w'=>e=.returned (.tuple #[.agg #[.string (s.extract 0 (s.size-t.size)),.string t,tx []],.bool true])/\Below w.heap.size w w':=by
 have HC:=hid hc;clear hc;cases g1:(t.toList==[110]) <;> cases g2:(t.toList==[116]) <;> cases g3:(t.toList==[102])
 ·rw[g1,g2,g3] at h0;cases h0
 all_goals
  clear h0;go_enter Tryz.func55,Tryz.ntmps55;go_wp2_with (go_at_call 90;refine(HC.out _).mono ?_;rintro e w1 ⟨rfl,hb⟩;have B1:Below w.heap.size w w1:=aC ((zaB).alloc (zaA) _) hb;obtain⟨hc1,hc2⟩:=bcell hb;have hz:w.heap.size<w1.heap.size:=by have:=hb.size;simp at this;omega)
  exact zbD (v:=.tuple #[.agg #[.string (s.extract 0 (s.size-t.size)),.string t,tx []],.bool true]) (by simp[results,Tryz.results55,go_sem,hc1,hz]) rfl ⟨rfl,(by repeat (first|exact B1|exact zaB|refine zbG ?_ (by first|(simp;done)|(simp;omega)|omega) _|refine zbF ?_ (by first|(simp;done)|(simp;omega)|omega) _|refine zbE ?_))⟩
theorem tE (s t:ByteArray) (w:World) (hs:s.size<=12) (hts:t.size<=s.size) (g1:(t.toList==[110])=false) (g2:(t.toList==[116])=false) (g3:(t.toList==[102])=false)
  (b1 b2:Bool) (h1:Lib.hasPrefix t.data.toList [64]=b1) (h2:Lib.hasSuffix t.data.toList [59]=b2) (h12:(b1&&b2)=false)
  (hc:∀ w,Calls Tryz.prog 90 #[.string s,.string ⟨#[91,63]⟩] w fun e w'=>e=.returned (.string t)/\Below w.heap.size w w'):Calls Tryz.prog 55 #[.string s] w fun e w'=>e=.returned (.tuple #[.agg #[tx [],tx [],tx []],.bool false])/\Below w.heap.size w w':=by
 have HC:=hid hc;have HP:=hid fun w=>pX t ⟨#[64]⟩ w;have HS:=hid fun w=>qG t ⟨#[59]⟩ w (by omega);rw[show Lib.hasPrefix t.data.toList (⟨#[64]⟩:ByteArray).data.toList=b1 from h1] at HP;rw[show Lib.hasSuffix t.data.toList (⟨#[59]⟩:ByteArray).data.toList=b2 from h2] at HS;clear hc h1 h2;cases b1 <;> cases b2
 case true.true=>cases h12
 all_goals
  clear h12;go_enter Tryz.func55,Tryz.ntmps55;go_wp2_with (first|(go_at_call 91;refine(HP.out _).mono ?_;rintro e w1 ⟨rfl,rfl⟩)|(go_at_call 92;refine(HS.out _).mono ?_;rintro e w1 ⟨rfl,rfl⟩)|(go_at_call 90;refine(HC.out _).mono ?_;rintro e w1 ⟨rfl,hb⟩;have B1:Below w.heap.size w w1:=aC ((zaB).alloc (zaA) _) hb;obtain⟨hc1,hc2⟩:=bcell hb;have hz:w.heap.size<w1.heap.size:=by have:=hb.size;simp at this;omega))
  exact zbD (v:=.tuple #[.agg #[tx [],tx [],tx []],.bool false]) (by simp[results,Tryz.results55,go_sem,hc1,hz]) rfl ⟨rfl,(by repeat (first|exact B1|exact zaB|refine zbG ?_ (by first|(simp;done)|(simp;omega)|omega) _|refine zbF ?_ (by first|(simp;done)|(simp;omega)|omega) _|refine zbE ?_))⟩
theorem a3D (s t:ByteArray) (w:World) (hs:s.size<=12) (hts:t.size<=s.size) (h2t:2<=t.size) (g1:(t.toList==[110])=false) (g2:(t.toList==[116])=false) (g3:(t.toList==[102])=false)
  (h1:Lib.hasPrefix t.data.toList [64]=true) (h2:Lib.hasSuffix t.data.toList [59]=true) (b:Bool)
  (hn:∀ w,Calls Tryz.prog 93 #[.string (t.extract 1 (t.size-1))] w fun e w'=>e=.returned (.bool b)/\Below w.heap.size w w')
  (hc:∀ w,Calls Tryz.prog 90 #[.string s,.string ⟨#[91,63]⟩] w fun e w'=>e=.returned (.string t)/\Below w.heap.size w w'):Calls Tryz.prog 55 #[.string s] w fun e w'=>e=.returned (.tuple #[.agg #[.string (s.extract 0 (s.size-t.size)),tx [64],.string (t.extract 1 (t.size-1))],.bool b])/\Below w.heap.size w w':=by
 have HC:=hid hc;have HN:=hid hn;have HP:=hid fun w=>pX t ⟨#[64]⟩ w;have HS:=hid fun w=>qG t ⟨#[59]⟩ w (by omega);rw[show Lib.hasPrefix t.data.toList (⟨#[64]⟩:ByteArray).data.toList=true from h1] at HP;rw[show Lib.hasSuffix t.data.toList (⟨#[59]⟩:ByteArray).data.toList=true from h2] at HS;clear hc hn h1 h2;go_enter Tryz.func55,Tryz.ntmps55;go_wp2_with (first|(go_at_call 91;refine(HP.out _).mono ?_;rintro e w1 ⟨rfl,rfl⟩)|(go_at_call 92;refine(HS.out _).mono ?_;rintro e w1 ⟨rfl,rfl⟩)|(go_at_call 90;refine(HC.out _).mono ?_;rintro e w1 ⟨rfl,hb⟩;have B1:Below w.heap.size w w1:=aC ((zaB).alloc (zaA) _) hb;obtain⟨hc1,hc2⟩:=bcell hb;have hz:w.heap.size<w1.heap.size:=by have:=hb.size;simp at this;omega))
 go_region_with (go_at_call 93;refine(HN.out _).mono ?_;rintro e w2 ⟨rfl,hb2⟩;obtain⟨hc3,hc4⟩:=bcell hb2;have hz2:w.heap.size<w2.heap.size:=(by have:=hb2.size;simp at this;omega);have hz3:w.heap.size<w1.heap.size+1:=Nat.lt_succ_of_lt hz;have B2:Below w.heap.size w w2:=aC (B1.alloc (Nat.le_of_lt hz) _).drew hb2)
 all_goals go_wp2
 all_goals exact zbD (v:=.tuple #[.agg #[.string (s.extract 0 (s.size-t.size)),tx [64],.string (t.extract 1 (t.size-1))],.bool b]) (by simp[results,Tryz.results55,go_sem,hc1,hc3,hz,hz3]) rfl ⟨rfl,(by repeat (first|exact B2|refine zbG ?_ (by first|(simp;done)|(simp;omega)|omega) _|refine zbF ?_ (by first|(simp;done)|(simp;omega)|omega) _|refine zbE ?_))⟩
