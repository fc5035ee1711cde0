/- Packed by pack.py: Ks In. -/
import Derived.Test.YtmdacedmjbiekaaGreatDoorRows
import Derived.Test.YtmdacedmjbiekaaGreatDoorQ0
import Derived.ProofKit
import Derived.OpenShut
import Derived.BigQuiet
import Derived.WalkSpells
namespace Go.Proofs.YtmdacedmjbiekaaGreatDoor
open Go.ChangeShapes Go.WideShapes Go.ChangeAt Go.RowKit Go.Lib
set_option linter.unusedVariables false
theorem l6In_yes (n a b:Int) (w:World) (h1:a≤n) (h2:n≤b):Calls Tryz.prog 148 #[.int .i64 n, .int .i64 a, .int .i64 b] w fun e w'=>e=.returned (.bool true)∧w=w':=by
 go_enter Tryz.func148,Tryz.ntmps148
 go_wp2
 go_ret
 exact⟨rfl,rfl⟩
theorem ret_b {x y:Bool} (h2:x=y):Ending.returned (.bool x)=.returned (.bool y):=by rw[h2]
theorem l6In_no (n a b:Int) (w:World) (h:n<a∨b<n):Calls Tryz.prog 148 #[.int .i64 n, .int .i64 a, .int .i64 b] w fun e w'=>e=.returned (.bool false)∧w=w':=by
 by_cases h1:a≤n
 ·have h2:b<n:=by omega
  clear h
  go_enter Tryz.func148,Tryz.ntmps148
  go_wp2
  go_ret
  exact⟨ret_b (decide_eq_false (by omega)),rfl⟩
 ·have h2:n<a:=by omega
  clear h
  go_enter Tryz.func148,Tryz.ntmps148
  go_wp2
  go_ret
  exact⟨ret_b rfl,rfl⟩
theorem byte_at (s:ByteArray) (i:Nat) (h:i<s.size):∃ c:UInt8,s.data.toList[i]? = some c∧∀ h,(s[i]'h).toNat=c.toNat:=by
 refine⟨s[i]'h, ?_,fun _=>rfl⟩
 rw[Array.getElem?_toList,Array.getElem?_eq_getElem (by exact h)];rfl
theorem size_list (s:ByteArray):s.data.toList.length=s.size:=by rw[Array.length_toList];rfl
theorem name_no {s:ByteArray} {i:Nat} {c:UInt8} (h:s.data.toList[i]? = some c) (hc:Wf.isLow c=false):Wf.isName s.data.toList=false:=by
 unfold Wf.isName
 have hm:c∈s.data.toList:=List.mem_of_getElem? h
 have:s.data.toList.all Wf.isLow=false:=by
  rw[List.all_eq_false];exact⟨c,hm,by rw[hc];decide⟩
 rw[this,Bool.and_false]
theorem all_take {l:List UInt8} {i:Nat} {c:UInt8} (h:(l.take i).all Wf.isLow=true) (hc:l[i]? = some c) (hl:Wf.isLow c=true):(l.take (i+1)).all Wf.isLow=true:=by
 rw[List.take_add_one,hc,List.all_append,h];simp[hl]
theorem low_no {c:UInt8} (h:c.toNat<97∨122<c.toNat):Wf.isLow c=false:=by
 unfold Wf.isLow
 rcases h with h|h
 ·rw[decide_eq_false (by omega),Bool.false_and]
 ·rw[decide_eq_false (p:=c.toNat≤122) (by omega),Bool.and_false]
theorem low_yes {c:UInt8} (h:97≤c.toNat) (h2:c.toNat≤122):Wf.isLow c=true:=by simp[Wf.isLow];omega
theorem name_end {s:ByteArray} {i:Int} {b:Bool} (hi:i=s.size) (h:(s.data.toList.take i.toNat).all Wf.isLow=true) (hb:decide (1≤s.size∧s.size≤3)=b):b=Wf.isName s.data.toList:=by
 have hl:=size_list s
 rw[List.take_of_length_le (by omega)] at h
 unfold Wf.isName
 rw[h,Bool.and_true,hl,← hb]
 by_cases h1:1≤s.size <;> by_cases h2:s.size≤3 <;> simp[h1,h2]
set_option maxRecDepth 20000 in
theorem l2Name (s:ByteArray) (w:World) (hs:s.size≤9223372036854775807):Calls Tryz.prog 104 #[.string s] w fun e w'=>e=.returned (.bool (Wf.isName s.data.toList))∧w=w':=by
 go_enter Tryz.func104,Tryz.ntmps104
 go_wp2
 go_loopw [3] (fun v wr=>∃ i:Int,0≤i∧i≤s.size∧v=.int .i64 i∧Hid ((s.data.toList.take i.toNat).all Wf.isLow=true)∧w=wr)
  (fun v _=>s.size-(RowKit.intOf v).toNat)
 case atStart=>exact⟨0,Int.le_refl _,by omega,rfl,hid (show _=true by simp),rfl⟩
 case round =>
  obtain⟨i,hi0,hi1,rfl,hall,rfl⟩:=hrel
  by_cases hlt:i<s.size
  ·obtain⟨c,hc,e0⟩:=byte_at s i.toNat (by omega)
   have HC:=hid hc
   clear hc
   obtain⟨a,ha⟩:∃ a,c.toNat=a:=⟨_,rfl⟩
   have HA:=hid ha
   rw[ha] at e0
   clear ha
   by_cases h1:a<97
   ·go_wp2
    go_ret
    exact⟨ret_b (name_no HC.out (low_no (by rw[HA.out];omega))).symm,rfl⟩
   ·by_cases h2:122<a
    ·go_wp2
     go_ret
     exact⟨ret_b (name_no HC.out (low_no (by rw[HA.out];omega))).symm,rfl⟩
    ·go_wp2
     go_roundw
     case rel=>exact⟨_,by omega,by omega,rfl,hid (show _=true by rw[show(i+1).toNat=i.toNat+1 by omega];exact all_take hall.out HC.out (low_yes (by rw[HA.out];omega) (by rw[HA.out];omega))),trivial⟩
     case measure=>simp[RowKit.intOf];omega
  ·have hi:i=s.size:=by omega
   by_cases h3:1≤s.size
   ·by_cases h4:s.size≤3
    ·go_wp2_with (go_at_call 148;refine(l6In_yes _ _ _ _ (by omega) (by omega)).mono ?_;rintro e w1 ⟨rfl,rfl⟩)
     go_ret
     exact⟨ret_b (name_end hi hall.out (decide_eq_true ⟨h3,h4⟩)),rfl⟩
    ·go_wp2_with (go_at_call 148;refine(l6In_no _ _ _ _ (by omega)).mono ?_;rintro e w1 ⟨rfl,rfl⟩)
     go_ret
     exact⟨ret_b (name_end hi hall.out (decide_eq_false (by omega))),rfl⟩
   ·go_wp2_with (go_at_call 148;refine(l6In_no _ _ _ _ (by omega)).mono ?_;rintro e w1 ⟨rfl,rfl⟩)
    go_ret
    exact⟨ret_b (name_end hi hall.out (decide_eq_false (by omega))),rfl⟩
theorem not_empty {s:ByteArray} (h:1≤s.size):s.toList.isEmpty=false:=by
 rw[ByteArray.toList_eq]
 have:=size_list s
 cases h':s.data.toList with
 | nil=>rw[h'] at this;simp at this;omega
 | cons a l=>rfl
set_option maxRecDepth 20000 in
theorem ok_sgn (s:ByteArray) (w:World) (hs:s.size≤12) (h1:1≤s.size) (a:Nat) (e0:∀ h,(s[0]'h).toNat=a) (ha:a=91) (b:Bool) (hr:Calls Tryz.prog 72 #[.string (s.extract 1 s.size)] w fun e w'=>e=.returned (.bool b)∧w=w'):Calls Tryz.prog 72 #[.string s] w fun e w'=>e=.returned (.bool b)∧w=w':=by
 subst ha
 have HR:=hid hr
 clear hr
 have t0:s.toList.isEmpty=false:=not_empty h1
 go_enter Tryz.func72,Tryz.ntmps72
 go_wp2_with (go_at_call 72;refine HR.out.mono ?_;rintro e w1 ⟨rfl,rfl⟩)
 go_ret
 exact⟨rfl,rfl⟩
set_option maxRecDepth 20000 in
theorem ok_at (s:ByteArray) (w:World) (hs:s.size≤12) (h1:1≤s.size) (h2:2≤s.size) (a z:Nat) (e0:∀ h,(s[0]'h).toNat=a) (ha:a=64) (el:∀ h,(s[s.size-1]'h).toNat=z) (hz:z=59):Calls Tryz.prog 72 #[.string s] w fun e w'=>e=.returned (.bool (Wf.isName (s.extract 1 (s.size-1)).data.toList))∧w=w':=by
 subst ha hz
 obtain⟨b,hb⟩:∃ b,Wf.isName (s.extract 1 (s.size-1)).data.toList=b:=⟨_,rfl⟩
 have HL:=hid (l2Name (s.extract 1 (s.size-1)) w (by rw[ByteArray.size_extract];omega))
 rw[hb] at HL ⊢
 clear hb
 have t0:s.toList.isEmpty=false:=not_empty h1
 go_enter Tryz.func72,Tryz.ntmps72
 go_wp2_with (go_at_call 104;refine HL.out.mono ?_;rintro e w1 ⟨rfl,rfl⟩)
 go_ret
 exact⟨rfl,rfl⟩
theorem eq_list (s:ByteArray) (l:List UInt8):(s=⟨l.toArray⟩)↔s.data.toList=l:=by
 constructor
 ·rintro rfl;rfl
 ·intro h;rw[← h]
set_option maxRecDepth 20000 in
theorem ok_at_no (s:ByteArray) (w:World) (hs:s.size≤12) (h1:1≤s.size) (a z:Nat) (e0:∀ h,(s[0]'h).toNat=a) (ha:a=64) (el:∀ h,(s[s.size-1]'h).toNat=z) (hz:z≠59):Calls Tryz.prog 72 #[.string s] w fun e w'=>e=.returned (.bool false)∧w=w':=by
 subst ha
 have t0:s.toList.isEmpty=false:=not_empty h1
 have t1:((z:Int)==59)=false:=by rw[beq_eq_false_iff_ne];omega
 go_enter Tryz.func72,Tryz.ntmps72
 go_wp2
 go_ret
 exact⟨rfl,rfl⟩
set_option maxRecDepth 20000 in
theorem ok_else (s:ByteArray) (w:World) (hs:s.size≤12) (h1:1≤s.size) (a:Nat) (e0:∀ h,(s[0]'h).toNat=a) (ha:a≠64) (ha2:a≠91) (ha3:a≠63):Calls Tryz.prog 72 #[.string s] w fun e w'=>e=.returned (.bool (s.toList==[110] || s.toList==[116] || s.toList==[102]))∧w=w':=by
 have t0:s.toList.isEmpty=false:=not_empty h1
 have t1:((a:Int)==64)=false:=by rw[beq_eq_false_iff_ne];omega
 have t2:((a:Int)==91)=false:=by rw[beq_eq_false_iff_ne];omega
 have t3:((a:Int)==63)=false:=by rw[beq_eq_false_iff_ne];omega
 cases g1:(s.toList==[110]) <;> cases g2:(s.toList==[116]) <;> cases g3:(s.toList==[102])
 all_goals (go_enter Tryz.func72,Tryz.ntmps72;go_wp2)
 all_goals go_ret
 all_goals exact⟨rfl,rfl⟩
set_option maxRecDepth 20000 in
theorem ok_63 (s:ByteArray) (w:World) (hs:s.size≤12) (h1:1≤s.size) (a:Nat) (e0:∀ h,(s[0]'h).toNat=a) (ha:a=63) (b:Bool) (hr:Calls Tryz.prog 72 #[.string (s.extract 1 s.size)] w fun e w'=>e=.returned (.bool b)∧w=w'):Calls Tryz.prog 72 #[.string s] w fun e w'=>e=.returned (.bool b)∧w=w':=by
 subst ha
 have HR:=hid hr
 clear hr
 have t0:s.toList.isEmpty=false:=not_empty h1
 go_enter Tryz.func72,Tryz.ntmps72
 go_wp2_with (go_at_call 72;refine HR.out.mono ?_;rintro e w1 ⟨rfl,rfl⟩)
 go_ret
 exact⟨rfl,rfl⟩
set_option maxRecDepth 20000 in
theorem ok_long (s:ByteArray) (w:World) (hs:12<s.size):Calls Tryz.prog 72 #[.string s] w fun e w'=>e=.returned (.bool false)∧w=w':=by
 go_enter Tryz.func72,Tryz.ntmps72
 go_wp2
 go_ret
 exact⟨rfl,rfl⟩
set_option maxRecDepth 20000 in
theorem ok_empty (s:ByteArray) (w:World) (hs:s.size≤12) (t0:s.toList.isEmpty=true):Calls Tryz.prog 72 #[.string s] w fun e w'=>e=.returned (.bool false)∧w=w':=by
 go_enter Tryz.func72,Tryz.ntmps72
 go_wp2
 go_ret
 exact⟨rfl,rfl⟩
theorem ext_list (s:ByteArray) (i j:Nat):(s.extract i j).data.toList=(s.data.toList.drop i).take (j-i):=by
 rw[ByteArray.data_extract,Array.toList_extract,List.extract_eq_take_drop]
def okB (l:List UInt8):Bool:=(Wf.parseK l).isSome
theorem kindOk_spec (n:Nat):∀ (s:ByteArray) (w:World),s.size≤n→Calls Tryz.prog 72 #[.string s] w fun e w'=>e=.returned (.bool (okB s.data.toList))∧w=w':=by
 induction n with
 | zero =>
  intro s w hn
  have hl:=size_list s
  have h0:s.data.toList=[]:=List.eq_nil_of_length_eq_zero (by omega)
  have:=ok_empty s w (by omega) (by rw[ByteArray.toList_eq,h0];rfl)
  rw[h0];exact this
 | succ n ih =>
  intro s w hn
  have hl:=size_list s
  by_cases hs:s.size≤12
  ·cases hd:s.data.toList with
   | nil=>exact ok_empty s w hs (by rw[ByteArray.toList_eq,hd];rfl)
   | cons c r =>
    have hlr:r.length+1=s.size:=by rw[← hl,hd];rfl
    obtain⟨c',hc',e0⟩:=byte_at s 0 (by omega)
    have hcc:c'=c:=by rw[hd] at hc';simpa using hc'.symm
    subst hcc
    have hpk:okB (c'::r)=(Wf.kindIn (c'::r)).isSome:=by
     unfold okB Wf.parseK;rw[if_pos (by rw[List.length_cons];omega)]
    have hpr:okB r=(Wf.kindIn r).isSome:=by
     unfold okB Wf.parseK;rw[if_pos (by omega)]
    have hx:(s.extract 1 s.size).data.toList=r:=by
     rw[ext_list,hd,List.drop_one,List.tail_cons,List.take_of_length_le (by omega)]
    have hrec:=ih (s.extract 1 s.size) w (by rw[ByteArray.size_extract];omega)
    rw[hx,hpr] at hrec
    rw[hpk]
    by_cases h1:c'=91
    ·subst h1
     have:=ok_sgn s w hs (by omega) _ e0 rfl _ hrec
     simpa[Wf.kindIn] using this
    ·by_cases h2:c'=63
     ·subst h2
      have:=ok_63 s w hs (by omega) _ e0 rfl _ hrec
      simpa[Wf.kindIn] using this
     ·have hne:∀ x:UInt8,c'≠x→c'.toNat≠x.toNat:=fun x hx h=>hx (UInt8.toNat_inj.1 h)
      by_cases h3:c'=64
      ·subst h3
       obtain⟨z,hz,el⟩:=byte_at s (s.size-1) (by omega)
       rcases List.eq_nil_or_concat r with hr|⟨q,y,hr⟩
       ·subst hr
        have h1s:s.size=1:=by rw[← hlr];rfl
        have hz':z=64:=by rw[hd,h1s] at hz;simpa using hz.symm
        subst hz'
        have:=ok_at_no s w hs (by omega) _ _ e0 rfl el (by decide)
        simpa[Wf.kindIn] using this
       ·have hq:r=q++[y]:=by rw[hr];simp
        subst hq
        have hlq:q.length+2=s.size:=by rw[← hlr];simp
        have hzy:z=y:=by
         rw[hd] at hz
         rw[show s.size-1=(64::q).length by simp;omega,← List.cons_append,List.getElem?_append_right (Nat.le_refl _)] at hz
         simpa using hz.symm
        subst hzy
        have hx2:(s.extract 1 (s.size-1)).data.toList=q:=by
         rw[ext_list,hd,List.drop_one,List.tail_cons,show s.size-1-1=q.length by omega,List.take_left']
         rfl
        by_cases h59:z=59
        ·subst h59
         have:=ok_at s w hs (by omega) (by omega) _ _ e0 rfl el rfl
         rw[hx2] at this
         cases hn2:Wf.isName q <;> simpa[Wf.kindIn,hn2] using this
        ·have:=ok_at_no s w hs (by omega) _ _ e0 rfl el (fun h=>h59 (UInt8.toNat_inj.1 (by rw[h];rfl)))
         simpa[Wf.kindIn,h59] using this
      ·have:=ok_else s w hs (by omega) _ e0 (hne 64 h3) (hne 91 h1) (hne 63 h2)
       rw[ByteArray.toList_eq,hd] at this
       have hb:(Wf.kindIn (c'::r)).isSome=((c'::r)==[110] || (c'::r)==[116] || (c'::r)==[102]):=by
        simp only[Wf.kindIn,if_neg h1,if_neg h2,if_neg h3]
        by_cases i1:c'=110∧r=[]
        ·obtain⟨rfl,rfl⟩:=i1;rfl
        ·rw[if_neg i1]
         by_cases i2:c'=116∧r=[]
         ·obtain⟨rfl,rfl⟩:=i2;rfl
         ·rw[if_neg i2]
          by_cases i3:c'=102∧r=[]
          ·obtain⟨rfl,rfl⟩:=i3;rfl
          ·rw[if_neg i3]
           have e1:((c'::r)==[110])=false:=by rw[beq_eq_false_iff_ne];simpa using i1
           have e2:((c'::r)==[116])=false:=by rw[beq_eq_false_iff_ne];simpa using i2
           have e3:((c'::r)==[102])=false:=by rw[beq_eq_false_iff_ne];simpa using i3
           rw[e1,e2,e3];rfl
       rw[hb];exact this
  ·have:okB s.data.toList=false:=by unfold okB Wf.parseK;rw[if_neg (by omega)];rfl
   rw[this];exact ok_long s w (by omega)

theorem name_trim (s:ByteArray) (h1:1≤s.size) (h3:s.size≤3):(Lib.trimS s.data.toList letters).isEmpty=Wf.isName s.data.toList:=by
 have hl:=size_list s
 have h:=trim_nil s.data.toList
 unfold Wf.isName
 rw[hl,decide_eq_true h1,decide_eq_true h3,Bool.true_and,Bool.true_and,Bool.eq_iff_iff,List.isEmpty_iff]
 exact h
theorem name_off (s:ByteArray) (h:s.size<1∨3<s.size):false=Wf.isName s.data.toList:=by
 have hl:=size_list s
 unfold Wf.isName
 rw[hl]
 rcases h with h|h
 ·rw[decide_eq_false (by omega),Bool.false_and,Bool.false_and]
 ·rw[decide_eq_false (p:=s.size≤3) (by omega),Bool.and_false,Bool.false_and]
set_option maxRecDepth 20000 in
theorem isName_impl (s:ByteArray) (w:World) (hs:s.size≤1048576):Calls Tryz.prog 108 #[.string s] w fun e w'=>e=.returned (.bool (Wf.isName s.data.toList))∧Below w.heap.size w w':=by
 have HT:=hid (letters_off s w (by omega))
 by_cases h1:1≤s.size
 ·by_cases h3:s.size≤3
  ·have HN:=hid (name_trim s h1 h3)
   go_enter Tryz.func108,Tryz.ntmps108
   go_wp2_with (go_at_call 155;refine HT.out.mono ?_;rintro e w1 ⟨rfl,hb⟩)
   go_ret
   exact⟨ret_b HN.out,hb⟩
  ·have HN:=hid (name_off s (by omega))
   go_enter Tryz.func108,Tryz.ntmps108
   go_wp2
   go_ret
   exact⟨ret_b HN.out,Below.refl _ _⟩
 ·have HN:=hid (name_off s (by omega))
  go_enter Tryz.func108,Tryz.ntmps108
  go_wp2
  go_ret
  exact⟨ret_b HN.out,Below.refl _ _⟩
end Go.Proofs.YtmdacedmjbiekaaGreatDoor
