/- Packed by pack.py: Ls. -/
import Derived.Test.YtmdacedmjbiekaaGreatDoorR4
import Derived.Test.YtmdacedmjbiekaaGreatDoorR5
namespace Go.Proofs.YtmdacedmjbiekaaGreatDoor
open Go.ChangeShapes Go.WideShapes Go.ChangeAt Go.RowKit Go.Lib
set_option linter.unusedVariables false
theorem q_mk {l:List UInt8} (h2:2≤l.length):∃ a m z,l=a::(m++[z]):=by
 cases l with
 | nil=>simp at h2
 | cons a r =>
  have hr:r≠[]:=by intro e;subst e;simp at h2
  exact⟨a,r.dropLast,r.getLast hr,by rw[List.dropLast_concat_getLast hr]⟩
theorem q_eq (a z:UInt8) (m:List UInt8):Wf.quoted (a::(m++[z]))=(decide (a=39)&&decide (z=39)&&m.all Wf.isTxt&&decide (m.length≤12)):=by
 unfold Wf.quoted
 rw[List.head?_cons,List.tail_cons,List.getLast?_concat,List.dropLast_concat,List.length_cons,List.length_append,List.length_singleton]
 have e1:decide (some a=some 39)=decide (a=39):=by simp
 have e2:decide (some z=some 39)=decide (z=39):=by simp
 have e3:decide (m.length+1+1≤14)=decide (m.length≤12):=by rw[decide_eq_decide];omega
 rw[e1,e2,e3]
theorem q_short {l:List UInt8} (h:l.length<2):Wf.quoted l=false:=by
 match l,h with
 | [],_=>rfl
 | [a],_=>unfold Wf.quoted;simp
theorem q_long {l:List UInt8} (h:14<l.length):Wf.quoted l=false:=by
 unfold Wf.quoted;rw[decide_eq_false (p:=l.length≤14) (by omega),Bool.and_false]
theorem q_first {l:List UInt8} {c:UInt8} (h:l[0]? = some c) (hc:c≠39):Wf.quoted l=false:=by
 unfold Wf.quoted
 rw[List.head?_eq_getElem?,h,decide_eq_false (by simpa using hc)];rfl
theorem q_last {l:List UInt8} {c:UInt8} (h2:2≤l.length) (h:l[l.length-1]? = some c) (hc:c≠39):Wf.quoted l=false:=by
 obtain⟨a,m,z,rfl⟩:=q_mk h2
 have hz:z=c:=by
  rw[← List.cons_append,List.length_append,List.length_singleton,Nat.add_sub_cancel,List.getElem?_append_right (Nat.le_refl _),Nat.sub_self] at h
  simpa using h
 rw[q_eq,decide_eq_false (p:=z=39) (by rw[hz];exact hc),Bool.and_false,Bool.false_and,Bool.false_and]
theorem q_mid {l:List UInt8} {i:Nat} {c:UInt8} (h2:2≤l.length) (h:l[i]? = some c) (h1:1≤i) (hi:i<l.length-1) (hc:Wf.isTxt c=false):Wf.quoted l=false:=by
 obtain⟨a,m,z,rfl⟩:=q_mk h2
 have hm:c∈m:=by
  simp only[List.length_cons,List.length_append,List.length_nil] at hi
  obtain⟨j,rfl⟩:∃ j,i=j+1:=⟨i-1,by omega⟩
  rw[List.getElem?_cons_succ,List.getElem?_append_left (by omega)] at h
  exact List.mem_of_getElem? h
 have:m.all Wf.isTxt=false:=by rw[List.all_eq_false];exact⟨c,hm,by rw[hc];decide⟩
 rw[q_eq,this,Bool.and_false,Bool.false_and]
theorem q_yes {l:List UInt8} (h2:2≤l.length) (h14:l.length≤14) (h0:l[0]? = some 39) (hl:l[l.length-1]? = some 39) (hm:((l.drop 1).take (l.length-2)).all Wf.isTxt=true):Wf.quoted l=true:=by
 obtain⟨a,m,z,rfl⟩:=q_mk h2
 have hz:z=39:=by
  rw[← List.cons_append,List.length_append,List.length_singleton,Nat.add_sub_cancel,List.getElem?_append_right (Nat.le_refl _),Nat.sub_self] at hl
  simpa using hl
 have ha:a=39:=by simpa using h0
 simp only[List.length_cons,List.length_append,List.length_nil] at h14 hm
 rw[List.drop_one,List.tail_cons,show m.length+(0+1)+1-2=m.length by omega,List.take_left' rfl] at hm
 rw[q_eq,hm,decide_eq_true ha,decide_eq_true hz,decide_eq_true (by omega)];rfl
theorem txt_no {c:UInt8} (h1:c.toNat≠32) (h2:c.toNat<48∨57<c.toNat) (h3:c.toNat<97∨122<c.toNat):Wf.isTxt c=false:=by
 unfold Wf.isTxt
 have e1:(c==32)=false:=by rw[beq_eq_false_iff_ne];intro h;apply h1;rw[h];rfl
 have e2:(decide (97≤c.toNat)&&decide (c.toNat≤122))=false:=by
  rcases h3 with h|h
  ·rw[decide_eq_false (by omega),Bool.false_and]
  ·rw[decide_eq_false (p:=c.toNat≤122) (by omega),Bool.and_false]
 have e3:(decide (48≤c.toNat)&&decide (c.toNat≤57))=false:=by
  rcases h2 with h|h
  ·rw[decide_eq_false (by omega),Bool.false_and]
  ·rw[decide_eq_false (p:=c.toNat≤57) (by omega),Bool.and_false]
 rw[e1,e2,e3];rfl
theorem txt_yes {c:UInt8} (h:c.toNat=32∨(48≤c.toNat∧c.toNat≤57)∨(97≤c.toNat∧c.toNat≤122)):Wf.isTxt c=true:=by
 unfold Wf.isTxt
 rcases h with h|⟨h1,h2⟩|⟨h1,h2⟩
 ·have:c=32:=UInt8.toNat_inj.1 (by rw[h];rfl)
  rw[this];rfl
 ·rw[decide_eq_true h1,decide_eq_true h2];simp
 ·rw[decide_eq_true h1,decide_eq_true h2];simp
theorem all_step {p:UInt8→Bool} {l:List UInt8} {k:Nat} {c:UInt8} (h:(l.take k).all p=true) (hc:l[k]? = some c) (hp:p c=true):(l.take (k+1)).all p=true:=by
 rw[List.take_add_one,hc,List.all_append,h];simp[hp]
set_option maxRecDepth 20000 in
set_option maxHeartbeats 1000000 in
theorem l3Text (s:ByteArray) (w:World) (hs:s.size≤9223372036854775807):Calls Tryz.prog 136 #[.string s] w fun e w'=>e=.returned (.bool (Wf.quoted s.data.toList))∧w=w':=by
 have hl:=size_list s
 by_cases h2:s.size<2
 ·have HQ:=hid (q_short (l:=s.data.toList) (by omega))
  clear hl
  go_enter Tryz.func136,Tryz.ntmps136
  go_wp2
  go_ret
  exact⟨ret_b HQ.out.symm,rfl⟩
 ·by_cases h14:14<s.size
  ·have HQ:=hid (q_long (l:=s.data.toList) (by omega))
   clear hl
   go_enter Tryz.func136,Tryz.ntmps136
   go_wp2
   go_ret
   exact⟨ret_b HQ.out.symm,rfl⟩
  ·obtain⟨c0,hc0,e0⟩:=byte_at s 0 (by omega)
   obtain⟨a,ha⟩:∃ a,c0.toNat=a:=⟨_,rfl⟩
   obtain⟨c9,hc9,e9⟩:=byte_at s (s.size-1) (by omega)
   obtain⟨z,hz⟩:∃ z,c9.toNat=z:=⟨_,rfl⟩
   rw[ha] at e0
   rw[hz] at e9
   by_cases ha39:a=39
   ·by_cases hz39:z=39
    ·subst ha39 hz39
     have H0:=hid (show s.data.toList[0]? = some 39 by rw[hc0];exact congrArg some (UInt8.toNat_inj.1 (by rw[ha];rfl)))
     have H9:=hid (show s.data.toList[s.data.toList.length-1]? = some 39 by rw[hl,hc9];exact congrArg some (UInt8.toNat_inj.1 (by rw[hz];rfl)))
     have HL:=hid hl
     clear hl hc0 hc9 ha hz
     go_enter Tryz.func136,Tryz.ntmps136
     go_wp2
     go_loop [3,4] (fun i x=>∃ k:Nat,k+1<s.size∧i=.int .i64 ((k:Int)+1)∧Hid (((s.data.toList.drop 1).take k).all Wf.isTxt=true)) (fun i _=>s.size-(RowKit.intOf i).toNat)
     case atStart=>exact⟨0,by omega,rfl,hid (show _=true by simp)⟩
     case round =>
      obtain⟨k,hk,rfl,hd⟩:=hrel
      by_cases hlt:k+2<s.size
      ·obtain⟨c,hc,e1⟩:=byte_at s (k+1) (by omega)
       obtain⟨b,hb⟩:∃ b,c.toNat=b:=⟨_,rfl⟩
       rw[hb] at e1
       have HC:=hid hc
       have HB:=hid hb
       have HC2:=hid (show(s.data.toList.drop 1)[k]? = some c by rw[List.getElem?_drop,Nat.add_comm];exact hc)
       clear hc hb
       have bad:b≠32→(b<48∨57<b)→(b<97∨122<b)→Hid (false=Wf.quoted s.data.toList):=fun g1 g2 g3=>hid (show _=_ from(q_mid (by rw[HL.out];omega) HC.out (by omega) (by rw[HL.out];omega) (txt_no (by rw[HB.out];exact g1) (by rw[HB.out];exact g2) (by rw[HB.out];exact g3))).symm)
       have good:(b=32∨(48≤b∧b≤57)∨(97≤b∧b≤122))→Hid (((s.data.toList.drop 1).take (k+1)).all Wf.isTxt=true):=fun g=>hid (show _=_ from all_step hd.out HC2.out (txt_yes (by rw[HB.out];exact g)))
       by_cases h32:b=32
       ·have G:=good (.inl h32)
        clear good bad
        subst h32
        go_wp2
        go_round
        case rel=>exact⟨k+1,by omega,by go_num,G⟩
        case measure=>simp[RowKit.intOf];omega
       ·have t32:((b:Int) != 32)=true:=by rw[bne_iff_ne];omega
        by_cases h48:b<48
        ·have G:=bad h32 (.inl h48) (.inl (by omega))
         clear good bad h32
         go_wp2
         go_ret
         exact⟨ret_b G.out,rfl⟩
        ·by_cases h57:57<b
         ·by_cases h97:b<97
          ·have G:=bad h32 (.inr h57) (.inl h97)
           clear good bad h32
           go_wp2
           go_ret
           exact⟨ret_b G.out,rfl⟩
          ·by_cases h122:122<b
           ·have G:=bad h32 (.inr h57) (.inr h122)
            clear good bad h32
            go_wp2
            go_ret
            exact⟨ret_b G.out,rfl⟩
           ·have G:=good (.inr (.inr ⟨by omega,by omega⟩))
            clear good bad h32
            go_wp2
            go_round
            case rel=>exact⟨k+1,by omega,by go_num,G⟩
            case measure=>simp[RowKit.intOf];omega
         ·have G:=good (.inr (.inl ⟨by omega,by omega⟩))
          clear good bad h32
          go_wp2
          go_round
          case rel=>exact⟨k+1,by omega,by go_num,G⟩
          case measure=>simp[RowKit.intOf];omega
      ·have hks:k+2=s.size:=by omega
       have HF:=hid (show true=Wf.quoted s.data.toList from(q_yes (by rw[HL.out];omega) (by rw[HL.out];omega) H0.out H9.out (by rw[HL.out,show s.size-2=k by omega];exact hd.out)).symm)
       clear hks
       go_wp2
       go_ret
       exact⟨ret_b HF.out,rfl⟩
    ·have HQ:=hid (show false=Wf.quoted s.data.toList from(q_last (by omega) (by rw[hl];exact hc9) (fun h=>hz39 (by rw[← hz,h];rfl))).symm)
     have tz:((z:Int) != 39)=true:=by rw[bne_iff_ne];omega
     subst ha39
     clear hl hc0 hc9 ha hz hz39
     go_enter Tryz.func136,Tryz.ntmps136
     go_wp2
     go_ret
     exact⟨ret_b HQ.out,rfl⟩
   ·have HQ:=hid (show false=Wf.quoted s.data.toList from(q_first hc0 (fun h=>ha39 (by rw[← ha,h];rfl))).symm)
    have ta:((a:Int) != 39)=true:=by rw[bne_iff_ne];omega
    clear hl hc0 hc9 ha hz ha39
    go_enter Tryz.func136,Tryz.ntmps136
    go_wp2
    go_ret
    exact⟨ret_b HQ.out,rfl⟩
def stT (kt s:List UInt8):Bool :=
 if kt=[110] then (match Wf.plainN s 999999 with|some m=>decide (0<m)|none=>false)
 else if kt=[116] then Wf.quoted s&&decide (s≠[39,39])
 else if kt=[102] then decide (s=[121,101,115]) else false
theorem stT_eq (kt s:List UInt8):stT kt s=match Wf.parseK kt with|some k=>Wf.stOk k s|none=>false:=by
 unfold stT
 by_cases h1:kt=[110]
 ·subst h1;rfl
 ·by_cases h2:kt=[116]
  ·subst h2;rfl
  ·by_cases h3:kt=[102]
   ·subst h3;rfl
   ·rw[if_neg h1,if_neg h2,if_neg h3]
    cases hp:Wf.parseK kt with
    | none=>rfl
    | some k =>
     have ht:=parse_text hp
     cases k with
     | num=>exact absurd ht.symm h1
     | txt=>exact absurd ht.symm h2
     | flag=>exact absurd ht.symm h3
     | ref n=>rfl
     | list k=>rfl
     | opt k=>rfl
theorem toList_eq_iff (s:ByteArray) (l:List UInt8):(s.toList==l)=decide (s.data.toList=l):=by rw[ByteArray.toList_eq,Bool.beq_eq_decide_eq]
set_option maxRecDepth 20000 in
set_option maxHeartbeats 1000000 in
theorem l3Stand (k s:ByteArray) (w:World) (hs:s.size≤9223372036854775807):Calls Tryz.prog 171 #[.string k, .string s] w fun e w'=>e=.returned (.bool (stT k.data.toList s.data.toList))∧Below w.heap.size w w':=by
 cases g1:(k.toList==[110])
 ·cases g2:(k.toList==[116])
  ·cases g3:(k.toList==[102])
   ·have HR:=hid (show false=stT k.data.toList s.data.toList by
     rw[toList_eq_iff] at g1 g2 g3
     unfold stT
     rw[if_neg (of_decide_eq_false g1),if_neg (of_decide_eq_false g2),if_neg (of_decide_eq_false g3)])
    go_enter Tryz.func171,Tryz.ntmps171
    go_wp2_with fail
    go_ret
    exact⟨ret_b HR.out,Below.refl _ _⟩
   ·have HR:=hid (show(s.toList==[121,101,115])=stT k.data.toList s.data.toList by
     rw[toList_eq_iff] at g1 g2 g3 ⊢
     unfold stT
     rw[if_neg (of_decide_eq_false g1),if_neg (of_decide_eq_false g2),if_pos (of_decide_eq_true g3)])
    go_enter Tryz.func171,Tryz.ntmps171
    go_wp2_with fail
    go_ret
    exact⟨ret_b HR.out,Below.refl _ _⟩
  ·have HR:=hid (show(Wf.quoted s.data.toList && !(s.toList==[39,39]))=stT k.data.toList s.data.toList by
    rw[toList_eq_iff] at g1 g2 ⊢
    unfold stT
    rw[if_neg (of_decide_eq_false g1),if_pos (of_decide_eq_true g2),decide_not])
   have HT:=hid fun w=>l3Text s w hs
   cases hq:Wf.quoted s.data.toList <;> cases h39:(s.toList==[39,39])
   all_goals
    rw[hq] at HR HT
    rw[h39] at HR
    clear hq
    go_enter Tryz.func171,Tryz.ntmps171
    go_wp2_with (go_at_call 136;refine(HT.out _).mono ?_;rintro e w1 ⟨rfl,rfl⟩)
    go_ret
    exact⟨ret_b HR.out,Below.refl _ _⟩
 ·have HN:=hid fun w=>l3Num s 999999 (Nat.le_refl _) w hs
  have HR:=hid (show(match Wf.plainN s.data.toList 999999 with|some m=>decide (0<m)|none=>false)=stT k.data.toList s.data.toList by
    rw[toList_eq_iff] at g1
    unfold stT
    rw[if_pos (of_decide_eq_true g1)])
  cases hp:Wf.plainN s.data.toList 999999 with
  | none =>
   rw[hp] at HR
   have HO:=hid fun e (h:NumOut s.data.toList 999999 e)=>(by unfold NumOut at h;rw[hp] at h;exact h:∃ m:Int,e=.returned (.tuple #[.int .i64 m, .bool false]))
   clear hp
   go_enter Tryz.func171,Tryz.ntmps171
   go_wp2_with (go_at_call 135;refine(HN.out _).mono ?_;rintro e w1 ⟨ho,hb⟩;obtain⟨m,rfl⟩:=HO.out e ho;clear ho)
   go_ret
   exact⟨ret_b HR.out,hb⟩
  | some n =>
   rw[hp] at HR
   have HO:=hid fun e (h:NumOut s.data.toList 999999 e)=>(by unfold NumOut at h;rw[hp] at h;exact h:e=.returned (.tuple #[.int .i64 n, .bool true]))
   have HS:=hid (show(!(s.toList==[48]))=decide (0<n) by
    obtain⟨g1,g2,g3⟩:=Wf.plainN_some hp
    rw[toList_eq_iff,g1,← decide_not,decide_eq_decide]
    constructor
    ·intro h
     rcases Nat.eq_zero_or_pos n with h0|h0
     ·exact absurd (by rw[h0,Wf.dec_lt (by omega)];rfl) h
     ·exact h0
    ·intro h he
     have:=Wf.val_dec n
     rw[he] at this
     have h2:Wf.val [48]=0:=by decide
     omega)
   clear hp
   cases h48:(s.toList==[48])
   all_goals
    rw[h48] at HS
    have HF:=hid (HS.out.trans HR.out)
    go_enter Tryz.func171,Tryz.ntmps171
    go_wp2_with (go_at_call 135;refine(HN.out _).mono ?_;rintro e w1 ⟨ho,hb⟩;obtain rfl:=HO.out e ho;clear ho)
    go_ret
    exact⟨ret_b HF.out,hb⟩
end Go.Proofs.YtmdacedmjbiekaaGreatDoor
