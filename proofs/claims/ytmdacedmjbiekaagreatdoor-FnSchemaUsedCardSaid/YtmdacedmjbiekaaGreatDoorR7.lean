/- Packed by pack.py: Cu Ia Rj. -/
import Derived.Lib.Split
import Derived.Lib.IndexMore
import Derived.Lib.CountLaws
import Derived.Lib.SplitLaws
import Derived.Test.YtmdacedmjbiekaaGreatDoorR5
import Derived.Test.YtmdacedmjbiekaaGreatDoorR0
import Derived.Test.YtmdacedmjbiekaaGreatDoorR6
import Derived.Test.YtmdacedmjbiekaaGreatDoorR1
namespace Go.Proofs.YtmdacedmjbiekaaGreatDoor
theorem pre_parts {c:UInt8} {l a r:List UInt8} (h:l=a++c::r):l.take a.length=a∧l.drop (a.length+[c].length)=r:=by
 subst h
 refine⟨List.take_left' rfl, ?_⟩
 rw[List.length_singleton,← List.drop_drop,List.drop_left' rfl]
 rfl
theorem index_cut1 (c:UInt8):∀ l:List UInt8,Lib.index l [c]=bif (Wf.cut1 c l).2.2 then ((Wf.cut1 c l).1.length:Int) else -1:=by
 intro l
 induction l with
 | nil=>rfl
 | cons b l ih =>
  unfold Lib.index
  by_cases h:b=c
  ·subst h
   have hp:List.isPrefixOf [b] (b::l)=true:=by simp[List.isPrefixOf]
   rw[if_pos hp]
   simp[Wf.cut1]
  ·have hp:List.isPrefixOf [c] (b::l)=false:=by
    simp only[List.isPrefixOf,Bool.and_eq_false_imp,beq_iff_eq]
    intro e;exact absurd e.symm h
   rw[hp,ih,if_neg (by decide)]
   simp only[Wf.cut1,if_neg h]
   cases hb:(Wf.cut1 c l).2.2 with
   | true =>
    simp only[cond_true]
    have:((((Wf.cut1 c l).1.length:Int)) == -1)=false:=by rw[beq_eq_false_iff_ne];omega
    rw[this,if_neg (by decide),List.length_cons]
    omega
   | false=>rfl
theorem cut_one (c:UInt8) (l:List UInt8):Lib.cut l [c]=Wf.cut1 c l:=by
 unfold Lib.cut
 rw[index_cut1]
 cases hb:(Wf.cut1 c l).2.2 with
 | true =>
  obtain⟨e1,e2⟩:=pre_parts (Wf.cut1_true hb).1
  simp only[cond_true]
  rw[if_pos (by omega),Int.toNat_natCast,e1,e2]
  exact Prod.ext rfl (Prod.ext rfl hb.symm)
 | false =>
  obtain⟨h1,h2,h3,h4⟩:=Wf.cut1_false hb
  simp only[cond_false]
  rw[if_neg (by decide)]
  exact Prod.ext h1.symm (Prod.ext h2.symm hb.symm)
theorem split_cut (c:UInt8):∀ (n:Nat) (l:List UInt8),l.length≤n→Lib.splitK [c] 0 (Lib.count l [c]) l=Wf.cutAt c l:=by
 intro n
 induction n with
 | zero =>
  intro l hl
  have:l=[]:=List.eq_nil_of_length_eq_zero (by omega)
  subst this;rfl
 | succ n ih =>
  intro l hl
  cases hb:(Wf.cut1 c l).2.2 with
  | false =>
   have hi:Lib.index l [c] = -1:=by rw[index_cut1,hb];rfl
   rw[Lib.count_miss hi,(Wf.cut1_false hb).2.2.2]
   rfl
  | true =>
   obtain⟨h1,h2,h3⟩:=Wf.cut1_true hb
   obtain⟨e1,hd⟩:=pre_parts h1
   have hi:Lib.index l [c]=((Wf.cut1 c l).1.length:Int):=by rw[index_cut1,hb];rfl
   have hlen:(Wf.cut1 c l).2.1.length≤n:=by
    have:=congrArg List.length h1
    rw[List.length_append,List.length_cons] at this
    omega
   rw[Lib.count_hit (by simp) hi,hd,h3,Nat.add_comm 1,Lib.splitK]
   have hx:(Lib.index l [c] == -1)=false:=by rw[hi,beq_eq_false_iff_ne];omega
   rw[hx,if_neg (by decide),hi,Int.toNat_natCast,hd,ih _ hlen,Nat.add_zero,e1]
theorem split_one (c:UInt8) (s:ByteArray):(Lib.splitB ⟨#[c]⟩ 0 (Lib.countB s ⟨#[c]⟩) s).map Value.string=(Wf.cutAt c s.data.toList).map fun l=>Value.string ⟨l.toArray⟩:=by
 have h:=Lib.splitB_data ⟨#[c]⟩ 0 (Lib.countB s ⟨#[c]⟩) s
 have h2:Lib.splitK (⟨#[c]⟩:ByteArray).data.toList 0 (Lib.countB s ⟨#[c]⟩) s.data.toList=Wf.cutAt c s.data.toList:=split_cut c _ s.data.toList (Nat.le_refl _)
 rw[h2] at h
 rw[← h,List.map_map]
 exact List.map_congr_left fun x _=>by rfl
theorem count_one (c:UInt8) (s:ByteArray):Lib.countB s ⟨#[c]⟩+1=(Wf.cutAt c s.data.toList).length:=by
 have h:=congrArg List.length (split_one c s)
 rw[List.length_map,List.length_map] at h
 rw[← h]
 exact(Lib.splitB_all ⟨#[c]⟩ (Nat.le_refl _) 0 _ s rfl).symm
end Go.Proofs.YtmdacedmjbiekaaGreatDoor

namespace Go.Proofs.YtmdacedmjbiekaaGreatDoor
open Go.ChangeShapes Go.WideShapes Go.ChangeAt Go.RowKit Go.Lib
set_option linter.unusedVariables false
def textSet:List UInt8:=[97,98,99,100,101,102,103,104,105,106,107,108,109,110,111,112,113,114,115,116,117,118,119,120,121,122,48,49,50,51,52,53,54,55,56,57,32]
theorem text_is (c:UInt8):textSet.contains c=Wf.isTxt c:=by
 have h:∀ n:Fin 256,textSet.contains (UInt8.ofNat n.val)=Wf.isTxt (UInt8.ofNat n.val):=by decide +kernel
 have:=h ⟨c.toNat,c.toNat_lt⟩
 simpa using this
theorem trim_text (l:List UInt8):Lib.trimS l textSet=[]↔l.all Wf.isTxt=true:=by
 have hp:(fun x=>textSet.contains x)=Wf.isTxt:=funext text_is
 unfold Lib.trimS Lib.trimLeftS Lib.trimRightS
 rw[hp,drop_nil]
 constructor
 ·intro h
  have h2:l.reverse.all Wf.isTxt=true:=by
   rw[← List.takeWhile_append_dropWhile (p:=Wf.isTxt) (l:=l.reverse),List.all_append,List.all_takeWhile,Bool.true_and]
   simpa using h
  simpa using h2
 ·intro h
  have:l.reverse.dropWhile Wf.isTxt=[]:=(drop_nil _ _).2 (by simpa using h)
  rw[this];rfl
theorem text_off (s:ByteArray) (w:World) (hs:s.size≤9223372036854775807):Calls Tryz.prog 155 #[.string s, .string ⟨#[97,98,99,100,101,102,103,104,105,106,107,108,109,110,111,112,113,114,115,116,117,118,119,120,121,122,48,49,50,51,52,53,54,55,56,57,32]⟩] w fun e w'=>e=.returned (.string ⟨(Lib.trimS s.data.toList textSet).toArray⟩)∧Go.RowKit.Below w.heap.size w w' :=
 Any.strings_Trim_laid Tryz.lays160 (by kernel_rfl) s ⟨#[97,98,99,100,101,102,103,104,105,106,107,108,109,110,111,112,113,114,115,116,117,118,119,120,121,122,48,49,50,51,52,53,54,55,56,57,32]⟩ w hs (by decide) (ascii_of_all (by decide))
def isTextB (l:List UInt8):Bool:=decide (l.length≤12)&&l.all Wf.isTxt
set_option maxRecDepth 20000 in
theorem isText (s:ByteArray) (w:World) (hs:s.size≤9223372036854775807):Calls Tryz.prog 185 #[.string s] w fun e w'=>e=.returned (.bool (isTextB s.data.toList))∧Below w.heap.size w w':=by
 have hl:=size_list s
 by_cases h12:s.size≤12
 ·have HT:=hid fun wz=>text_off s wz hs
  have HN:=hid (show(Lib.trimS s.data.toList textSet).isEmpty=isTextB s.data.toList by
   have h:=trim_text s.data.toList
   unfold isTextB
   rw[hl,decide_eq_true h12,Bool.true_and,Bool.eq_iff_iff,List.isEmpty_iff]
   exact h)
  clear hl
  go_enter Tryz.func185,Tryz.ntmps185
  go_wp2_with (go_at_call 155;refine(HT.out _).mono ?_;rintro e w1 ⟨rfl,hb⟩)
  go_ret
  exact⟨ret_b HN.out,hb⟩
 ·have HN:=hid (show false=isTextB s.data.toList by unfold isTextB;rw[hl,decide_eq_false h12];rfl)
  clear hl
  go_enter Tryz.func185,Tryz.ntmps185
  go_wp2
  go_ret
  exact⟨ret_b HN.out,Below.refl _ _⟩
set_option maxRecDepth 20000 in
theorem standing_n (s:ByteArray) (w:World):Calls Tryz.prog 166 #[tx [110], .string s] w fun e w'=>e=.returned (.bool (Wf.stOk .num s.data.toList))∧Below w.heap.size w w':=by
 have HP:=hid fun wz=>plainNumber s 999999 (Nat.le_refl _) wz
 cases hp:Wf.plainN s.data.toList 999999 with
 | none =>
  have HO:=hid fun e (h:NumOut s.data.toList 999999 e)=>(by unfold NumOut at h;rw[hp] at h;exact h:∃ m:Int,e=.returned (.tuple #[.int .i64 m, .bool false]))
  have HN:=hid (show false=Wf.stOk .num s.data.toList by unfold Wf.stOk;rw[hp])
  clear hp
  go_enter Tryz.func166,Tryz.ntmps166
  go_wp2_with (go_at_call 165;refine(HP.out _).mono ?_;rintro e w1 ⟨ho,rfl⟩;obtain⟨m,rfl⟩:=HO.out _ ho;clear ho)
  go_ret
  exact⟨ret_b HN.out,Below.refl _ _⟩
 | some n =>
  have HO:=hid fun e (h:NumOut s.data.toList 999999 e)=>(by unfold NumOut at h;rw[hp] at h;exact h:e=.returned (.tuple #[.int .i64 n, .bool true]))
  have HN:=hid (show decide ((0:Int)<n)=Wf.stOk .num s.data.toList by unfold Wf.stOk;rw[hp];dsimp only;rw[decide_eq_decide];omega)
  clear hp
  go_enter Tryz.func166,Tryz.ntmps166
  go_wp2_with (go_at_call 165;refine(HP.out _).mono ?_;rintro e w1 ⟨ho,rfl⟩;obtain rfl:=HO.out _ ho;clear ho)
  go_ret
  exact⟨ret_b (by rw[← HN.out];simp),Below.refl _ _⟩
set_option maxRecDepth 20000 in
theorem standing_at (s:ByteArray) (w:World):Calls Tryz.prog 166 #[tx [64], .string s] w fun e w'=>e=.returned (.bool false)∧Below w.heap.size w w':=by
 go_enter Tryz.func166,Tryz.ntmps166
 go_wp2
 go_ret
 exact⟨rfl,Below.refl _ _⟩
set_option maxRecDepth 20000 in
theorem standing_f (s:ByteArray) (w:World):Calls Tryz.prog 166 #[tx [102], .string s] w fun e w'=>e=.returned (.bool (Wf.stOk .flag s.data.toList))∧Below w.heap.size w w':=by
 have HN:=hid (show(s.toList==[121,101,115])=Wf.stOk .flag s.data.toList by unfold Wf.stOk;rw[ByteArray.toList_eq,Bool.beq_eq_decide_eq])
 go_enter Tryz.func166,Tryz.ntmps166
 go_wp2
 go_ret
 exact⟨ret_b (by rw[← HN.out]),Below.refl _ _⟩
theorem stt_short {l:List UInt8} (h:l.length≤2):Wf.stOk .txt l=false:=by
 unfold Wf.stOk
 dsimp only
 by_cases h2:l.length<2
 ·rw[q_short h2];rfl
 ·obtain⟨a,m,z,rfl⟩:=q_mk (show 2≤l.length by omega)
  have hm:m=[]:=List.eq_nil_of_length_eq_zero (by simp only[List.length_cons,List.length_append,List.length_nil] at h;omega)
  subst hm
  rw[q_eq]
  by_cases ha:a=39
  ·by_cases hz:z=39
   ·subst ha hz;rfl
   ·rw[decide_eq_false hz,Bool.and_false];rfl
  ·rw[decide_eq_false ha];rfl
theorem stt_long {l:List UInt8} (h:2<l.length):Wf.stOk .txt l=Wf.quoted l:=by
 unfold Wf.stOk
 dsimp only
 have:l≠[39,39]:=by intro e;rw[e] at h;simp at h
 rw[decide_eq_true this,Bool.and_true]
theorem stt_mid {s:ByteArray} (h:2<s.size) (h0:s.data.toList[0]? = some 39) (h9:s.data.toList[s.size-1]? = some 39):isTextB (s.extract 1 (s.size-1)).data.toList=Wf.stOk .txt s.data.toList:=by
 have hl:=size_list s
 rw[stt_long (by omega)]
 obtain⟨a,m,z,he⟩:=q_mk (show 2≤s.data.toList.length by omega)
 have hlm:s.size=m.length+2:=by rw[← hl,he];simp
 rw[he] at h0 h9
 have ha:a=39:=by simpa using h0
 have hz:z=39:=by
  rw[hlm,show m.length+2-1=m.length+1 by omega,List.getElem?_cons_succ,List.getElem?_append_right (Nat.le_refl _),Nat.sub_self] at h9
  simpa using h9
 have hx:(s.extract 1 (s.size-1)).data.toList=m:=by
  rw[ext_list,he,List.drop_one,List.tail_cons,hlm,show m.length+2-1-1=m.length by omega,List.take_left' rfl]
 rw[hx,he,q_eq,ha,hz]
 unfold isTextB
 simp[Bool.and_comm]
set_option maxRecDepth 20000 in
set_option maxHeartbeats 1000000 in
theorem standing_t (s:ByteArray) (w:World) (hs:s.size≤1000000):Calls Tryz.prog 166 #[tx [116], .string s] w fun e w'=>e=.returned (.bool (Wf.stOk .txt s.data.toList))∧Below w.heap.size w w':=by
 have hl:=size_list s
 by_cases h2:2<s.size
 ·obtain⟨c0,hc0,e0⟩:=byte_at s 0 (by omega)
  obtain⟨a,ha⟩:∃ a,c0.toNat=a:=⟨_,rfl⟩
  obtain⟨c9,hc9,e9⟩:=byte_at s (s.size-1) (by omega)
  obtain⟨z,hz⟩:∃ z,c9.toNat=z:=⟨_,rfl⟩
  rw[ha] at e0
  rw[hz] at e9
  have e0':=e0 (Nat.lt_trans (by decide) h2)
  have e9':=e9 (Nat.sub_lt (Nat.lt_trans (by decide) h2) (by decide))
  by_cases ha39:a=39
  ·by_cases hz39:z=39
   ·subst ha39 hz39
    obtain⟨B,hB⟩:∃ B,isTextB (s.extract 1 (s.size-1)).data.toList=B:=⟨_,rfl⟩
    have HN:=hid (stt_mid h2 (by rw[hc0];exact congrArg some (UInt8.toNat_inj.1 (by rw[ha];rfl))) (by rw[hc9];exact congrArg some (UInt8.toNat_inj.1 (by rw[hz];rfl))))
    have HT:=hid fun wz=>isText (s.extract 1 (s.size-1)) wz (by rw[ByteArray.size_extract];omega)
    rw[hB] at HN HT
    clear hB ha hz hc0 hc9 hl e0 e9
    go_enter Tryz.func166,Tryz.ntmps166
    go_wp2_with (go_at_call 185;refine(HT.out _).mono ?_;rintro e w1 ⟨rfl,hb⟩)
    go_ret
    exact⟨ret_b HN.out,hb⟩
   ·have HN:=hid (show false=Wf.stOk .txt s.data.toList by
     rw[stt_long (by omega),q_last (by omega) (by rw[hl];exact hc9) (by intro e;apply hz39;rw[← hz,e];rfl)])
    have tz:((z:Int)==39)=false:=by rw[beq_eq_false_iff_ne];omega
    subst ha39
    clear ha hz hc0 hc9 hl e0 e9 hz39
    go_enter Tryz.func166,Tryz.ntmps166
    go_wp2_with fail
    go_ret
    exact⟨ret_b HN.out,Below.refl _ _⟩
  ·have HN:=hid (show false=Wf.stOk .txt s.data.toList by
    rw[stt_long (by omega),q_first hc0 (by intro e;apply ha39;rw[← ha,e];rfl)])
   have ta:((a:Int)==39)=false:=by rw[beq_eq_false_iff_ne];omega
   clear ha hz hc0 hc9 hl e0 e9 ha39
   go_enter Tryz.func166,Tryz.ntmps166
   go_wp2_with fail
   go_ret
   exact⟨ret_b HN.out,Below.refl _ _⟩
 ·have HN:=hid (show false=Wf.stOk .txt s.data.toList by rw[stt_short (by omega)])
  clear hl
  go_enter Tryz.func166,Tryz.ntmps166
  go_wp2_with fail
  go_ret
  exact⟨ret_b HN.out,Below.refl _ _⟩
theorem standing (k:Wf.K) (h0:k.signs=[]) (s:ByteArray) (w:World) (hs:s.size≤1000000):Calls Tryz.prog 166 #[tx k.base, .string s] w fun e w'=>e=.returned (.bool (Wf.stOk k s.data.toList))∧Below w.heap.size w w':=by
 cases k with
 | num=>exact standing_n s w
 | txt=>exact standing_t s w hs
 | flag=>exact standing_f s w
 | ref n=>exact standing_at s w
 | list k=>cases h0
 | opt k=>cases h0

theorem signs_drop (l:List UInt8):Lib.trimLeftS l [91,63]=l.dropWhile Wf.isSgn:=by
 unfold Lib.trimLeftS
 congr 1
 funext c
 simp[Wf.isSgn,Bool.beq_eq_decide_eq]
theorem pre_one (r:List UInt8) (c:UInt8):Lib.hasPrefix r [c]=decide (r.head? = some c):=by
 cases r with
 | nil=>rfl
 | cons a q=>simp[Lib.hasPrefix,List.isPrefixOf,Bool.beq_eq_decide_eq,eq_comm]
theorem suf_one (r:List UInt8) (c:UInt8):Lib.hasSuffix r [c]=decide (r.getLast? = some c):=by
 unfold Lib.hasSuffix List.isSuffixOf
 rw[← List.head?_reverse]
 exact pre_one r.reverse c
theorem eq_arr (s:ByteArray) (l:List UInt8) (h:s.data.toList=l):s=⟨l.toArray⟩:=by rw[← h]
theorem kV_eq (l:List UInt8) (k:Wf.K) (h:k.signs=[]) (hb:k.core=k):kV (Wf.wrap (l.takeWhile Wf.isSgn) k)=.agg #[tx (l.takeWhile Wf.isSgn),tx k.base,tx k.name]:=by
 have ha:(l.takeWhile Wf.isSgn).all Wf.isSgn=true:=List.all_takeWhile
 rw[kV,Wf.wrap_signs ha,Wf.wrap_base,Wf.wrap_name,h,List.append_nil]
theorem beq_no {t:ByteArray} {l:List UInt8} (h:t.data.toList≠l):(t.toList==l)=false:=by
 rw[ByteArray.toList_eq,beq_eq_false_iff_ne];exact h
theorem core_cases (r:List UInt8):(r=[110]∧Wf.coreIn r=some .num)∨(r=[116]∧Wf.coreIn r=some .txt)∨(r=[102]∧Wf.coreIn r=some .flag) ∨
  (r≠[110]∧r≠[116]∧r≠[102]∧((r.head? = some 64∧r.getLast? = some 59∧Wf.coreIn r=(if Wf.isName r.tail.dropLast=true then some (.ref r.tail.dropLast) else none))∨(¬ (r.head? = some 64∧r.getLast? = some 59)∧Wf.coreIn r=none))):=by
 by_cases h1:r=[110]
 ·exact .inl ⟨h1,by rw[h1];rfl⟩
 by_cases h2:r=[116]
 ·exact .inr (.inl ⟨h2,by rw[h2];rfl⟩)
 by_cases h3:r=[102]
 ·exact .inr (.inr (.inl ⟨h3,by rw[h3];rfl⟩))
 refine .inr (.inr (.inr ⟨h1,h2,h3, ?_⟩))
 have e:Wf.coreIn r=if r.head? = some 64∧r.getLast? = some 59∧Wf.isName (r.tail.dropLast)=true then some (.ref r.tail.dropLast) else none:=by
  rw[Wf.coreIn,if_neg h1,if_neg h2,if_neg h3]
 by_cases h4:r.head? = some 64∧r.getLast? = some 59
 ·refine .inl ⟨h4.1,h4.2, ?_⟩
  rw[e]
  by_cases h5:Wf.isName r.tail.dropLast=true
  ·rw[if_pos ⟨h4.1,h4.2,h5⟩,if_pos h5]
  ·rw[if_neg (fun h=>h5 h.2.2),if_neg h5]
 ·exact .inr ⟨h4,by rw[e,if_neg (fun h=>h4 ⟨h.1,h.2.1⟩)]⟩
theorem two_of {r:List UInt8} (h1:r.head? = some 64) (h2:r.getLast? = some 59):2≤r.length:=by
 match r,h1,h2 with
 | [a],h1,h2 =>
  have e1:a=64:=by simpa using h1
  have e2:a=59:=by simpa using h2
  rw[e1] at e2;exact absurd e2 (by decide)
 | a::b::q,_,_=>simp
def KindOut (l:List UInt8) (e:Ending):Prop :=
 match Wf.parseK l with
 | some k=>e=.returned (.tuple #[kV k, .bool true])
 | none=>∃ a b c:ByteArray,e=.returned (.tuple #[.agg #[.string a, .string b, .string c], .bool false])
theorem kindOut_some {l:List UInt8} {k:Wf.K} {e:Ending} (h:Wf.parseK l=some k) (he:e=.returned (.tuple #[kV k, .bool true])):KindOut l e:=by
 rw[KindOut,h];exact he
theorem kindOut_none {l:List UInt8} {e:Ending} (h:Wf.parseK l=none) (he:∃ a b c:ByteArray,e=.returned (.tuple #[.agg #[.string a, .string b, .string c], .bool false])):KindOut l e:=by
 rw[KindOut,h];exact he
theorem readKind_any (s:ByteArray) (w:World) (hs2:s.size≤9223372036854775807):Calls Tryz.prog 76 #[.string s] w fun e w'=>KindOut s.data.toList e∧Below w.heap.size w w':=by
 have hl:=size_list s
 by_cases hs:s.size≤12
 ·have hp:Wf.parseK s.data.toList=(Wf.coreIn (s.data.toList.dropWhile Wf.isSgn)).map (Wf.wrap (s.data.toList.takeWhile Wf.isSgn)):=by
   rw[Wf.parseK,if_pos (by omega),Wf.kindIn_split]
  obtain⟨t,ht⟩:∃ t:ByteArray,(⟨(s.data.toList.dropWhile Wf.isSgn).toArray⟩:ByteArray)=t:=⟨_,rfl⟩
  have htl:t.data.toList=s.data.toList.dropWhile Wf.isSgn:=by rw[← ht]
  have hlc:=len_core s.data.toList
  have hts:t.size=(s.data.toList.dropWhile Wf.isSgn).length:=by rw[← size_list,htl]
  have hts':t.size≤s.size:=by omega
  have hc:∀ w,Calls Tryz.prog 105 #[.string s, .string ⟨#[91,63]⟩] w fun e w'=>e=.returned (.string t)∧Below w.heap.size w w':=by
   intro w
   have:=signs_left s w
   rw[signs_drop,ht] at this
   exact this
  have hx:s.extract 0 (s.size-t.size)=⟨(s.data.toList.takeWhile Wf.isSgn).toArray⟩:=by
   refine eq_arr _ _ ?_
   rw[ext_list,List.drop_zero,Nat.sub_zero]
   have:s.size-t.size=(s.data.toList.takeWhile Wf.isSgn).length:=by omega
   rw[this]
   exact(List.prefix_iff_eq_take.1 (List.takeWhile_prefix _)).symm
  have plain:∀ c (k:Wf.K),t.data.toList=[c]→(t.toList==[110] || t.toList==[116] || t.toList==[102])=true→Wf.coreIn t.data.toList=some k→k.signs=[]→k.core=k→k.base=[c]→k.name=[] →
    Calls Tryz.prog 76 #[.string s] w fun e w'=>KindOut s.data.toList e∧Below w.heap.size w w':=by
   intro c k h1 h2 h3 h4 h5 h6 h7
   refine(readKind_plain s t w hs hts' h2 hc).mono fun e w' ⟨he,hb⟩=>⟨?_,hb⟩
   refine kindOut_some (k:=Wf.wrap (s.data.toList.takeWhile Wf.isSgn) k) (by rw[hp,← htl,h3,Option.map_some]) ?_
   rw[he,kV_eq _ _ h4 h5,hx,h6,h7,eq_arr t _ h1]
  rcases core_cases t.data.toList with⟨h1,h2⟩|⟨h1,h2⟩|⟨h1,h2⟩|⟨h1,h2,h3,h⟩
  ·exact plain 110 .num h1 (by rw[ByteArray.toList_eq,h1];rfl) h2 rfl rfl rfl rfl
  ·exact plain 116 .txt h1 (by rw[ByteArray.toList_eq,h1];rfl) h2 rfl rfl rfl rfl
  ·exact plain 102 .flag h1 (by rw[ByteArray.toList_eq,h1];rfl) h2 rfl rfl rfl rfl
  ·rcases h with⟨h4,h5,h6⟩|⟨h4,h6⟩
   ·have h2t:2≤t.size:=by rw[← size_list];exact two_of h4 h5
    have hn:(t.extract 1 (t.size-1)).data.toList=t.data.toList.tail.dropLast:=by
     rw[ext_list,List.drop_one,List.dropLast_eq_take,List.length_tail,size_list]
    refine(readKind_at s t w hs hts' h2t (beq_no h1) (beq_no h2) (beq_no h3) (by rw[pre_one,h4];rfl) (by rw[suf_one,h5];rfl) (Wf.isName t.data.toList.tail.dropLast) (fun w => ?_) hc).mono fun e w' ⟨he,hb⟩=>⟨?_,hb⟩
    ·have:=isName_impl (t.extract 1 (t.size-1)) w (by rw[ByteArray.size_extract];omega)
     rw[hn] at this
     exact this
    ·cases hb:Wf.isName t.data.toList.tail.dropLast with
     | true =>
      rw[hb,if_pos rfl] at h6
      refine kindOut_some (k:=Wf.wrap (s.data.toList.takeWhile Wf.isSgn) (.ref t.data.toList.tail.dropLast)) (by rw[hp,← htl,h6,Option.map_some]) ?_
      rw[he,kV_eq _ _ rfl rfl,hx,hb,eq_arr _ _ hn]
      rfl
     | false =>
      rw[hb,if_neg (by decide)] at h6
      refine kindOut_none (by rw[hp,← htl,h6,Option.map_none]) ?_
      rw[he,hb]
      exact⟨_,_,_,rfl⟩
   ·refine(readKind_none s t w hs hts' (beq_no h1) (beq_no h2) (beq_no h3) _ _ (pre_one _ _) (suf_one _ _) ?_ hc).mono fun e w' ⟨he,hb⟩=>⟨?_,hb⟩
    ·by_cases h7:t.data.toList.head? = some 64
     ·by_cases h8:t.data.toList.getLast? = some 59
      ·exact absurd ⟨h7,h8⟩ h4
      ·rw[decide_eq_false h8,Bool.and_false]
     ·rw[decide_eq_false h7,Bool.false_and]
    ·refine kindOut_none (by rw[hp,← htl,h6,Option.map_none]) ?_
     rw[he]
     exact⟨_,_,_,rfl⟩
 ·refine(readKind_long s w (by omega) hs2).mono fun e w' ⟨he,hb⟩=>⟨?_,hb⟩
  exact kindOut_none (by rw[Wf.parseK,if_neg (by omega)]) ⟨_,_,_,he⟩
theorem readKind_yes (s:ByteArray) (k:Wf.K) (hk:Wf.parseK s.data.toList=some k) (w:World) (hs2:s.size≤9223372036854775807):Calls Tryz.prog 76 #[.string s] w fun e w'=>e=.returned (.tuple #[kV k, .bool true])∧Below w.heap.size w w' :=
 (readKind_any s w hs2).mono fun e w' ⟨h,hb⟩=>⟨by unfold KindOut at h;rw[hk] at h;exact h,hb⟩
theorem readKind_no (s:ByteArray) (hk:Wf.parseK s.data.toList=none) (w:World) (hs2:s.size≤9223372036854775807):Calls Tryz.prog 76 #[.string s] w fun e w'=>(∃ a b c:ByteArray,e=.returned (.tuple #[.agg #[.string a, .string b, .string c], .bool false]))∧Below w.heap.size w w' :=
 (readKind_any s w hs2).mono fun e w' ⟨h,hb⟩=>⟨by unfold KindOut at h;rw[hk] at h;exact h,hb⟩
end Go.Proofs.YtmdacedmjbiekaaGreatDoor
