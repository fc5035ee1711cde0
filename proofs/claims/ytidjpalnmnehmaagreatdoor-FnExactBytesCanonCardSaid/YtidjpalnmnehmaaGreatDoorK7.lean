/- Packed. -/
import Derived.Test.YtidjpalnmnehmaaGreatDoorK6
import Derived.Lib.Split
import Derived.Lib.IndexMore
import Derived.Lib.CountLaws
import Derived.Lib.SplitLaws
set_option maxRecDepth 99999
set_option maxHeartbeats 40000000
set_option linter.all false
namespace Go.Proofs.YtidjpalnmnehmaaGreatDoor
open Go.ChangeShapes Go.WideShapes Go.ChangeAt Go.RowKit Go.Lib
theorem uT {c:UInt8} (h:c.toNat=91\/c.toNat=63):Wf.aT c=true:=by
 rcases h with h|h
 ·have:c=91:=UInt8.toNat_inj.1 (by rw[h];rfl)
  rw[this];rfl
 ·have:c=63:=UInt8.toNat_inj.1 (by rw[h];rfl)
  rw[this];rfl
theorem xN {c:UInt8} (h:¬ (c.toNat=91\/c.toNat=63)):Wf.aT c=false:=by
 cases hc:Wf.aT c with
 | false=>rfl
 | true =>
  simp only[Wf.aT,Bool.or_eq_true,beq_iff_eq] at hc;rcases hc with rfl|rfl
  ·exact absurd (.inl rfl) h
  ·exact absurd (.inr rfl) h
theorem a1Q {t:ByteArray} {c:UInt8} (hc:t.data.toList[0]? = some c) (h:c.toNat=91\/c.toNat=63):(t.extract 1 t.size).data.toList.dropWhile Wf.aT=t.data.toList.dropWhile Wf.aT:=by
 have hl:=aE t;rw[bH];cases hd:t.data.toList with
 | nil=>rw[hd] at hc;simp at hc
 | cons x r =>
  rw[hd] at hc hl;have hx:x=c:=by simpa using hc
  subst hx;rw[List.drop_one,List.tail_cons,zaS (by simp at hl;omega),List.dropWhile_cons_of_pos (uT h)]
theorem wT {t:ByteArray} {c:UInt8} (hc:t.data.toList[0]? = some c) (h:¬ (c.toNat=91\/c.toNat=63)):t=⟨(t.data.toList.dropWhile Wf.aT).toArray⟩:=by
 rw[aQ];cases hd:t.data.toList with
 | nil=>rfl
 | cons x r =>
  rw[hd] at hc;have hx:x=c:=by simpa using hc
  subst hx;rw[List.dropWhile_cons_of_neg (by rw[xN h];decide)]
theorem core_spec (s:ByteArray) (w:World) (hs:s.size<=1048576) (hd:s.data.toList.dropWhile Wf.aT≠[]):Calls Tryz.prog 84 #[.string s] w fun e w'=>e=.returned (.string ⟨(s.data.toList.dropWhile Wf.aT).toArray⟩)/\w=w':=by
 have HD:=hid hd;clear hd;go_enter Tryz.func84,Tryz.ntmps84;go_wp2;go_loopw [0] (fun v wr=>∃ t:ByteArray,v=.string t/\t.size<=1048576/\Hid (t.data.toList.dropWhile Wf.aT=s.data.toList.dropWhile Wf.aT)/\w=wr)
  (fun v _=>match v with | .string t=>t.size|_=>0)
 case atStart=>exact⟨s,rfl,hs,hid (show _=_ from rfl),rfl⟩
 case round =>
  obtain⟨t,rfl,ht,hx,rfl⟩:=hrel;have h1:1<=t.size:=by
   rcases Nat.eq_zero_or_pos t.size with h|h
   ·have hl:=aE t
    have h0:t.data.toList=[]:=List.eq_nil_of_length_eq_zero (by omega);have:=hx.out;rw[h0] at this;exact absurd this.symm HD.out
   ·exact h
  obtain⟨c,hc,e0⟩:=byte_at t 0 (by omega);have HC:=hid hc;clear hc;obtain⟨a,ha⟩:∃ a,c.toNat=a:=⟨_,rfl⟩;have HA:=hid ha;rw[ha] at e0;clear ha;by_cases h91:a=91\/a=63
  ·have HN:=hid (show(t.extract 1 t.size).data.toList.dropWhile Wf.aT=s.data.toList.dropWhile Wf.aT by rw[<-hx.out];exact a1Q HC.out (by rw[HA.out];exact h91))
   have hsz:(t.extract 1 t.size).size=t.size-1:=(by rw[zaY];omega);rcases h91 with h|h
   ·subst h
    go_wp2;go_roundw
    case rel=>exact⟨_,rfl,by omega,HN.out,trivial⟩
    case measure=>show(t.extract 1 t.size).size<t.size;omega
   ·subst h
    go_wp2;go_roundw
    case rel=>exact⟨_,rfl,by omega,HN.out,trivial⟩
    case measure=>show(t.extract 1 t.size).size<t.size;omega
  ·have t1:((a:Int)==91)=false:=by rw[zaJ];omega
   have t2:((a:Int)==63)=false:=(by rw[zaJ];omega);have HE:=hid (show t=⟨(s.data.toList.dropWhile Wf.aT).toArray⟩ by rw[<-hx.out];exact wT HC.out (by rw[HA.out];exact h91));clear h91;go_wp2;go_ret
   exact⟨by rw[<-HE.out];rfl,rfl⟩

theorem xF (l:List UInt8):(l.takeWhile Wf.aT).length+(l.dropWhile Wf.aT).length=l.length:=by
 rw[<-zaD,List.takeWhile_append_dropWhile]
theorem nE {a b:Value} (h1:a=b):Ending.returned a=.returned b:=by rw[h1]
def refV (l:List UInt8):Value :=
 match l with
 | []=>.tuple #[.string ⟨#[]⟩,.bool false]
 | c::r=>if c=64 then .tuple #[.string ⟨r.dropLast.toArray⟩,.bool true] else .tuple #[.string ⟨#[]⟩,.bool false]
theorem vN (s:ByteArray) (w:World) (hs:s.size<=1048576) (h1:1<=s.size) (h2:s.data.toList.head? = some 64->2<=s.size):Calls Tryz.prog 83 #[.string s] w fun e w'=>e=.returned (refV s.data.toList)/\w=w':=by
 have hl:=aE s;obtain⟨c,hc,e0⟩:=byte_at s 0 (by omega);obtain⟨a,ha⟩:∃ a,c.toNat=a:=⟨_,rfl⟩;rw[ha] at e0;cases hd:s.data.toList with
 | nil=>rw[hd] at hl;simp at hl;omega
 | cons x r =>
  rw[hd] at hc hl h2;have hx:x=c:=by simpa using hc
  subst hx;by_cases h64:a=64
  ·have hx:x=64:=UInt8.toNat_inj.1 (by rw[ha,h64];rfl)
   subst hx;have h22:=h2 rfl;have HV:=hid (show refV (64::r)=.tuple #[.string (s.extract 1 (s.size-1)),.bool true] by
    rw[refV,if_pos rfl];have he:s.extract 1 (s.size-1)=⟨r.dropLast.toArray⟩:=by
     rw[aQ,bH,hd,List.drop_one,List.tail_cons,List.dropLast_eq_take];congr 1
     simp at hl;omega
    rw[he])
   subst h64;clear hc ha hl h2 hd;go_enter Tryz.func83,Tryz.ntmps83;go_wp2;go_ret2
   exact⟨nE HV.out.symm,rfl⟩
  ·have HV:=hid (show refV (x::r)=.tuple #[.string ⟨#[]⟩,.bool false] by
    rw[refV,if_neg (fun h=>h64 (by rw[<-ha,h];rfl))])
   have t1:((a:Int)==64)=false:=(by rw[zaJ];omega);have t3:((a:Int) != 64)=true:=(by unfold bne;rw[t1];rfl);clear hc ha hl h2 hd h64;go_enter Tryz.func83,Tryz.ntmps83;go_wp2;go_ret2
   exact⟨nE HV.out.symm,rfl⟩
theorem jO {l:List UInt8} {k:Wf.K} (h:Wf.aM l=some k):k.text=l:=by
 unfold Wf.aM at h;by_cases h1:l.length<=12
 ·rw[if_pos h1] at h;exact Wf.iQ h
 ·rw[if_neg h1] at h;cases h
theorem pT {l:List UInt8} {k:Wf.K} (h:Wf.aM l=some k):okB l=true:=by rw[okB,h];rfl
theorem ok_none {l:List UInt8} (h:Wf.aM l=none):okB l=false:=by rw[okB,h];rfl
theorem aR (l:List UInt8):(⟨l.toArray⟩:ByteArray).size=l.length:=rfl
theorem kD (k:Wf.K):k.text.dropWhile Wf.aT=k.core.text:=by
 induction k with
 | list k ih=>rw[Wf.K.text,List.dropWhile_cons_of_pos (by decide),ih];rfl
 | opt k ih=>rw[Wf.K.text,List.dropWhile_cons_of_pos (by decide),ih];rfl
 | _=>rfl
theorem tT (k:Wf.K):k.core.base=k.base/\k.core.name=k.name:=by
 induction k with
 | list k ih=>exact ih
 | opt k ih=>exact ih
 | _=>exact⟨rfl,rfl⟩
theorem zS (k:Wf.K):(∃ n,k.core=.ref n)\/k.core.text.head? ≠ some 64/\k.core.base≠[64]:=by
 induction k with
 | list k ih=>exact ih
 | opt k ih=>exact ih
 | ref n=>exact .inl ⟨n,rfl⟩
 | _=>exact .inr ⟨by decide,by decide⟩

theorem q_mk {l:List UInt8} (h2:2<=l.length):∃ a m z,l=a::(m++[z]):=by
 cases l with
 | nil=>simp at h2
 | cons a r =>
  have hr:r≠[]:=by intro e;subst e;simp at h2
  exact⟨a,r.dropLast,r.getLast hr,by rw[List.dropLast_concat_getLast hr]⟩
theorem q_eq (a z:UInt8) (m:List UInt8):Wf.quoted (a::(m++[z]))=(decide (a=39)&&decide (z=39)&&m.all Wf.aG&&decide (m.length<=12)):=by
 unfold Wf.quoted;rw[List.head?_cons,List.tail_cons,List.getLast?_concat,List.dropLast_concat,zaF,zaD,List.length_singleton];have e1:decide (some a=some 39)=decide (a=39):=by simp
 have e2:decide (some z=some 39)=decide (z=39):=by simp
 have e3:decide (m.length+1+1<=14)=decide (m.length<=12):=by rw[decide_eq_decide];omega
 rw[e1,e2,e3]
theorem sF {l:List UInt8} (h:l.length<2):Wf.quoted l=false:=by
 match l,h with
 | [],_=>rfl
 | [a],_=>unfold Wf.quoted;simp
theorem a1R {l:List UInt8} (h:14<l.length):Wf.quoted l=false:=by
 unfold Wf.quoted;rw[decide_eq_false (p:=l.length<=14) (by omega),Bool.and_false]
theorem pK {l:List UInt8} {c:UInt8} (h:l[0]? = some c) (hc:c≠39):Wf.quoted l=false:=by
 unfold Wf.quoted;rw[List.head?_eq_getElem?,h,decide_eq_false (by simpa using hc)];rfl
theorem nD {l:List UInt8} {c:UInt8} (h2:2<=l.length) (h:l[l.length-1]? = some c) (hc:c≠39):Wf.quoted l=false:=by
 obtain⟨a,m,z,rfl⟩:=q_mk h2;have hz:z=c:=by
  rw[<-zaN,zaD,List.length_singleton,Nat.add_sub_cancel,List.getElem?_append_right (zaA),Nat.sub_self] at h;simpa using h
 rw[q_eq,decide_eq_false (p:=z=39) (by rw[hz];exact hc),Bool.and_false,Bool.false_and,Bool.false_and]
theorem vL {l:List UInt8} {i:Nat} {c:UInt8} (h2:2<=l.length) (h:l[i]? = some c) (h1:1<=i) (hi:i<l.length-1) (hc:Wf.aG c=false):Wf.quoted l=false:=by
 obtain⟨a,m,z,rfl⟩:=q_mk h2;have hm:c∈m:=by
  simp only[zaF,zaD,zaM] at hi;obtain⟨j,rfl⟩:∃ j,i=j+1:=⟨i-1,by omega⟩;rw[List.getElem?_cons_succ,List.getElem?_append_left (by omega)] at h;exact List.mem_of_getElem? h
 have:m.all Wf.aG=false:=by rw[List.all_eq_false];exact⟨c,hm,by rw[hc];decide⟩
 rw[q_eq,this,Bool.and_false,Bool.false_and]
theorem tX {l:List UInt8} (h2:2<=l.length) (h14:l.length<=14) (h0:l[0]? = some 39) (hl:l[l.length-1]? = some 39) (hm:((l.drop 1).take (l.length-2)).all Wf.aG=true):Wf.quoted l=true:=by
 obtain⟨a,m,z,rfl⟩:=q_mk h2;have hz:z=39:=by
  rw[<-zaN,zaD,List.length_singleton,Nat.add_sub_cancel,List.getElem?_append_right (zaA),Nat.sub_self] at hl;simpa using hl
 have ha:a=39:=by simpa using h0
 simp only[zaF,zaD,zaM] at h14 hm;rw[List.drop_one,List.tail_cons,show m.length+(0+1)+1-2=m.length by omega,List.take_left' rfl] at hm;rw[q_eq,hm,decide_eq_true ha,decide_eq_true hz,decide_eq_true (by omega)];rfl
theorem a3B {c:UInt8} (h1:c.toNat≠32) (h2:c.toNat<48\/57<c.toNat) (h3:c.toNat<97\/122<c.toNat):Wf.aG c=false:=by
 unfold Wf.aG;have e1:(c==32)=false:=by rw[zaJ];intro h;apply h1;rw[h];rfl
 have e2:(decide (97<=c.toNat)&&decide (c.toNat<=122))=false:=by
  rcases h3 with h|h
  ·rw[decide_eq_false (by omega),Bool.false_and]
  ·rw[decide_eq_false (p:=c.toNat<=122) (by omega),Bool.and_false]
 have e3:(decide (48<=c.toNat)&&decide (c.toNat<=57))=false:=by
  rcases h2 with h|h
  ·rw[decide_eq_false (by omega),Bool.false_and]
  ·rw[decide_eq_false (p:=c.toNat<=57) (by omega),Bool.and_false]
 rw[e1,e2,e3];rfl
theorem a2K {c:UInt8} (h:c.toNat=32\/(48<=c.toNat/\c.toNat<=57)\/(97<=c.toNat/\c.toNat<=122)):Wf.aG c=true:=by
 unfold Wf.aG;rcases h with h|⟨h1,h2⟩|⟨h1,h2⟩
 ·have:c=32:=UInt8.toNat_inj.1 (by rw[h];rfl)
  rw[this];rfl
 ·rw[decide_eq_true h1,decide_eq_true h2];simp
 ·rw[decide_eq_true h1,decide_eq_true h2];simp
theorem wS {p:UInt8->Bool} {l:List UInt8} {k:Nat} {c:UInt8} (h:(l.take k).all p=true) (hc:l[k]? = some c) (hp:p c=true):(l.take (k+1)).all p=true:=by
 rw[List.take_add_one,hc,List.all_append,h];simp[hp]
theorem lW (s:ByteArray) (w:World) (hs:s.size<=9223372036854775807):Calls Tryz.prog 126 #[.string s] w fun e w'=>e=.returned (.bool (Wf.quoted s.data.toList))/\w=w':=by
 have hl:=aE s;by_cases h2:s.size<2
 ·have HQ:=hid (sF (l:=s.data.toList) (by omega))
  clear hl;go_enter Tryz.func126,Tryz.ntmps126;go_wp2;go_ret
  exact⟨aN HQ.out.symm,rfl⟩
 ·by_cases h14:14<s.size
  ·have HQ:=hid (a1R (l:=s.data.toList) (by omega))
   clear hl;go_enter Tryz.func126,Tryz.ntmps126;go_wp2;go_ret
   exact⟨aN HQ.out.symm,rfl⟩
  ·obtain⟨c0,hc0,e0⟩:=byte_at s 0 (by omega)
   obtain⟨a,ha⟩:∃ a,c0.toNat=a:=⟨_,rfl⟩;obtain⟨c9,hc9,e9⟩:=byte_at s (s.size-1) (by omega);obtain⟨z,hz⟩:∃ z,c9.toNat=z:=⟨_,rfl⟩;rw[ha] at e0;rw[hz] at e9;by_cases ha39:a=39
   ·by_cases hz39:z=39
    ·subst ha39 hz39
     have H0:=hid (show s.data.toList[0]? = some 39 by rw[hc0];exact congrArg some (UInt8.toNat_inj.1 (by rw[ha];rfl)));have H9:=hid (show s.data.toList[s.data.toList.length-1]? = some 39 by rw[hl,hc9];exact congrArg some (UInt8.toNat_inj.1 (by rw[hz];rfl)));have HL:=hid hl;clear hl hc0 hc9 ha hz;go_enter Tryz.func126,Tryz.ntmps126;go_wp2;go_loop [3,4] (fun i x=>∃ k:Nat,k+1<s.size/\i=.int .i64 ((k:Int)+1)/\Hid (((s.data.toList.drop 1).take k).all Wf.aG=true)) (fun i _=>s.size-(RowKit.intOf i).toNat)
     case atStart=>exact⟨0,by omega,rfl,hid (show _=true by simp)⟩
     case round =>
      obtain⟨k,hk,rfl,hd⟩:=hrel;by_cases hlt:k+2<s.size
      ·obtain⟨c,hc,e1⟩:=byte_at s (k+1) (by omega)
       obtain⟨b,hb⟩:∃ b,c.toNat=b:=⟨_,rfl⟩;rw[hb] at e1;have HC:=hid hc;have HB:=hid hb;have HC2:=hid (show(s.data.toList.drop 1)[k]? = some c by rw[List.getElem?_drop,Nat.add_comm];exact hc);clear hc hb;have bad:b≠32->(b<48\/57<b)->(b<97\/122<b)->Hid (false=Wf.quoted s.data.toList):=fun g1 g2 g3=>hid (show _=_ from(vL (by rw[HL.out];omega) HC.out (by omega) (by rw[HL.out];omega) (a3B (by rw[HB.out];exact g1) (by rw[HB.out];exact g2) (by rw[HB.out];exact g3))).symm);have good:(b=32\/(48<=b/\b<=57)\/(97<=b/\b<=122))->Hid (((s.data.toList.drop 1).take (k+1)).all Wf.aG=true):=fun g=>hid (show _=_ from wS hd.out HC2.out (a2K (by rw[HB.out];exact g)));by_cases h32:b=32
       ·have G:=good (.inl h32)
        clear good bad;subst h32;go_wp2;go_round
        case rel=>exact⟨k+1,by omega,by go_num,G⟩
        case measure=>simp[RowKit.intOf];omega
       ·have t32:((b:Int) != 32)=true:=by rw[bne_iff_ne];omega
        by_cases h48:b<48
        ·have G:=bad h32 (.inl h48) (.inl (by omega))
         clear good bad h32;go_wp2;go_ret
         exact⟨aN G.out,rfl⟩
        ·by_cases h57:57<b
         ·by_cases h97:b<97
          ·have G:=bad h32 (.inr h57) (.inl h97)
           clear good bad h32;go_wp2;go_ret
           exact⟨aN G.out,rfl⟩
          ·by_cases h122:122<b
           ·have G:=bad h32 (.inr h57) (.inr h122)
            clear good bad h32;go_wp2;go_ret
            exact⟨aN G.out,rfl⟩
           ·have G:=good (.inr (.inr ⟨by omega,by omega⟩))
            clear good bad h32;go_wp2;go_round
            case rel=>exact⟨k+1,by omega,by go_num,G⟩
            case measure=>simp[RowKit.intOf];omega
         ·have G:=good (.inr (.inl ⟨by omega,by omega⟩))
          clear good bad h32;go_wp2;go_round
          case rel=>exact⟨k+1,by omega,by go_num,G⟩
          case measure=>simp[RowKit.intOf];omega
      ·have hks:k+2=s.size:=by omega
       have HF:=hid (show true=Wf.quoted s.data.toList from(tX (by rw[HL.out];omega) (by rw[HL.out];omega) H0.out H9.out (by rw[HL.out,show s.size-2=k by omega];exact hd.out)).symm);clear hks;go_wp2;go_ret
       exact⟨aN HF.out,rfl⟩
    ·have HQ:=hid (show false=Wf.quoted s.data.toList from(nD (by omega) (by rw[hl];exact hc9) (fun h=>hz39 (by rw[<-hz,h];rfl))).symm)
     have tz:((z:Int) != 39)=true:=(by rw[bne_iff_ne];omega);subst ha39;clear hl hc0 hc9 ha hz hz39;go_enter Tryz.func126,Tryz.ntmps126;go_wp2;go_ret
     exact⟨aN HQ.out,rfl⟩
   ·have HQ:=hid (show false=Wf.quoted s.data.toList from(pK hc0 (fun h=>ha39 (by rw[<-ha,h];rfl))).symm)
    have ta:((a:Int) != 39)=true:=(by rw[bne_iff_ne];omega);clear hl hc0 hc9 ha hz ha39;go_enter Tryz.func126,Tryz.ntmps126;go_wp2;go_ret
    exact⟨aN HQ.out,rfl⟩
def stT (kt s:List UInt8):Bool :=
 if kt=[110] then (match Wf.aI s 999999 with|some m=>decide (0<m)|none=>false)
 else if kt=[116] then Wf.quoted s&&decide (s≠[39,39])
 else if kt=[102] then decide (s=[121,101,115]) else false
theorem yT (kt s:List UInt8):stT kt s=match Wf.aM kt with|some k=>Wf.stOk k s|none=>false:=by
 unfold stT;by_cases h1:kt=[110]
 ·subst h1;rfl
 ·by_cases h2:kt=[116]
  ·subst h2;rfl
  ·by_cases h3:kt=[102]
   ·subst h3;rfl
   ·rw[if_neg h1,if_neg h2,if_neg h3]
    cases hp:Wf.aM kt with
    | none=>rfl
    | some k =>
     have ht:=jO hp;cases k with
     | num=>exact absurd ht.symm h1
     | txt=>exact absurd ht.symm h2
     | flag=>exact absurd ht.symm h3
     | ref n=>rfl
     | list k=>rfl
     | opt k=>rfl
theorem fZ (s:ByteArray) (l:List UInt8):(s.toList==l)=decide (s.data.toList=l):=by rw[zaZ,Bool.beq_eq_decide_eq]
theorem a1J (k s:ByteArray) (w:World) (hs:s.size<=9223372036854775807):Calls Tryz.prog 167 #[.string k,.string s] w fun e w'=>e=.returned (.bool (stT k.data.toList s.data.toList))/\Below w.heap.size w w':=by
 cases g1:(k.toList==[110])
 ·cases g2:(k.toList==[116])
  ·cases g3:(k.toList==[102])
   ·have HR:=hid (show false=stT k.data.toList s.data.toList by
     rw[fZ] at g1 g2 g3;unfold stT;rw[if_neg (of_decide_eq_false g1),if_neg (of_decide_eq_false g2),if_neg (of_decide_eq_false g3)])
    go_enter Tryz.func167,Tryz.ntmps167;go_wp2_with fail
    go_ret
    exact⟨aN HR.out,zaB⟩
   ·have HR:=hid (show(s.toList==[121,101,115])=stT k.data.toList s.data.toList by
     rw[fZ] at g1 g2 g3 ⊢;unfold stT;rw[if_neg (of_decide_eq_false g1),if_neg (of_decide_eq_false g2),if_pos (of_decide_eq_true g3)])
    go_enter Tryz.func167,Tryz.ntmps167;go_wp2_with fail
    go_ret
    exact⟨aN HR.out,zaB⟩
  ·have HR:=hid (show(Wf.quoted s.data.toList && !(s.toList==[39,39]))=stT k.data.toList s.data.toList by
    rw[fZ] at g1 g2 ⊢;unfold stT;rw[if_neg (of_decide_eq_false g1),if_pos (of_decide_eq_true g2),decide_not])
   have HT:=hid fun w=>lW s w hs;cases hq:Wf.quoted s.data.toList <;> cases h39:(s.toList==[39,39]);all_goals
    rw[hq] at HR HT;rw[h39] at HR;clear hq;go_enter Tryz.func167,Tryz.ntmps167;go_wp2_with (go_at_call 126;refine(HT.out _).mono ?_;rintro e w1 ⟨rfl,rfl⟩)
    go_ret
    exact⟨aN HR.out,zaB⟩
 ·have HN:=hid fun w=>gJ s 999999 (zaA) w hs
  have HR:=hid (show(match Wf.aI s.data.toList 999999 with|some m=>decide (0<m)|none=>false)=stT k.data.toList s.data.toList by
    rw[fZ] at g1;unfold stT;rw[if_pos (of_decide_eq_true g1)])
  cases hp:Wf.aI s.data.toList 999999 with
  | none =>
   rw[hp] at HR;have HO:=hid fun e (h:aZ s.data.toList 999999 e)=>(by unfold aZ at h;rw[hp] at h;exact h:∃ m:Int,e=.returned (.tuple #[.int .i64 m,.bool false]));clear hp;go_enter Tryz.func167,Tryz.ntmps167;go_wp2_with (go_at_call 52;refine(HN.out _).mono ?_;rintro e w1 ⟨ho,hb⟩;obtain⟨m,rfl⟩:=HO.out e ho;clear ho)
   go_ret
   exact⟨aN HR.out,hb⟩
  | some n =>
   rw[hp] at HR;have HO:=hid fun e (h:aZ s.data.toList 999999 e)=>(by unfold aZ at h;rw[hp] at h;exact h:e=.returned (.tuple #[.int .i64 n,.bool true]));have HS:=hid (show(!(s.toList==[48]))=decide (0<n) by
    obtain⟨g1,g2,g3⟩:=Wf.dP hp;rw[fZ,g1,<-decide_not,decide_eq_decide];constructor
    ·intro h
     rcases Nat.eq_zero_or_pos n with h0|h0
     ·exact absurd (by rw[h0,Wf.dec_lt (by omega)];rfl) h
     ·exact h0
    ·intro h he
     have:=Wf.eG n;rw[he] at this;have h2:Wf.val [48]=0:=(by decide);omega)
   clear hp;cases h48:(s.toList==[48]);all_goals
    rw[h48] at HS;have HF:=hid (HS.out.trans HR.out);go_enter Tryz.func167,Tryz.ntmps167;go_wp2_with (go_at_call 52;refine(HN.out _).mono ?_;rintro e w1 ⟨ho,hb⟩;obtain rfl:=HO.out e ho;clear ho)
    go_ret
    exact⟨aN HF.out,hb⟩
end Go.Proofs.YtidjpalnmnehmaaGreatDoor

namespace Go.Proofs.YtidjpalnmnehmaaGreatDoor
theorem qM {c:UInt8} {l a r:List UInt8} (h:l=a++c::r):l.take a.length=a/\l.drop (a.length+[c].length)=r:=by
 subst h;refine⟨List.take_left' rfl,?_⟩;rw[List.length_singleton,<-List.drop_drop,List.drop_left' rfl];rfl
theorem mH (c:UInt8):∀ l:List UInt8,Lib.index l [c]=bif (Wf.cut1 c l).2.2 then ((Wf.cut1 c l).1.length:Int) else -1:=by
 intro l;induction l with
 | nil=>rfl
 | cons b l ih =>
  unfold Lib.index;by_cases h:b=c
  ·subst h
   have hp:List.isPrefixOf [b] (b::l)=true:=(by simp[List.isPrefixOf]);rw[if_pos hp];simp[Wf.cut1]
  ·have hp:List.isPrefixOf [c] (b::l)=false:=by
    simp only[List.isPrefixOf,Bool.and_eq_false_imp,beq_iff_eq];intro e;exact absurd e.symm h
   rw[hp,ih,if_neg (by decide)];simp only[Wf.cut1,if_neg h];cases hb:(Wf.cut1 c l).2.2 with
   | true =>
    simp only[cond_true];have:((((Wf.cut1 c l).1.length:Int)) == -1)=false:=(by rw[zaJ];omega);rw[this,if_neg (by decide),zaF];omega
   | false=>rfl
theorem a3I (c:UInt8) (l:List UInt8):Lib.cut l [c]=Wf.cut1 c l:=by
 unfold Lib.cut;rw[mH];cases hb:(Wf.cut1 c l).2.2 with
 | true =>
  obtain⟨e1,e2⟩:=qM (Wf.eB hb).1;simp only[cond_true];rw[if_pos (by omega),Int.toNat_natCast,e1,e2];exact Prod.ext rfl (Prod.ext rfl hb.symm)
 | false =>
  obtain⟨h1,h2,h3,h4⟩:=Wf.dX hb;simp only[cond_false];rw[if_neg (by decide)];exact Prod.ext h1.symm (Prod.ext h2.symm hb.symm)
theorem vW (c:UInt8):∀ (n:Nat) (l:List UInt8),l.length<=n->Lib.splitK [c] 0 (Lib.count l [c]) l=Wf.cutAt c l:=by
 intro n;induction n with
 | zero =>
  intro l hl;have:l=[]:=List.eq_nil_of_length_eq_zero (by omega);subst this;rfl
 | succ n ih =>
  intro l hl;cases hb:(Wf.cut1 c l).2.2 with
  | false =>
   have hi:Lib.index l [c] = -1:=(by rw[mH,hb];rfl);rw[Lib.count_miss hi,(Wf.dX hb).2.2.2];rfl
  | true =>
   obtain⟨h1,h2,h3⟩:=Wf.eB hb;obtain⟨e1,hd⟩:=qM h1;have hi:Lib.index l [c]=((Wf.cut1 c l).1.length:Int):=(by rw[mH,hb];rfl);have hlen:(Wf.cut1 c l).2.1.length<=n:=by
    have:=congrArg List.length h1;rw[zaD,zaF] at this;omega
   rw[Lib.count_hit (by simp) hi,hd,h3,Nat.add_comm 1,Lib.splitK];have hx:(Lib.index l [c] == -1)=false:=(by rw[hi,zaJ];omega);rw[hx,if_neg (by decide),hi,Int.toNat_natCast,hd,ih _ hlen,Nat.add_zero,e1]
theorem pO (c:UInt8) (s:ByteArray):(Lib.splitB ⟨#[c]⟩ 0 (Lib.countB s ⟨#[c]⟩) s).map Value.string=(Wf.cutAt c s.data.toList).map fun l=>Value.string ⟨l.toArray⟩:=by
 have h:=Lib.splitB_data ⟨#[c]⟩ 0 (Lib.countB s ⟨#[c]⟩) s;have h2:Lib.splitK (⟨#[c]⟩:ByteArray).data.toList 0 (Lib.countB s ⟨#[c]⟩) s.data.toList=Wf.cutAt c s.data.toList:=vW c _ s.data.toList (zaA);rw[h2] at h;rw[<-h,List.map_map];exact List.map_congr_left fun x _=>by rfl
theorem count_one (c:UInt8) (s:ByteArray):Lib.countB s ⟨#[c]⟩+1=(Wf.cutAt c s.data.toList).length:=by
 have h:=congrArg List.length (pO c s);rw[zaG,zaG] at h;rw[<-h];exact(Lib.splitB_all ⟨#[c]⟩ (zaA) 0 _ s rfl).symm
end Go.Proofs.YtidjpalnmnehmaaGreatDoor

namespace Go.Proofs.YtidjpalnmnehmaaGreatDoor
open Go.ChangeShapes Go.WideShapes Go.ChangeAt Go.RowKit Go.Lib
def eM:List UInt8:=[97,98,99,100,101,102,103,104,105,106,107,108,109,110,111,112,113,114,115,116,117,118,119,120,121,122,48,49,50,51,52,53,54,55,56,57,32]
theorem sJ (c:UInt8):eM.contains c=Wf.aG c:=by
 have h:∀ n:Fin 256,eM.contains (UInt8.ofNat n.val)=Wf.aG (UInt8.ofNat n.val):=by decide +kernel
 have:=h ⟨c.toNat,c.toNat_lt⟩;simpa using this
theorem zD (l:List UInt8):Lib.trimS l eM=[]↔l.all Wf.aG=true:=by
 have hp:(fun x=>eM.contains x)=Wf.aG:=funext sJ;unfold Lib.trimS Lib.trimLeftS Lib.trimRightS;rw[hp,drop_nil];constructor
 ·intro h
  have h2:l.reverse.all Wf.aG=true:=by
   rw[<-List.takeWhile_append_dropWhile (p:=Wf.aG) (l:=l.reverse),List.all_append,List.all_takeWhile,Bool.true_and];simpa using h
  simpa using h2
 ·intro h
  have:l.reverse.dropWhile Wf.aG=[]:=(drop_nil _ _).2 (by simpa using h);rw[this];rfl
theorem yW (s:ByteArray) (w:World) (hs:s.size<=9223372036854775807):Calls Tryz.prog 133 #[.string s,.string ⟨#[97,98,99,100,101,102,103,104,105,106,107,108,109,110,111,112,113,114,115,116,117,118,119,120,121,122,48,49,50,51,52,53,54,55,56,57,32]⟩] w fun e w'=>e=.returned (.string ⟨(Lib.trimS s.data.toList eM).toArray⟩)/\Go.RowKit.Below w.heap.size w w' :=
 Any.strings_Trim_laid Tryz.lays160 (by kernel_rfl) s ⟨#[97,98,99,100,101,102,103,104,105,106,107,108,109,110,111,112,113,114,115,116,117,118,119,120,121,122,48,49,50,51,52,53,54,55,56,57,32]⟩ w hs (by decide) (ascii_of_all (by decide))
def cZ (l:List UInt8):Bool:=decide (l.length<=12)&&l.all Wf.aG
theorem oV (s:ByteArray) (w:World) (hs:s.size<=9223372036854775807):Calls Tryz.prog 98 #[.string s] w fun e w'=>e=.returned (.bool (cZ s.data.toList))/\Below w.heap.size w w':=by
 have hl:=aE s;by_cases h12:s.size<=12
 ·have HT:=hid fun wz=>yW s wz hs
  have HN:=hid (show(Lib.trimS s.data.toList eM).isEmpty=cZ s.data.toList by
   have h:=zD s.data.toList;unfold cZ;rw[hl,decide_eq_true h12,Bool.true_and,Bool.eq_iff_iff,List.isEmpty_iff];exact h)
  clear hl;go_enter Tryz.func98,Tryz.ntmps98;go_wp2_with (go_at_call 133;refine(HT.out _).mono ?_;rintro e w1 ⟨rfl,hb⟩)
  go_ret
  exact⟨aN HN.out,hb⟩
 ·have HN:=hid (show false=cZ s.data.toList by unfold cZ;rw[hl,decide_eq_false h12];rfl)
  clear hl;go_enter Tryz.func98,Tryz.ntmps98;go_wp2;go_ret
  exact⟨aN HN.out,zaB⟩
theorem tS (s:ByteArray) (w:World):Calls Tryz.prog 139 #[tx [110],.string s] w fun e w'=>e=.returned (.bool (Wf.stOk .num s.data.toList))/\Below w.heap.size w w':=by
 have HP:=hid fun wz=>nG s 999999 (zaA) wz;cases hp:Wf.aI s.data.toList 999999 with
 | none =>
  have HO:=hid fun e (h:aZ s.data.toList 999999 e)=>(by unfold aZ at h;rw[hp] at h;exact h:∃ m:Int,e=.returned (.tuple #[.int .i64 m,.bool false]));have HN:=hid (show false=Wf.stOk .num s.data.toList by unfold Wf.stOk;rw[hp]);clear hp;go_enter Tryz.func139,Tryz.ntmps139;go_wp2_with (go_at_call 76;refine(HP.out _).mono ?_;rintro e w1 ⟨ho,rfl⟩;obtain⟨m,rfl⟩:=HO.out _ ho;clear ho)
  go_ret
  exact⟨aN HN.out,zaB⟩
 | some n =>
  have HO:=hid fun e (h:aZ s.data.toList 999999 e)=>(by unfold aZ at h;rw[hp] at h;exact h:e=.returned (.tuple #[.int .i64 n,.bool true]));have HN:=hid (show decide ((0:Int)<n)=Wf.stOk .num s.data.toList by unfold Wf.stOk;rw[hp];dsimp only;rw[decide_eq_decide];omega);clear hp;go_enter Tryz.func139,Tryz.ntmps139;go_wp2_with (go_at_call 76;refine(HP.out _).mono ?_;rintro e w1 ⟨ho,rfl⟩;obtain rfl:=HO.out _ ho;clear ho)
  go_ret
  exact⟨aN (by rw[<-HN.out];simp),zaB⟩
theorem a0B (s:ByteArray) (w:World):Calls Tryz.prog 139 #[tx [64],.string s] w fun e w'=>e=.returned (.bool false)/\Below w.heap.size w w':=by
 go_enter Tryz.func139,Tryz.ntmps139;go_wp2;go_ret
 exact⟨rfl,zaB⟩
theorem uC (s:ByteArray) (w:World):Calls Tryz.prog 139 #[tx [102],.string s] w fun e w'=>e=.returned (.bool (Wf.stOk .flag s.data.toList))/\Below w.heap.size w w':=by
 have HN:=hid (show(s.toList==[121,101,115])=Wf.stOk .flag s.data.toList by unfold Wf.stOk;rw[zaZ,Bool.beq_eq_decide_eq]);go_enter Tryz.func139,Tryz.ntmps139;go_wp2;go_ret
 exact⟨aN (by rw[<-HN.out]),zaB⟩
theorem wW {l:List UInt8} (h:l.length<=2):Wf.stOk .txt l=false:=by
 unfold Wf.stOk;dsimp only;by_cases h2:l.length<2
 ·rw[sF h2];rfl
 ·obtain⟨a,m,z,rfl⟩:=q_mk (show 2<=l.length by omega)
  have hm:m=[]:=List.eq_nil_of_length_eq_zero (by simp only[zaF,zaD,zaM] at h;omega);subst hm;rw[q_eq];by_cases ha:a=39
  ·by_cases hz:z=39
   ·subst ha hz;rfl
   ·rw[decide_eq_false hz,Bool.and_false];rfl
  ·rw[decide_eq_false ha];rfl
theorem kP {l:List UInt8} (h:2<l.length):Wf.stOk .txt l=Wf.quoted l:=by
 unfold Wf.stOk;dsimp only;have:l≠[39,39]:=by intro e;rw[e] at h;simp at h
 rw[decide_eq_true this,Bool.and_true]
theorem yG {s:ByteArray} (h:2<s.size) (h0:s.data.toList[0]? = some 39) (h9:s.data.toList[s.size-1]? = some 39):cZ (s.extract 1 (s.size-1)).data.toList=Wf.stOk .txt s.data.toList:=by
 have hl:=aE s;rw[kP (by omega)];obtain⟨a,m,z,he⟩:=q_mk (show 2<=s.data.toList.length by omega);have hlm:s.size=m.length+2:=by rw[<-hl,he];simp
 rw[he] at h0 h9;have ha:a=39:=by simpa using h0
 have hz:z=39:=by
  rw[hlm,show m.length+2-1=m.length+1 by omega,List.getElem?_cons_succ,List.getElem?_append_right (zaA),Nat.sub_self] at h9;simpa using h9
 have hx:(s.extract 1 (s.size-1)).data.toList=m:=by
  rw[bH,he,List.drop_one,List.tail_cons,hlm,show m.length+2-1-1=m.length by omega,List.take_left' rfl]
 rw[hx,he,q_eq,ha,hz];unfold cZ;simp[Bool.and_comm]
theorem tR (s:ByteArray) (w:World) (hs:s.size<=1000000):Calls Tryz.prog 139 #[tx [116],.string s] w fun e w'=>e=.returned (.bool (Wf.stOk .txt s.data.toList))/\Below w.heap.size w w':=by
 have hl:=aE s;by_cases h2:2<s.size
 ·obtain⟨c0,hc0,e0⟩:=byte_at s 0 (by omega)
  obtain⟨a,ha⟩:∃ a,c0.toNat=a:=⟨_,rfl⟩;obtain⟨c9,hc9,e9⟩:=byte_at s (s.size-1) (by omega);obtain⟨z,hz⟩:∃ z,c9.toNat=z:=⟨_,rfl⟩;rw[ha] at e0;rw[hz] at e9;have e0':=e0 (Nat.lt_trans (by decide) h2);have e9':=e9 (Nat.sub_lt (Nat.lt_trans (by decide) h2) (by decide));by_cases ha39:a=39
  ·by_cases hz39:z=39
   ·subst ha39 hz39
    obtain⟨B,hB⟩:∃ B,cZ (s.extract 1 (s.size-1)).data.toList=B:=⟨_,rfl⟩;have HN:=hid (yG h2 (by rw[hc0];exact congrArg some (UInt8.toNat_inj.1 (by rw[ha];rfl))) (by rw[hc9];exact congrArg some (UInt8.toNat_inj.1 (by rw[hz];rfl))));have HT:=hid fun wz=>oV (s.extract 1 (s.size-1)) wz (by rw[zaY];omega);rw[hB] at HN HT;clear hB ha hz hc0 hc9 hl e0 e9;go_enter Tryz.func139,Tryz.ntmps139;go_wp2_with (go_at_call 98;refine(HT.out _).mono ?_;rintro e w1 ⟨rfl,hb⟩)
    go_ret
    exact⟨aN HN.out,hb⟩
   ·have HN:=hid (show false=Wf.stOk .txt s.data.toList by
     rw[kP (by omega),nD (by omega) (by rw[hl];exact hc9) (by intro e;apply hz39;rw[<-hz,e];rfl)])
    have tz:((z:Int)==39)=false:=(by rw[zaJ];omega);subst ha39;clear ha hz hc0 hc9 hl e0 e9 hz39;go_enter Tryz.func139,Tryz.ntmps139;go_wp2_with fail
    go_ret
    exact⟨aN HN.out,zaB⟩
  ·have HN:=hid (show false=Wf.stOk .txt s.data.toList by
    rw[kP (by omega),pK hc0 (by intro e;apply ha39;rw[<-ha,e];rfl)])
   have ta:((a:Int)==39)=false:=(by rw[zaJ];omega);clear ha hz hc0 hc9 hl e0 e9 ha39;go_enter Tryz.func139,Tryz.ntmps139;go_wp2_with fail
   go_ret
   exact⟨aN HN.out,zaB⟩
 ·have HN:=hid (show false=Wf.stOk .txt s.data.toList by rw[wW (by omega)])
  clear hl;go_enter Tryz.func139,Tryz.ntmps139;go_wp2_with fail
  go_ret
  exact⟨aN HN.out,zaB⟩
theorem qI (k:Wf.K) (h0:k.signs=[]) (s:ByteArray) (w:World) (hs:s.size<=1000000):Calls Tryz.prog 139 #[tx k.base,.string s] w fun e w'=>e=.returned (.bool (Wf.stOk k s.data.toList))/\Below w.heap.size w w':=by
 cases k with
 | num=>exact tS s w
 | txt=>exact tR s w hs
 | flag=>exact uC s w
 | ref n=>exact a0B s w
 | list k=>cases h0
 | opt k=>cases h0

structure NumC (l:List UInt8):Prop where
 ne:l≠[]
 len:l.length<=6
 all:l.all Wf.aD=true
 head:l.head? = some 48->l.length=1
noncomputable def numV (l:List UInt8):Nat:=open Classical in if NumC l then Wf.val l else 0
theorem fU (most:Nat) {l:List UInt8} (h:¬ NumC l):numV l=0/\(Wf.aI l most).isSome=false:=by
 refine⟨by unfold numV;rw[if_neg h],?_⟩;unfold Wf.aI;rw[if_neg (fun hh=>h ⟨hh.1,hh.2.1,hh.2.2.1,hh.2.2.2.1⟩)];rfl
theorem nF (most:Nat) {l:List UInt8} (h:NumC l):numV l=Wf.val l/\(Wf.aI l most).isSome=decide (Wf.val l<=most):=by
 refine⟨by unfold numV;rw[if_pos h],?_⟩;unfold Wf.aI;by_cases hv:Wf.val l<=most
 ·rw[if_pos ⟨h.ne,h.len,h.all,h.head,hv⟩,decide_eq_true hv];rfl
 ·rw[if_neg (fun hh=>hv hh.2.2.2.2),decide_eq_false hv];rfl
theorem qA {l:List UInt8} {i:Nat} {c:UInt8} (h:l[i]? = some c) (hc:c.toNat<48\/57<c.toNat):¬ NumC l:=by
 intro hn;have:=List.all_eq_true.1 hn.all c (List.mem_of_getElem? h);simp[Wf.aD] at this;omega
theorem xX {l:List UInt8} (h:l.all Wf.aD=true):Wf.val l<10 ^ l.length:=by
 induction l using Wf.nV with
 | h0=>simp[Wf.val]
 | h1 s c ih =>
  rw[List.all_append,Bool.and_eq_true] at h;have h1:=ih h.1;rw[Wf.iD,zaD,List.length_singleton,Nat.pow_succ];have:Wf.aD c=true:=by simpa using h.2
  simp[Wf.aD] at this;omega
theorem fV (l:List UInt8):numV l<=999999:=by
 unfold numV;split
 ·rename_i h
  have h1:=xX h.all;have h2:10 ^ l.length<=10 ^ 6:=Nat.pow_le_pow_right (by decide) h.len;have h3:10 ^ 6=1000000:=rfl;omega
 ·omega
theorem iB {l:List UInt8} {most n:Nat} (h:Wf.aI l most=some n):numV l=n:=by
 by_cases hn:NumC l
 ·obtain⟨h1,_⟩:=nF most hn
  obtain⟨h3,_,_⟩:=Wf.dP h;rw[h1,h3,Wf.eG]
 ·have:=(fU most hn).2
  rw[h] at this;cases this
theorem pP (s:ByteArray) (most:Nat) (hm:most<=999999) (w:World):Calls Tryz.prog 76 #[.string s,.int .i64 most] w fun e w'=>e=.returned (.tuple #[.int .i64 (numV s.data.toList),.bool (Wf.aI s.data.toList most).isSome])/\w=w':=by
 have hl:=aE s;by_cases h1:s.size<1
 ·have h0:s.data.toList=[]:=List.eq_nil_of_length_eq_zero (by omega)
  have HN:=hid (fU most (show ¬ NumC s.data.toList from fun h=>h.ne h0));clear h0 hl;go_enter Tryz.func76,Tryz.ntmps76;go_wp2;go_ret2
  exact⟨by rw[HN.out.1,HN.out.2];rfl,rfl⟩
 ·by_cases h6:6<s.size
  ·have HN:=hid (fU most (show ¬ NumC s.data.toList from fun h=>by have:=h.len;omega))
   clear hl;go_enter Tryz.func76,Tryz.ntmps76;go_wp2;go_ret2
   exact⟨by rw[HN.out.1,HN.out.2];rfl,rfl⟩
  ·obtain⟨c0,hc0,e0⟩:=byte_at s 0 (by omega)
   by_cases hz:c0.toNat=48/\1<s.size
   ·obtain⟨hz1,hz2⟩:=hz
    have HN:=hid (fU most (show ¬ NumC s.data.toList from fun h=>by
     have:=h.head (by rw[List.head?_eq_getElem?,hc0];exact congrArg some (UInt8.toNat_inj.1 (by rw[hz1];rfl)));omega))
    rw[hz1] at e0;clear hl hc0 hz1;go_enter Tryz.func76,Tryz.ntmps76;go_wp2;go_ret2
    exact⟨by rw[HN.out.1,HN.out.2];rfl,rfl⟩
   ·obtain⟨a,ha⟩:∃ a,c0.toNat=a:=⟨_,rfl⟩
    rw[ha] at e0 hz;have hne:s.data.toList≠[]:=fun h=>by rw[h] at hl;simp at hl;omega
    have h0:s.data.toList.head? = some 48->s.data.toList.length=1:=by
     intro h;rw[List.head?_eq_getElem?,hc0] at h;have h48:a=48:=(by rw[<-ha,Option.some.inj h];rfl);omega
    have HE:=hid fun(h:s.data.toList.all Wf.aD=true)=>nF most (show NumC s.data.toList from⟨hne,by omega,h,h0⟩);have HL:=hid hl;have hg:(((a:Int)==48)=true/\decide ((1:Int)<(s.size:Int))=false)\/((a:Int)==48)=false:=by
     by_cases h48:a=48
     ·exact .inl ⟨by rw[h48];rfl,decide_eq_false (by omega)⟩
     ·exact .inr (by rw[zaJ];omega)
    clear hz hc0 ha hl hne h0;rcases hg with⟨hg1,hg2⟩|hg1;all_goals
     go_enter Tryz.func76,Tryz.ntmps76;go_wp2;go_loop [6,28] (fun n i=>∃ k v:Nat,k<=s.size/\i=.int .i64 k/\n=.int .i64 v/\v<10 ^ k/\Hid ((s.data.toList.take k).all Wf.aD=true/\v=Wf.val (s.data.toList.take k))) (fun _ i=>s.size-(RowKit.intOf i).toNat)
     case atStart=>exact⟨0,0,Nat.zero_le _,rfl,rfl,by decide,hid ⟨by simp,by simp[Wf.val]⟩⟩
     case round =>
      obtain⟨k,v,hk,rfl,rfl,hv,hd⟩:=hrel;by_cases hlt:k<s.size
      ·obtain⟨c,hc,e1⟩:=byte_at s k hlt
       obtain⟨b,hb⟩:∃ b,c.toNat=b:=⟨_,rfl⟩;rw[hb] at e1;have HC:=hid hc;have HB:=hid hb;have hv6:v<1000000:=by
        have:10 ^ k<=10 ^ 5:=Nat.pow_le_pow_right (by decide) (by omega);have:10 ^ 5=100000:=rfl;omega
       have hb256:b<256:=(by rw[<-hb];exact c.toNat_lt);clear hc hb;by_cases hlo:b<48
       ·go_wp2
        go_ret2
        have HX:=fU most (qA HC.out (by rw[HB.out];omega));exact⟨by rw[HX.1,HX.2];rfl,rfl⟩
       ·by_cases hhi:57<b
        ·go_wp2
         go_ret2
         have HX:=fU most (qA HC.out (by rw[HB.out];omega));exact⟨by rw[HX.1,HX.2];rfl,rfl⟩
        ·have HT:=hid (mC hd.out.1 HC.out (by rw[HB.out];omega) (by rw[HB.out];omega))
         go_wp2;go_round
         case rel=>exact⟨k+1,10*v+(b-48),by omega,by go_num,congrArg (Value.int .i64) (by rw[Int.natCast_add,Int.natCast_mul,Int.ofNat_sub (by omega)];rfl),by rw[Nat.pow_succ];omega,hid ⟨HT.out.1,by rw[HT.out.2,HB.out,hd.out.2]⟩⟩
         case measure=>simp[RowKit.intOf];omega
      ·have hks:k=s.size:=by omega
       subst hks;have HF:=hid (show s.data.toList.all Wf.aD=true/\v=Wf.val s.data.toList by have:=hd.out;rwa[zaS (by rw[HL.out];exact zaA)] at this);go_wp2;go_ret2
       have HX:=HE.out HF.out.1;exact⟨by rw[HX.1,HX.2,<-HF.out.2];rfl,rfl⟩

theorem a1X (l:List UInt8):Lib.trimLeftS l [91,63]=l.dropWhile Wf.aT:=by
 unfold Lib.trimLeftS;congr 1
 funext c
 simp[Wf.aT,Bool.beq_eq_decide_eq]
theorem jZ (r:List UInt8) (c:UInt8):Lib.hasPrefix r [c]=decide (r.head? = some c):=by
 cases r with
 | nil=>rfl
 | cons a q=>simp[Lib.hasPrefix,List.isPrefixOf,Bool.beq_eq_decide_eq,eq_comm]
theorem sM (r:List UInt8) (c:UInt8):Lib.hasSuffix r [c]=decide (r.getLast? = some c):=by
 unfold Lib.hasSuffix List.isSuffixOf;rw[<-List.head?_reverse];exact jZ r.reverse c
theorem cW (s:ByteArray) (l:List UInt8) (h:s.data.toList=l):s=⟨l.toArray⟩:=by rw[<-h]
theorem pE (l:List UInt8) (k:Wf.K) (h:k.signs=[]) (hb:k.core=k):kV (Wf.wrap (l.takeWhile Wf.aT) k)=.agg #[tx (l.takeWhile Wf.aT),tx k.base,tx k.name]:=by
 have ha:(l.takeWhile Wf.aT).all Wf.aT=true:=List.all_takeWhile;rw[kV,Wf.zN ha,Wf.wK,Wf.uI,h,List.append_nil]
theorem fS {t:ByteArray} {l:List UInt8} (h:t.data.toList≠l):(t.toList==l)=false:=by
 rw[zaZ,zaJ];exact h
theorem a1M (r:List UInt8):(r=[110]/\Wf.cP r=some .num)\/(r=[116]/\Wf.cP r=some .txt)\/(r=[102]/\Wf.cP r=some .flag) \/
  (r≠[110]/\r≠[116]/\r≠[102]/\((r.head? = some 64/\r.getLast? = some 59/\Wf.cP r=(if Wf.isName r.tail.dropLast=true then some (.ref r.tail.dropLast) else none))\/(¬ (r.head? = some 64/\r.getLast? = some 59)/\Wf.cP r=none))):=by
 by_cases h1:r=[110]
 ·exact .inl ⟨h1,by rw[h1];rfl⟩
 by_cases h2:r=[116]
 ·exact .inr (.inl ⟨h2,by rw[h2];rfl⟩)
 by_cases h3:r=[102]
 ·exact .inr (.inr (.inl ⟨h3,by rw[h3];rfl⟩))
 refine .inr (.inr (.inr ⟨h1,h2,h3,?_⟩));have e:Wf.cP r=if r.head? = some 64/\r.getLast? = some 59/\Wf.isName (r.tail.dropLast)=true then some (.ref r.tail.dropLast) else none:=by
  rw[Wf.cP,if_neg h1,if_neg h2,if_neg h3]
 by_cases h4:r.head? = some 64/\r.getLast? = some 59
 ·refine .inl ⟨h4.1,h4.2,?_⟩
  rw[e];by_cases h5:Wf.isName r.tail.dropLast=true
  ·rw[if_pos ⟨h4.1,h4.2,h5⟩,if_pos h5]
  ·rw[if_neg (fun h=>h5 h.2.2),if_neg h5]
 ·exact .inr ⟨h4,by rw[e,if_neg (fun h=>h4 ⟨h.1,h.2.1⟩)]⟩
theorem a0C {r:List UInt8} (h1:r.head? = some 64) (h2:r.getLast? = some 59):2<=r.length:=by
 match r,h1,h2 with
 | [a],h1,h2 =>
  have e1:a=64:=by simpa using h1
  have e2:a=59:=by simpa using h2
  rw[e1] at e2;exact absurd e2 (by decide)
 | a::b::q,_,_=>simp
def eJ (l:List UInt8) (e:Ending):Prop :=
 match Wf.aM l with
 | some k=>e=.returned (.tuple #[kV k,.bool true])
 | none=>∃ a b c:ByteArray,e=.returned (.tuple #[.agg #[.string a,.string b,.string c],.bool false])
theorem qP {l:List UInt8} {k:Wf.K} {e:Ending} (h:Wf.aM l=some k) (he:e=.returned (.tuple #[kV k,.bool true])):eJ l e:=by
 rw[eJ,h];exact he
theorem mO {l:List UInt8} {e:Ending} (h:Wf.aM l=none) (he:∃ a b c:ByteArray,e=.returned (.tuple #[.agg #[.string a,.string b,.string c],.bool false])):eJ l e:=by
 rw[eJ,h];exact he
theorem qN (s:ByteArray) (w:World) (hs2:s.size<=9223372036854775807):Calls Tryz.prog 55 #[.string s] w fun e w'=>eJ s.data.toList e/\Below w.heap.size w w':=by
 have hl:=aE s;by_cases hs:s.size<=12
 ·have hp:Wf.aM s.data.toList=(Wf.cP (s.data.toList.dropWhile Wf.aT)).map (Wf.wrap (s.data.toList.takeWhile Wf.aT)):=by
   rw[Wf.aM,if_pos (by omega),Wf.uP]
  obtain⟨t,ht⟩:∃ t:ByteArray,(⟨(s.data.toList.dropWhile Wf.aT).toArray⟩:ByteArray)=t:=⟨_,rfl⟩;have htl:t.data.toList=s.data.toList.dropWhile Wf.aT:=by rw[<-ht]
  have hlc:=xF s.data.toList;have hts:t.size=(s.data.toList.dropWhile Wf.aT).length:=by rw[<-aE,htl]
  have hts':t.size<=s.size:=by omega
  have hc:∀ w,Calls Tryz.prog 90 #[.string s,.string ⟨#[91,63]⟩] w fun e w'=>e=.returned (.string t)/\Below w.heap.size w w':=by
   intro w;have:=a0I s w;rw[a1X,ht] at this;exact this
  have hx:s.extract 0 (s.size-t.size)=⟨(s.data.toList.takeWhile Wf.aT).toArray⟩:=by
   refine cW _ _ ?_;rw[bH,List.drop_zero,Nat.sub_zero];have:s.size-t.size=(s.data.toList.takeWhile Wf.aT).length:=(by omega);rw[this];exact(List.prefix_iff_eq_take.1 (List.takeWhile_prefix _)).symm
  have plain:∀ c (k:Wf.K),t.data.toList=[c]->(t.toList==[110] || t.toList==[116] || t.toList==[102])=true->Wf.cP t.data.toList=some k->k.signs=[]->k.core=k->k.base=[c]->k.name=[] ->
    Calls Tryz.prog 55 #[.string s] w fun e w'=>eJ s.data.toList e/\Below w.heap.size w w':=by
   intro c k h1 h2 h3 h4 h5 h6 h7;refine(yC s t w hs hts' h2 hc).mono fun e w' ⟨he,hb⟩=>⟨?_,hb⟩;refine qP (k:=Wf.wrap (s.data.toList.takeWhile Wf.aT) k) (by rw[hp,<-htl,h3,zaL]) ?_;rw[he,pE _ _ h4 h5,hx,h6,h7,cW t _ h1]
  rcases a1M t.data.toList with⟨h1,h2⟩|⟨h1,h2⟩|⟨h1,h2⟩|⟨h1,h2,h3,h⟩
  ·exact plain 110 .num h1 (by rw[zaZ,h1];rfl) h2 rfl rfl rfl rfl
  ·exact plain 116 .txt h1 (by rw[zaZ,h1];rfl) h2 rfl rfl rfl rfl
  ·exact plain 102 .flag h1 (by rw[zaZ,h1];rfl) h2 rfl rfl rfl rfl
  ·rcases h with⟨h4,h5,h6⟩|⟨h4,h6⟩
   ·have h2t:2<=t.size:=by rw[<-aE];exact a0C h4 h5
    have hn:(t.extract 1 (t.size-1)).data.toList=t.data.toList.tail.dropLast:=by
     rw[bH,List.drop_one,List.dropLast_eq_take,List.length_tail,aE]
    refine(a3D s t w hs hts' h2t (fS h1) (fS h2) (fS h3) (by rw[jZ,h4];rfl) (by rw[sM,h5];rfl) (Wf.isName t.data.toList.tail.dropLast) (fun w=>?_) hc).mono fun e w' ⟨he,hb⟩=>⟨?_,hb⟩
    ·have:=iU (t.extract 1 (t.size-1)) w (by rw[zaY];omega)
     rw[hn] at this;exact this
    ·cases hb:Wf.isName t.data.toList.tail.dropLast with
     | true =>
      rw[hb,if_pos rfl] at h6;refine qP (k:=Wf.wrap (s.data.toList.takeWhile Wf.aT) (.ref t.data.toList.tail.dropLast)) (by rw[hp,<-htl,h6,zaL]) ?_;rw[he,pE _ _ rfl rfl,hx,hb,cW _ _ hn];rfl
     | false =>
      rw[hb,if_neg (by decide)] at h6;refine mO (by rw[hp,<-htl,h6,Option.map_none]) ?_;rw[he,hb];exact⟨_,_,_,rfl⟩
   ·refine(tE s t w hs hts' (fS h1) (fS h2) (fS h3) _ _ (jZ _ _) (sM _ _) ?_ hc).mono fun e w' ⟨he,hb⟩=>⟨?_,hb⟩
    ·by_cases h7:t.data.toList.head? = some 64
     ·by_cases h8:t.data.toList.getLast? = some 59
      ·exact absurd ⟨h7,h8⟩ h4
      ·rw[decide_eq_false h8,Bool.and_false]
     ·rw[decide_eq_false h7,Bool.false_and]
    ·refine mO (by rw[hp,<-htl,h6,Option.map_none]) ?_
     rw[he];exact⟨_,_,_,rfl⟩
 ·refine(sV s w (by omega) hs2).mono fun e w' ⟨he,hb⟩=>⟨?_,hb⟩
  exact mO (by rw[Wf.aM,if_neg (by omega)]) ⟨_,_,_,he⟩
theorem oT (s:ByteArray) (k:Wf.K) (hk:Wf.aM s.data.toList=some k) (w:World) (hs2:s.size<=9223372036854775807):Calls Tryz.prog 55 #[.string s] w fun e w'=>e=.returned (.tuple #[kV k,.bool true])/\Below w.heap.size w w' :=
 (qN s w hs2).mono fun e w' ⟨h,hb⟩=>⟨by unfold eJ at h;rw[hk] at h;exact h,hb⟩
theorem pS (s:ByteArray) (hk:Wf.aM s.data.toList=none) (w:World) (hs2:s.size<=9223372036854775807):Calls Tryz.prog 55 #[.string s] w fun e w'=>(∃ a b c:ByteArray,e=.returned (.tuple #[.agg #[.string a,.string b,.string c],.bool false]))/\Below w.heap.size w w' :=
 (qN s w hs2).mono fun e w' ⟨h,hb⟩=>⟨by unfold eJ at h;rw[hk] at h;exact h,hb⟩
