/- Packed. -/
import Derived.Test.YtidjpalnmnehmaaGreatDoorK5
set_option maxRecDepth 99999
set_option maxHeartbeats 40000000
set_option linter.all false
namespace Go.Proofs.YtidjpalnmnehmaaGreatDoor
open Go.ChangeShapes Go.WideShapes Go.ChangeAt Go.RowKit Go.Lib
def aZ (l:List UInt8) (most:Nat) (e:Ending):Prop:=match Wf.aI l most with
 | some n=>e=.returned (.tuple #[.int .i64 n,.bool true])
 | none=>∃ m:Int,e=.returned (.tuple #[.int .i64 m,.bool false])
theorem qZ {l:List UInt8} {most n:Nat} {e:Ending} (h:Wf.aI l most=some n) (he:e=.returned (.tuple #[.int .i64 n,.bool true])):aZ l most e:=by
 unfold aZ;rw[h];exact he
theorem dA {l:List UInt8} {most:Nat} {e:Ending} (h:Wf.aI l most=none) (m:Int) (he:e=.returned (.tuple #[.int .i64 m,.bool false])):aZ l most e:=by
 unfold aZ;rw[h];exact⟨m,he⟩
theorem xK {l:List UInt8} {most v:Nat} {b:Bool} (h:Wf.aI l most=if Wf.val l<=most then some (Wf.val l) else none) (hv:v=Wf.val l) (hb:b=decide (v<=most)):aZ l most (.returned (.tuple #[.int .i64 v,.bool b])):=by
 subst hb hv;by_cases hm:Wf.val l<=most
 ·rw[if_pos hm] at h;exact qZ h (by rw[decide_eq_true hm])
 ·rw[if_neg hm] at h;exact dA h _ (by rw[decide_eq_false hm])
theorem hI {s:ByteArray} {i:Nat} {c:UInt8} {most:Nat} (h:s.data.toList[i]? = some c) (hc:c.toNat<48\/57<c.toNat):Wf.aI s.data.toList most=none:=by
 unfold Wf.aI;rw[if_neg];rintro⟨_,_,h3,_⟩;have:=List.all_eq_true.1 h3 c (List.mem_of_getElem? h);simp[Wf.aD] at this;omega
theorem mC {l:List UInt8} {i:Nat} {c:UInt8} (h:(l.take i).all Wf.aD=true) (hc:l[i]? = some c) (h1:48<=c.toNat) (h2:c.toNat<=57):(l.take (i+1)).all Wf.aD=true/\Wf.val (l.take (i+1))=10*Wf.val (l.take i)+(c.toNat-48):=by
 have e:l.take (i+1)=l.take i++[c]:=by rw[List.take_add_one,hc];rfl
 rw[e,List.all_append,h,Wf.iD];refine⟨?_,rfl⟩;simp[Wf.aD];omega
def vT (l:List UInt8) (most:Nat) (e:Ending):Prop:=aZ l most e/\∃ (m:Int) (b:Bool),e=.returned (.tuple #[.int .i64 m,.bool b])/\0<=m/\m<=999999
theorem wA (s:ByteArray) (most:Nat) (hm:most<=999999) (w:World):Calls Tryz.prog 76 #[.string s,.int .i64 most] w fun e w'=>vT s.data.toList most e/\w=w':=by
 have hl:=aE s;by_cases h1:s.size<1
 ·have h0:s.data.toList=[]:=List.eq_nil_of_length_eq_zero (by omega)
  have HN:=hid (show Wf.aI s.data.toList most=none by rw[h0];unfold Wf.aI;rw[if_neg (by simp)]);clear h0 hl;go_enter Tryz.func76,Tryz.ntmps76;go_wp2;go_ret2
  exact⟨⟨dA HN.out _ rfl,_,_,rfl,by omega,by omega⟩,rfl⟩
 ·by_cases h6:6<s.size
  ·have HN:=hid (show Wf.aI s.data.toList most=none by unfold Wf.aI;rw[if_neg];rintro⟨_,h,_⟩;omega)
   clear hl;go_enter Tryz.func76,Tryz.ntmps76;go_wp2;go_ret2
   exact⟨⟨dA HN.out _ rfl,_,_,rfl,by omega,by omega⟩,rfl⟩
  ·obtain⟨c0,hc0,e0⟩:=byte_at s 0 (by omega)
   by_cases hz:c0.toNat=48/\1<s.size
   ·obtain⟨hz1,hz2⟩:=hz
    have HN:=hid (show Wf.aI s.data.toList most=none by
     unfold Wf.aI;rw[if_neg];rintro⟨_,_,_,h,_⟩;have:=h (by rw[List.head?_eq_getElem?,hc0];exact congrArg some (UInt8.toNat_inj.1 (by rw[hz1];rfl)));omega)
    rw[hz1] at e0;clear hl hc0 hz1;go_enter Tryz.func76,Tryz.ntmps76;go_wp2;go_ret2
    exact⟨⟨dA HN.out _ rfl,_,_,rfl,by omega,by omega⟩,rfl⟩
   ·obtain⟨a,ha⟩:∃ a,c0.toNat=a:=⟨_,rfl⟩
    rw[ha] at e0 hz;have hne:s.data.toList≠[]:=fun h=>by rw[h] at hl;simp at hl;omega
    have h0:s.data.toList.head? = some 48->s.data.toList.length=1:=by
     intro h;rw[List.head?_eq_getElem?,hc0] at h;have h48:a=48:=(by rw[<-ha,Option.some.inj h];rfl);omega
    have HE:=hid (show s.data.toList.all Wf.aD=true->Wf.aI s.data.toList most=if Wf.val s.data.toList<=most then some (Wf.val s.data.toList) else none from fun h=>by
     unfold Wf.aI;by_cases hv:Wf.val s.data.toList<=most
     ·rw[if_pos ⟨hne,by omega,h,h0,hv⟩,if_pos hv]
     ·rw[if_neg (fun h=>hv h.2.2.2.2),if_neg hv])
    have HL:=hid hl;have hg:(((a:Int)==48)=true/\decide ((1:Int)<(s.size:Int))=false)\/((a:Int)==48)=false:=by
     by_cases h48:a=48
     ·exact .inl ⟨by rw[h48];rfl,decide_eq_false (by omega)⟩
     ·exact .inr (by rw[zaJ];omega)
    clear hz hc0 ha hl hne h0;rcases hg with⟨hg1,hg2⟩|hg1;all_goals
     go_enter Tryz.func76,Tryz.ntmps76;go_wp2;go_loop [6,28] (fun n i=>∃ k v:Nat,k<=s.size/\i=.int .i64 k/\n=.int .i64 v/\v<10 ^ k/\Hid ((s.data.toList.take k).all Wf.aD=true/\v=Wf.val (s.data.toList.take k))) (fun _ i=>s.size-(RowKit.intOf i).toNat)
     case atStart=>exact⟨0,0,Nat.zero_le _,rfl,rfl,by decide,hid ⟨by simp,by simp[Wf.val]⟩⟩
     case round =>
      obtain⟨k,v,hk,rfl,rfl,hv,hd⟩:=hrel;by_cases hlt:k<s.size
      ·obtain⟨c,hc,e1⟩:=byte_at s k hlt
       obtain⟨b,hb⟩:∃ b,c.toNat=b:=⟨_,rfl⟩;rw[hb] at e1;have HC:=hid hc;have HB:=hid hb;have hv6:v<1000000:=by
        have:10 ^ k<=10 ^ 5:=Nat.pow_le_pow_right (by decide) (by omega);have:10 ^ 5=100000:=rfl;omega
       have hb256:b<256:=(by rw[<-hb];exact c.toNat_lt);clear hc hb;by_cases hlo:b<48
       ·go_wp2
        go_ret2
        exact⟨⟨dA (hI HC.out (by rw[HB.out];omega)) _ rfl,_,_,rfl,by omega,by omega⟩,rfl⟩
       ·by_cases hhi:57<b
        ·go_wp2
         go_ret2
         exact⟨⟨dA (hI HC.out (by rw[HB.out];omega)) _ rfl,_,_,rfl,by omega,by omega⟩,rfl⟩
        ·have HT:=hid (mC hd.out.1 HC.out (by rw[HB.out];omega) (by rw[HB.out];omega))
         go_wp2;go_round
         case rel=>exact⟨k+1,10*v+(b-48),by omega,by go_num,congrArg (Value.int .i64) (by rw[Int.natCast_add,Int.natCast_mul,Int.ofNat_sub (by omega)];rfl),by rw[Nat.pow_succ];omega,hid ⟨HT.out.1,by rw[HT.out.2,HB.out,hd.out.2]⟩⟩
         case measure=>simp[RowKit.intOf];omega
      ·have hks:k=s.size:=by omega
       subst hks;have HF:=hid (show s.data.toList.all Wf.aD=true/\v=Wf.val s.data.toList by have:=hd.out;rwa[zaS (by rw[HL.out];exact zaA)] at this);go_wp2;go_ret2
       have hv6:v<1000000:=by
        have:10 ^ s.size<=10 ^ 6:=Nat.pow_le_pow_right (by decide) (by omega);have:10 ^ 6=1000000:=rfl;omega
       exact⟨⟨xK (HE.out HF.out.1) HF.out.2 rfl,_,_,rfl,by omega,by omega⟩,rfl⟩
theorem nG (s:ByteArray) (most:Nat) (hm:most<=999999) (w:World):Calls Tryz.prog 76 #[.string s,.int .i64 most] w fun e w'=>aZ s.data.toList most e/\w=w' :=
 (wA s most hm w).mono fun e w' ⟨⟨h,_⟩,hw⟩=>⟨h,hw⟩
theorem a1O {l:List UInt8} {top v:Nat} {b:Bool} (hd:l.all Wf.aD=true) (h6:l.length<=6) (hv:v=Wf.val l) (ht:top<=999999) (hb:b=((l==Wf.dec v)&&decide (v<=top))):aZ l top (.returned (.tuple #[.int .i64 v,.bool b])):=by
 by_cases h1:l=Wf.dec v
 ·by_cases h2:v<=top
  ·refine qZ (n:=v) ?_ (by rw[hb,decide_eq_true h2,beq_iff_eq.2 h1];rfl)
   rw[h1];exact Wf.gQ h2 (by omega)
  ·refine dA ?_ _ (by rw[hb,decide_eq_false h2,Bool.and_false])
   cases hp:Wf.aI l top with
   | none=>rfl
   | some n =>
    obtain⟨g1,g2,g3⟩:=Wf.dP hp;rw[g1,Wf.eG] at hv;omega
 ·refine dA ?_ _ (by rw[hb,beq_eq_false_iff_ne.2 h1,Bool.false_and])
  cases hp:Wf.aI l top with
  | none=>rfl
  | some n =>
   obtain⟨g1,g2,g3⟩:=Wf.dP hp;have:v=n:=(by rw[hv,g1,Wf.eG]);rw[<-this] at g1;exact absurd g1 h1
theorem gJ (s:ByteArray) (top:Nat) (hm:top<=999999) (w:World) (hs:s.size<=9223372036854775807):Calls Tryz.prog 52 #[.string s,.int .i64 top] w fun e w'=>aZ s.data.toList top e/\Below w.heap.size w w':=by
 have HL:=hid (aE s);go_enter Tryz.func52,Tryz.ntmps52;go_wp2;go_loop [6,7] (fun n i=>∃ k v:Nat,k<=s.size/\k<=6/\i=.int .i64 k/\n=.int .i64 v/\v<10 ^ k/\Hid ((s.data.toList.take k).all Wf.aD=true/\v=Wf.val (s.data.toList.take k))) (fun _ i=>s.size-(RowKit.intOf i).toNat)
 case atStart=>exact⟨0,0,Nat.zero_le _,by omega,rfl,rfl,by decide,hid ⟨by simp,by simp[Wf.val]⟩⟩
 case round =>
  obtain⟨k,v,hk,hk6,rfl,rfl,hv,hd⟩:=hrel;by_cases hlt:k<s.size
  ·obtain⟨c,hc,e1⟩:=byte_at s k hlt
   obtain⟨b,hb⟩:∃ b,c.toNat=b:=⟨_,rfl⟩;rw[hb] at e1;have HC:=hid hc;have HB:=hid hb;have hb256:b<256:=(by rw[<-hb];exact c.toNat_lt);have hv6:v<10000000:=by
    have:10 ^ k<=10 ^ 6:=Nat.pow_le_pow_right (by decide) (by omega);have:10 ^ 6=1000000:=rfl;omega
   clear hc hb;by_cases hlo:b<48
   ·go_wp2_with fail
    go_ret2
    exact⟨dA (hI HC.out (by rw[HB.out];omega)) _ rfl,zaB⟩
   ·by_cases hhi:57<b
    ·go_wp2_with fail
     go_ret2
     exact⟨dA (hI HC.out (by rw[HB.out];omega)) _ rfl,zaB⟩
    ·by_cases h5:5<k
     ·go_wp2_with fail
      go_ret2
      exact⟨dA (by unfold Wf.aI;rw[if_neg];rintro⟨_,h,_⟩;rw[HL.out] at h;omega) _ rfl,zaB⟩
     ·have HT:=hid (mC hd.out.1 HC.out (by rw[HB.out];omega) (by rw[HB.out];omega))
      go_wp2_with fail
      go_round
      case rel=>exact⟨k+1,10*v+(b-48),by omega,by omega,by go_num,congrArg (Value.int .i64) (by rw[Int.natCast_add,Int.natCast_mul,Int.ofNat_sub (by omega)];rfl),by rw[Nat.pow_succ];omega,hid ⟨HT.out.1,by rw[HT.out.2,HB.out,hd.out.2]⟩⟩
      case measure=>simp[RowKit.intOf];omega
  ·have hks:k=s.size:=by omega
   subst hks;have hv6:v<1000000:=by
    have:10 ^ s.size<=10 ^ 6:=Nat.pow_le_pow_right (by decide) (by omega);have:10 ^ 6=1000000:=rfl;omega
   have HF:=hid (show s.data.toList.all Wf.aD=true/\v=Wf.val s.data.toList by have:=hd.out;rwa[zaS (by rw[HL.out];exact zaA)] at this);obtain⟨d,hdd⟩:∃ d:ByteArray,(⟨(Wf.dec v).toArray⟩:ByteArray)=d:=⟨_,rfl⟩;have H1:=hid fun w=>eF v v w (zaA) (by omega);rw[tx,hdd] at H1;have HDD:=hid (show d.toList=Wf.dec v by rw[<-hdd,zaZ]);clear hdd;cases ht:(s.toList==d.toList);all_goals
    have HT:=hid (show(s.data.toList==Wf.dec v)=_ by rw[<-HDD.out,<-zaZ]);go_wp2_with (go_at_call 89;refine(H1.out _).mono ?_;rintro e w1 ⟨rfl,hb1⟩)
    go_ret2
    exact⟨a1O HF.out.1 (by rw[HL.out];omega) HF.out.2 hm (by rw[HT.out,ht];rfl),hb1⟩
