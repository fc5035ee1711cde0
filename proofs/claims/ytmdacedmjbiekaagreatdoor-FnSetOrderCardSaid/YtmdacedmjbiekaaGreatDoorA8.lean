/- Packed. -/
import Derived.Test.YtmdacedmjbiekaaGreatDoorA4
set_option maxRecDepth 99999
set_option maxHeartbeats 40000000
set_option linter.all false
namespace Go.Proofs.YtmdacedmjbiekaaGreatDoor
open Go.ChangeShapes Go.WideShapes Go.ChangeAt Go.RowKit Go.Lib
theorem nT:(Tryz.prog.info? 9).map (fun i=>(i.zero,i.size,i.bytes))=some (some (.string ⟨#[]⟩),1,16):=by kernel_rfl
theorem vR (c:UInt8):∀ l:List UInt8,(Wf.cutAt c l).length<=l.length+1:=by
 intro l;induction l with
 | nil=>simp[Wf.cutAt]
 | cons a r ih =>
  simp only[Wf.cutAt];by_cases h:a=c
  ·rw[if_pos h,List.length_cons,List.length_cons];omega
  ·rw[if_neg h]
   cases hr:Wf.cutAt c r with
   | nil=>simp
   | cons p ps=>rw[hr] at ih;simp only[List.length_cons] at ih ⊢;omega
def fR (c:UInt8) (l:List UInt8) (ps:List (List UInt8)) (fr i:Nat):Prop:=Wf.cutAt c l=ps++Wf.cutAt c (l.drop fr)/\c ∉ (l.drop fr).take (i-fr)/\fr<=i/\ps.length<=i
theorem yR (c:UInt8) (l:List UInt8):fR c l [] 0 0:=⟨by simp,by simp,Nat.le_refl _,Nat.le_refl _⟩
theorem a1D {c b:UInt8} {l:List UInt8} {ps:List (List UInt8)} {fr i:Nat} (h:fR c l ps fr i) (hb:l[i]? = some b) (hbc:b≠c):fR c l ps fr (i+1):=by
 obtain⟨h1,h2,h3,h4⟩:=h;refine⟨h1,?_,by omega,by omega⟩;have e:i+1-fr=(i-fr)+1:=by omega
 have e2:(l.drop fr)[i-fr]? = some b:=by rw[List.getElem?_drop,show fr+(i-fr)=i by omega];exact hb
 rw[e,List.take_add_one,e2,List.mem_append];rintro(h|h)
 ·exact h2 h
 ·simp at h;exact hbc h.symm
theorem a6H {c:UInt8} {l:List UInt8} {ps:List (List UInt8)} {fr i:Nat} (h:fR c l ps fr i) (hb:l[i]? = some c):fR c l (ps++[(l.drop fr).take (i-fr)]) (i+1) (i+1):=by
 obtain⟨h1,h2,h3,h4⟩:=h;refine⟨?_,by simp,Nat.le_refl _,by rw[List.length_append,List.length_singleton];omega⟩;have hlt:i<l.length:=by
  rcases Nat.lt_or_ge i l.length with h|h
  ·exact h
  ·rw[List.getElem?_eq_none h] at hb;cases hb
 have e2:l.drop fr=(l.drop fr).take (i-fr)++c::l.drop (i+1):=by
  conv=>lhs;rw[<-List.take_append_drop (i-fr) (l.drop fr)]
  congr 1
  rw[List.drop_drop,show fr+(i-fr)=i by omega,List.drop_eq_getElem_cons hlt];have:l[i]=c:=by rw[List.getElem?_eq_getElem hlt] at hb;exact Option.some.inj hb
  rw[this]
 rw[h1,List.append_assoc];congr 1
 conv=>lhs;rw[e2]
 rw[Wf.rY h2];rfl
theorem a9D {c:UInt8} {l:List UInt8} {ps:List (List UInt8)} {fr:Nat} (h:fR c l ps fr l.length):Wf.cutAt c l=ps++[l.drop fr]:=by
 obtain⟨h1,h2,h3,h4⟩:=h;rw[List.take_of_length_le (by rw[List.length_drop];exact Nat.le_refl _)] at h2;rw[h1,Wf.kR h2]
theorem oN (ps:List (List UInt8)) (p:List UInt8) (b:ByteArray) (h:b.data.toList=p):(ps++[p]).map tx=ps.map tx++[.string b]:=by
 rw[List.map_append,List.map_singleton,tx,<-h]
theorem jV (s:ByteArray) (c:UInt8) (hs:s.size<=2000000) (w:World):Calls Tryz.prog 101 #[.string s,.int .u8 c.toNat] w fun e w'=>∃ b v,e=.returned v/\w.heap.size<=b/\aJ w' b v ((Wf.cutAt c s.data.toList).map tx)/\Below w.heap.size w w':=by
 have HL:=hid (aE s);obtain⟨cn,hcn⟩:∃ cn,c.toNat=cn:=⟨_,rfl⟩;have HCN:=hid hcn;rw[hcn];clear hcn;go_enter Tryz.func101,Tryz.ntmps101;go_wp2;go_loopw [5,6,7] (fun v f i wr=>∃ (ps:List (List UInt8)) (fr k:Nat),f=.int .i64 fr/\i=.int .i64 k/\k<=s.size/\fr<=k/\Hid (fR c s.data.toList ps fr k/\wr.ownsRow w.heap.size 9 1 v (ps.map tx).length (ps.map tx)/\Below w.heap.size w wr)) (fun _ _ i _=>s.size-(RowKit.intOf i).toNat)
 case atStart=>exact⟨[],0,0,rfl,rfl,Nat.zero_le _,Nat.le_refl _,hid ⟨yR _ _,World.ownsRow_made w #[] 0 (Nat.le_refl _) (by decide) rfl,(Below.refl _ _).alloc (Nat.le_refl _) _⟩⟩
 case round =>
  obtain⟨ps,fr,k,rfl,rfl,hk,hfr,hh⟩:=hrel;by_cases hlt:k<s.size
  ·obtain⟨b,hb,e1⟩:=byte_at s k hlt
   obtain⟨n,hn⟩:∃ n,b.toNat=n:=⟨_,rfl⟩;rw[hn] at e1;have HB:=hid hb;have HN:=hid hn;clear hb hn;by_cases hc:n=cn
   ·subst hc
    have HBC:=hid (show s.data.toList[k]? = some c by rw[HB.out];exact congrArg some (UInt8.toNat_inj.1 (by rw[HN.out,HCN.out])));have HS:=hid (a6H hh.out.1 HBC.out);have hps:ps.length<=k:=hh.out.1.2.2.2;have HX:=hid (show(s.extract fr k).data.toList=(s.data.toList.drop fr).take (k-fr) from bT _ _ _);go_wp2_with (at_builtin;refine nN _ rfl (.tmp 20) (.tmp 25) 22 rfl w.heap.size 9 (.string ⟨#[]⟩) 16 Tryz.underlying22 nT rfl _ (ps.map tx) rfl (hh.out.2.1.alloc _) ⟨wr.heap.size,0,none⟩ (.string (s.extract fr k)) rfl (by simp) rfl (by rw[List.length_map];omega) (by rw[List.length_map];omega) (by have:=hh.out.2.2.size;simp;omega) ?_;intro v1 w1 ho1 hb1;have HO:=hid ho1;have HB1:=hid hb1;clear ho1 hb1)
    go_roundw
    case rel=>exact⟨ps++[(s.data.toList.drop fr).take (k-fr)],k+1,k+1,by go_num,by go_num,by omega,Nat.le_refl _,hid ⟨HS.out,by rw[oN _ _ _ HX.out];exact HO.out,(hh.out.2.2.alloc hh.out.2.2.size _).trans HB1.out⟩⟩
    case measure=>simp[RowKit.intOf];omega
   ·have HBC:=hid (show b≠c by intro h;apply hc;rw[<-HN.out,h,HCN.out])
    have HS:=hid (a1D hh.out.1 HB.out HBC.out);have hbeq:((n:Int)==(cn:Int))=false:=(by rw[beq_eq_false_iff_ne];omega);clear hc;go_wp2;go_roundw
    case rel=>exact⟨ps,fr,k+1,rfl,by go_num,by omega,by omega,hid ⟨HS.out,hh.out.2.1,hh.out.2.2⟩⟩
    case measure=>simp[RowKit.intOf];omega
  ·have hks:k=s.size:=by omega
   subst hks;have hps:ps.length<=s.size:=hh.out.1.2.2.2;have HX:=hid (show(s.extract fr s.size).data.toList=s.data.toList.drop fr by rw[bT,List.take_of_length_le (by rw[List.length_drop,HL.out];exact Nat.le_refl _)]);have HE:=hid (show Wf.cutAt c s.data.toList=ps++[s.data.toList.drop fr] from a9D (by rw[HL.out];exact hh.out.1));go_wp2_with (at_builtin;refine nN _ rfl (.tmp 29) (.tmp 33) 22 rfl w.heap.size 9 (.string ⟨#[]⟩) 16 Tryz.underlying22 nT rfl _ (ps.map tx) rfl (hh.out.2.1.alloc _) ⟨wr.heap.size,0,none⟩ (.string (s.extract fr s.size)) rfl (by simp) rfl (by rw[List.length_map];omega) (by rw[List.length_map];omega) (by have:=hh.out.2.2.size;simp;omega) ?_;intro v1 w1 ho1 hb1;have HO:=hid ho1;have HB1:=hid hb1;clear ho1 hb1)
   go_ret
   obtain⟨b,hb,hr⟩:=aJ.bJ HO.out;exact⟨b,v1,rfl,hb,by rw[HE.out,oN _ _ _ HX.out];exact hr,(hh.out.2.2.alloc hh.out.2.2.size _).trans HB1.out⟩
