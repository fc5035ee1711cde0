/- Packed by pack.py: Lc Lf. -/
import Derived.Test.YtmdacedmjbiekaaGreatDoorR10
import Derived.Test.YtmdacedmjbiekaaGreatDoorR3
import Derived.Test.YtmdacedmjbiekaaGreatDoorR6
import Derived.Deep.RegionWith
namespace Go.Proofs.YtmdacedmjbiekaaGreatDoor
open Go.ChangeShapes Go.WideShapes Go.ChangeAt Go.RowKit Go.Lib
set_option linter.unusedVariables false
theorem info_tx:(Tryz.prog.info? 9).map (fun i=>(i.zero,i.size,i.bytes))=some (some (.string ⟨#[]⟩),1,16):=by kernel_rfl
theorem cutAt_len (c:UInt8):∀ l:List UInt8,(Wf.cutAt c l).length≤l.length+1:=by
 intro l
 induction l with
 | nil=>simp[Wf.cutAt]
 | cons a r ih =>
  simp only[Wf.cutAt]
  by_cases h:a=c
  ·rw[if_pos h,List.length_cons,List.length_cons];omega
  ·rw[if_neg h]
   cases hr:Wf.cutAt c r with
   | nil=>simp
   | cons p ps=>rw[hr] at ih;simp only[List.length_cons] at ih ⊢;omega
def Cutting (c:UInt8) (l:List UInt8) (ps:List (List UInt8)) (fr i:Nat):Prop:=Wf.cutAt c l=ps++Wf.cutAt c (l.drop fr)∧c ∉ (l.drop fr).take (i-fr)∧fr≤i∧ps.length≤i
theorem cutting_start (c:UInt8) (l:List UInt8):Cutting c l [] 0 0:=⟨by simp,by simp,Nat.le_refl _,Nat.le_refl _⟩
theorem cutting_no {c b:UInt8} {l:List UInt8} {ps:List (List UInt8)} {fr i:Nat} (h:Cutting c l ps fr i) (hb:l[i]? = some b) (hbc:b≠c):Cutting c l ps fr (i+1):=by
 obtain⟨h1,h2,h3,h4⟩:=h
 refine⟨h1, ?_,by omega,by omega⟩
 have e:i+1-fr=(i-fr)+1:=by omega
 have e2:(l.drop fr)[i-fr]? = some b:=by rw[List.getElem?_drop,show fr+(i-fr)=i by omega];exact hb
 rw[e,List.take_add_one,e2,List.mem_append]
 rintro(h|h)
 ·exact h2 h
 ·simp at h;exact hbc h.symm
theorem cutting_yes {c:UInt8} {l:List UInt8} {ps:List (List UInt8)} {fr i:Nat} (h:Cutting c l ps fr i) (hb:l[i]? = some c):Cutting c l (ps++[(l.drop fr).take (i-fr)]) (i+1) (i+1):=by
 obtain⟨h1,h2,h3,h4⟩:=h
 refine⟨?_,by simp,Nat.le_refl _,by rw[List.length_append,List.length_singleton];omega⟩
 have hlt:i<l.length:=by
  rcases Nat.lt_or_ge i l.length with h|h
  ·exact h
  ·rw[List.getElem?_eq_none h] at hb;cases hb
 have e2:l.drop fr=(l.drop fr).take (i-fr)++c::l.drop (i+1):=by
  conv=>lhs;rw[← List.take_append_drop (i-fr) (l.drop fr)]
  congr 1
  rw[List.drop_drop,show fr+(i-fr)=i by omega,List.drop_eq_getElem_cons hlt]
  have:l[i]=c:=by rw[List.getElem?_eq_getElem hlt] at hb;exact Option.some.inj hb
  rw[this]
 rw[h1,List.append_assoc]
 congr 1
 conv=>lhs;rw[e2]
 rw[Wf.cutAt_app h2];rfl
theorem cutting_end {c:UInt8} {l:List UInt8} {ps:List (List UInt8)} {fr:Nat} (h:Cutting c l ps fr l.length):Wf.cutAt c l=ps++[l.drop fr]:=by
 obtain⟨h1,h2,h3,h4⟩:=h
 rw[List.take_of_length_le (by rw[List.length_drop];exact Nat.le_refl _)] at h2
 rw[h1,Wf.cutAt_single h2]
theorem map_snoc (ps:List (List UInt8)) (p:List UInt8) (b:ByteArray) (h:b.data.toList=p):(ps++[p]).map tx=ps.map tx++[.string b]:=by
 rw[List.map_append,List.map_singleton,tx,← h]
set_option maxRecDepth 20000 in
set_option maxHeartbeats 1000000 in
theorem l3Cut (s:ByteArray) (c:UInt8) (hs:s.size≤2000000) (w:World):Calls Tryz.prog 101 #[.string s, .int .u8 c.toNat] w fun e w'=>∃ b v,e=.returned v∧w.heap.size≤b∧RowAt w' b v ((Wf.cutAt c s.data.toList).map tx)∧Below w.heap.size w w':=by
 have HL:=hid (size_list s)
 obtain⟨cn,hcn⟩:∃ cn,c.toNat=cn:=⟨_,rfl⟩
 have HCN:=hid hcn
 rw[hcn]
 clear hcn
 go_enter Tryz.func101,Tryz.ntmps101
 go_wp2
 go_loopw [5,6,7] (fun v f i wr=>∃ (ps:List (List UInt8)) (fr k:Nat),f=.int .i64 fr∧i=.int .i64 k∧k≤s.size∧fr≤k∧Hid (Cutting c s.data.toList ps fr k∧wr.ownsRow w.heap.size 9 1 v (ps.map tx).length (ps.map tx)∧Below w.heap.size w wr)) (fun _ _ i _=>s.size-(RowKit.intOf i).toNat)
 case atStart=>exact⟨[],0,0,rfl,rfl,Nat.zero_le _,Nat.le_refl _,hid ⟨cutting_start _ _,World.ownsRow_made w #[] 0 (Nat.le_refl _) (by decide) rfl,(Below.refl _ _).alloc (Nat.le_refl _) _⟩⟩
 case round =>
  obtain⟨ps,fr,k,rfl,rfl,hk,hfr,hh⟩:=hrel
  by_cases hlt:k<s.size
  ·obtain⟨b,hb,e1⟩:=byte_at s k hlt
   obtain⟨n,hn⟩:∃ n,b.toNat=n:=⟨_,rfl⟩
   rw[hn] at e1
   have HB:=hid hb
   have HN:=hid hn
   clear hb hn
   by_cases hc:n=cn
   ·subst hc
    have HBC:=hid (show s.data.toList[k]? = some c by rw[HB.out];exact congrArg some (UInt8.toNat_inj.1 (by rw[HN.out,HCN.out])))
    have HS:=hid (cutting_yes hh.out.1 HBC.out)
    have hps:ps.length≤k:=hh.out.1.2.2.2
    have HX:=hid (show(s.extract fr k).data.toList=(s.data.toList.drop fr).take (k-fr) from ext_list _ _ _)
    go_wp2_with (at_builtin;refine wpList_append_cell _ rfl (.tmp 20) (.tmp 25) 22 rfl w.heap.size 9 (.string ⟨#[]⟩) 16 Tryz.underlying22 info_tx rfl _ (ps.map tx) rfl (hh.out.2.1.alloc _) ⟨wr.heap.size,0,none⟩ (.string (s.extract fr k)) rfl (by simp) rfl (by rw[List.length_map];omega) (by rw[List.length_map];omega) (by have:=hh.out.2.2.size;simp;omega) ?_;intro v1 w1 ho1 hb1;have HO:=hid ho1;have HB1:=hid hb1;clear ho1 hb1)
    go_roundw
    case rel=>exact⟨ps++[(s.data.toList.drop fr).take (k-fr)],k+1,k+1,by go_num,by go_num,by omega,Nat.le_refl _,hid ⟨HS.out,by rw[map_snoc _ _ _ HX.out];exact HO.out,(hh.out.2.2.alloc hh.out.2.2.size _).trans HB1.out⟩⟩
    case measure=>simp[RowKit.intOf];omega
   ·have HBC:=hid (show b≠c by intro h;apply hc;rw[← HN.out,h,HCN.out])
    have HS:=hid (cutting_no hh.out.1 HB.out HBC.out)
    have hbeq:((n:Int)==(cn:Int))=false:=by rw[beq_eq_false_iff_ne];omega
    clear hc
    go_wp2
    go_roundw
    case rel=>exact⟨ps,fr,k+1,rfl,by go_num,by omega,by omega,hid ⟨HS.out,hh.out.2.1,hh.out.2.2⟩⟩
    case measure=>simp[RowKit.intOf];omega
  ·have hks:k=s.size:=by omega
   subst hks
   have hps:ps.length≤s.size:=hh.out.1.2.2.2
   have HX:=hid (show(s.extract fr s.size).data.toList=s.data.toList.drop fr by rw[ext_list,List.take_of_length_le (by rw[List.length_drop,HL.out];exact Nat.le_refl _)])
   have HE:=hid (show Wf.cutAt c s.data.toList=ps++[s.data.toList.drop fr] from cutting_end (by rw[HL.out];exact hh.out.1))
   go_wp2_with (at_builtin;refine wpList_append_cell _ rfl (.tmp 29) (.tmp 33) 22 rfl w.heap.size 9 (.string ⟨#[]⟩) 16 Tryz.underlying22 info_tx rfl _ (ps.map tx) rfl (hh.out.2.1.alloc _) ⟨wr.heap.size,0,none⟩ (.string (s.extract fr s.size)) rfl (by simp) rfl (by rw[List.length_map];omega) (by rw[List.length_map];omega) (by have:=hh.out.2.2.size;simp;omega) ?_;intro v1 w1 ho1 hb1;have HO:=hid ho1;have HB1:=hid hb1;clear ho1 hb1)
   go_ret
   obtain⟨b,hb,hr⟩:=RowAt.of_owns HO.out
   exact⟨b,v1,rfl,hb,by rw[HE.out,map_snoc _ _ _ HX.out];exact hr,(hh.out.2.2.alloc hh.out.2.2.size _).trans HB1.out⟩

theorem RowAt.two {w:World} {b:Nat} {v x0 x1:Value} (h:RowAt w b v [x0,x1]):∃ o cap,v=.slice (some ⟨b,o,none⟩) 2 cap∧2≤cap∧cap≤maxLen∧b<w.heap.size∧w.cell? ⟨b,o,none⟩=some x0∧w.cell? ⟨b,o+1,none⟩=some x1:=by
 obtain⟨a,cap,h1,h2,h3,h4|⟨o,h5,h6,h7⟩⟩:=h
 ·cases h4
 ·exact⟨o,cap,by rw[h1,h5];rfl,h2,h3,h6,(h7 0 (by simp)).1,(h7 1 (by simp)).1⟩
theorem RowAt.three {w:World} {b:Nat} {v x0 x1 x2:Value} (h:RowAt w b v [x0,x1,x2]):∃ o cap,v=.slice (some ⟨b,o,none⟩) 3 cap∧3≤cap∧cap≤maxLen∧b<w.heap.size∧w.cell? ⟨b,o,none⟩=some x0∧w.cell? ⟨b,o+1,none⟩=some x1∧w.cell? ⟨b,o+2,none⟩=some x2:=by
 obtain⟨a,cap,h1,h2,h3,h4|⟨o,h5,h6,h7⟩⟩:=h
 ·cases h4
 ·exact⟨o,cap,by rw[h1,h5];rfl,h2,h3,h6,(h7 0 (by simp)).1,(h7 1 (by simp)).1,(h7 2 (by simp)).1⟩
theorem RowAt.first {w:World} {b n:Nat} {v x0:Value} {xs:List Value} (h:RowAt w b v (x0::xs)) (hn:(x0::xs).length=n):∃ o cap,v=.slice (some ⟨b,o,none⟩) n cap∧1≤n∧n≤cap∧cap≤maxLen∧b<w.heap.size∧w.cell? ⟨b,o,none⟩=some x0:=by
 obtain⟨a,cap,h1,h2,h3,h4|⟨o,h5,h6,h7⟩⟩:=h
 ·cases h4
 ·rw[hn] at h1 h2
  exact⟨o,cap,by rw[h1,h5],by rw[← hn];simp,h2,h3,h6,(h7 0 (by simp)).1⟩
theorem RowAt.len {w:World} {b n:Nat} {v:Value} {xs:List Value} (h:RowAt w b v xs) (hn:xs.length=n):∃ a cap,v=.slice a n cap:=by
 obtain⟨a,cap,h1,_⟩:=h
 exact⟨a,cap,by rw[h1,hn]⟩
def fdS (sort:UInt8) (f:Wf.Fd):List Value:=[.int .i64 f.tag,tx f.name,tx (if sort=69 then [] else f.kind.text),tx f.given]
def CutOut (w:World) (ps:List (List UInt8)) (e:Ending) (w':World):Prop:=∃ b v,e=.returned v∧w.heap.size≤b∧RowAt w' b v (ps.map tx)∧Below w.heap.size w w'
set_option maxRecDepth 20000 in
set_option maxHeartbeats 1000000 in
theorem rf_len (s:ByteArray) (sort:Nat) (n:Nat) (ps:List (List UInt8)) (hn:ps.length=n) (g:((n:Int) != 3)=true∧((sort:Int) != 69)=true∨((n:Int) != 2)=true∧sort=69) (w:World) (hcut:∀ w,Calls Tryz.prog 101 #[.string s, .int .u8 58] w fun e w'=>CutOut w ps e w') :
  Calls Tryz.prog 146 #[.string s, .int .u8 sort] w fun e w'=>e=.returned (.tuple #[.agg #[.int .i64 0,tx [],tx [],tx []], .bool false])∧Below w.heap.size w w':=by
 have HC:=hid hcut
 have HN:=hid (show(ps.map tx).length=n by rw[List.length_map];exact hn)
 clear hcut hn
 rcases g with⟨g1,g2⟩|⟨g1,rfl⟩
 ·cases g3:((n:Int) != 2)
  all_goals
   go_enter Tryz.func146,Tryz.ntmps146
   go_wp2_with (go_at_call 101;refine(HC.out _).mono ?_;rintro e w1 ⟨b1,v1,rfl,hb1,hr1,hB1⟩;obtain⟨a1,c1,rfl⟩:=hr1.len HN.out;have B1:Below w.heap.size w w1:=below_join ((Below.refl _ _).alloc (Nat.le_refl _) _) hB1;obtain⟨hc1,hc2⟩:=bcell hB1;have hz:w.heap.size<w1.heap.size:=(by have:=hB1.size;simp at this;omega);clear hr1)
   exact bodyPost_ret (v:=.tuple #[.agg #[.int .i64 0,tx [],tx [],tx []], .bool false]) (by simp[results,Tryz.results146,go_sem,hc1]) rfl ⟨rfl,(by repeat (first|exact B1|refine Below.alloc ?_ (by first|(simp;done)|(simp;omega)|omega) _|refine Below.setCell ?_ (by first|(simp;done)|(simp;omega)|omega) _|refine Below.drew ?_))⟩
 ·cases g3:((n:Int) != 3)
  all_goals
   go_enter Tryz.func146,Tryz.ntmps146
   go_wp2_with (go_at_call 101;refine(HC.out _).mono ?_;rintro e w1 ⟨b1,v1,rfl,hb1,hr1,hB1⟩;obtain⟨a1,c1,rfl⟩:=hr1.len HN.out;have B1:Below w.heap.size w w1:=below_join ((Below.refl _ _).alloc (Nat.le_refl _) _) hB1;obtain⟨hc1,hc2⟩:=bcell hB1;have hz:w.heap.size<w1.heap.size:=(by have:=hB1.size;simp at this;omega);clear hr1)
   exact bodyPost_ret (v:=.tuple #[.agg #[.int .i64 0,tx [],tx [],tx []], .bool false]) (by simp[results,Tryz.results146,go_sem,hc1]) rfl ⟨rfl,(by repeat (first|exact B1|refine Below.alloc ?_ (by first|(simp;done)|(simp;omega)|omega) _|refine Below.setCell ?_ (by first|(simp;done)|(simp;omega)|omega) _|refine Below.drew ?_))⟩
end Go.Proofs.YtmdacedmjbiekaaGreatDoor
