/- Packed by pack.py: Ja Jb. -/
import Derived.Test.YtmdacedmjbiekaaGreatDoorR27
import Derived.Test.YtmdacedmjbiekaaGreatDoorR29
namespace Go.Proofs.YtmdacedmjbiekaaGreatDoor
open Go.ChangeShapes Go.WideShapes Go.ChangeAt Go.RowKit Go.Lib
set_option linter.unusedVariables false
set_option linter.unusedSimpArgs false
def signN:Wf.K→Nat
 | .list _=>91
 | .opt _=>63
 | _=>0
set_option maxRecDepth 20000 in
theorem sign_w (SG BS NM:ByteArray) (q:Nat) (h:(SG.toList.isEmpty=true∧q=0)∨(SG.toList.isEmpty=false∧0<SG.size∧∀ h,(SG[0]'h).toNat=q)) (w:World):Calls Tryz.prog 122 #[.agg #[.string SG, .string BS, .string NM]] w fun e w'=>e=.returned (.int .u8 q)∧Below w.heap.size w w':=by
 rcases h with⟨h1,rfl⟩|⟨h1,h0,h2⟩
 ·go_enter Tryz.func122,Tryz.ntmps122
  go_wp2_with fail
  go_ret
  exact⟨rfl,(Below.refl _ _).alloc (Nat.le_refl _) _⟩
 ·have h3:=h2 h0
  clear h2
  go_enter Tryz.func122,Tryz.ntmps122
  go_wp2_with fail
  go_ret
  exact⟨by simp[h3],(Below.refl _ _).alloc (Nat.le_refl _) _⟩
theorem sign (k:Wf.K) (w:World):Calls Tryz.prog 122 #[kV k] w fun e w'=>e=.returned (.int .u8 (signN k))∧Below w.heap.size w w':=by
 refine sign_w _ _ _ _ ?_ w
 cases k with
 | list k=>exact .inr ⟨by rw[ByteArray.toList_eq];rfl,(get0 (s:=⟨(Wf.K.list k).signs.toArray⟩) (c:=91) (r:=k.signs) rfl)⟩
 | opt k=>exact .inr ⟨by rw[ByteArray.toList_eq];rfl,(get0 (s:=⟨(Wf.K.opt k).signs.toArray⟩) (c:=63) (r:=k.signs) rfl)⟩
 | _=>exact .inl ⟨by rw[ByteArray.toList_eq];rfl,rfl⟩

def FdAt (w:World) (fb o:Nat) (sort:UInt8) (f:Wf.Fd):Prop:=fb<w.heap.size∧∀ j u,(fdC sort f)[j]? = some u→w.cell? ⟨fb,o+j,none⟩=some u
theorem FdAt.below {w w':World} {fb o:Nat} {sort:UInt8} {f:Wf.Fd} (h:FdAt w fb o sort f) (hb:Below w.heap.size w w'):FdAt w' fb o sort f:=⟨Nat.lt_of_lt_of_le h.1 hb.size,fun j u hu=>(hb.cell (p:=⟨fb,o+j,none⟩) h.1).trans (h.2 j u hu)⟩
theorem TyL.row {w:World} {lo b:Nat} {t:Wf.Ty} (h:TyL w lo b t):∃ fb a c,b<w.heap.size∧w.cell? ⟨b,2,none⟩=some (.slice a t.fields.length c)∧t.fields.length≤c∧c≤maxLen∧∀ i (hi:i<t.fields.length),∃ o,a=some ⟨fb,o,none⟩∧FdAt w fb (o+i * 6) t.sort t.fields[i]:=by
 obtain⟨fb,a,c,line,_,_,hb,_,_,c2,_,hr⟩:=h
 have hl:t.fields.length≤c∧c≤maxLen:=by
  obtain⟨a',cap',e1,e2,e3,_⟩:=hr
  simp only[Value.slice.injEq] at e1
  rw[List.length_map] at e2
  omega
 refine⟨fb,a,c,hb,c2,hl.1,hl.2,fun i hi => ?_⟩
 obtain⟨o,ha,hfb,_,_,hcell⟩:=hr.get (i:=i) (by rw[List.length_map];exact hi)
 have e0:(t.fields.map (fdC t.sort))[i]'(by rw[List.length_map];exact hi)=fdC t.sort t.fields[i]:=by rw[List.getElem_map]
 rw[e0] at hcell
 refine⟨o,ha,hfb,fun j u hu=>hcell j u ?_ hu⟩
 have:=(List.getElem?_eq_some_iff.1 hu).1
 rw[fdC_len] at this
 exact this
def FieldOut (W:World) (t:Wf.Ty) (g:Int) (e:Ending):Prop:=match fieldI t g with
 | some f=>∃ fb o,e=.returned (.pointer (some ⟨fb,o,none⟩))∧FdAt W fb o t.sort f
 | none=>e=.returned (.pointer none)
set_option maxRecDepth 20000 in
set_option maxHeartbeats 1000000 in
theorem field (t:Wf.Ty) (ht:t.fields.length≤1000) (g:Int) (lo tb:Nat) (W w:World) (hW:Below W.heap.size W w) (hT:TyL W lo tb t):Calls Tryz.prog 46 #[ptr tb, .int .i64 g] w fun e w'=>FieldOut W t g e∧w=w':=by
 obtain⟨fb,a,c,hb,c2,hnc,hcm,hrow⟩:=hT.row
 have HROW:=hid hrow
 obtain⟨n,hn⟩:∃ n,t.fields.length=n:=⟨_,rfl⟩
 have HN:=hid hn
 rw[hn] at ht c2 hnc
 have y2:=(hW.cell (p:=⟨tb,2,none⟩) hb).trans c2
 have HW:=hid hW
 clear hrow hn c2 hT
 go_enter Tryz.func46,Tryz.ntmps46
 go_wp2_with fail
 go_loop [11] (fun v=>∃ k:Nat,k≤n∧v=.int .i64 k∧Hid (∀ j (hj:j<t.fields.length),j<k→((t.fields[j]).tag:Int)≠g)) (fun v=>n-(RowKit.intOf v).toNat)
 case atStart=>exact⟨0,Nat.zero_le _,rfl,hid fun j hj h=>by omega⟩
 case round =>
  obtain⟨k,hk,rfl,hno⟩:=hrel
  by_cases hlt:k<n
  ·have hkx:k<t.fields.length:=by rw[HN.out];exact hlt
   obtain⟨o,rfl,hfd⟩:=HROW.out k hkx
   have HFD:=hid hfd
   have e0:(fdC t.sort t.fields[k])[0]? = some (.int .i64 (t.fields[k]).tag):=by
    obtain⟨_,_,_,_,h⟩:=fdC_form t.sort t.fields[k]
    rw[h];rfl
   have z0:w.cell? ⟨fb,o+k * 6,none⟩=some (.int .i64 (t.fields[k]).tag):=(HW.out.cell (p:=⟨fb,o+k * 6,none⟩) hfd.1).trans (hfd.2 0 _ e0)
   obtain⟨G,hG⟩:∃ G,(t.fields[k]).tag=G:=⟨_,rfl⟩
   rw[hG] at z0
   have HG:=hid hG
   clear hfd e0 hG
   cases hq:((G:Int)==g) with
   | true =>
    have HF:=hid (show fieldI t g=some t.fields[k] from fieldI_at hkx hno.out (by rw[HG.out];simpa using hq))
    have hge:(G:Int)=g:=by simpa using hq
    subst hge
    clear hq
    go_wp2_with fail
    go_ret
    exact⟨by unfold FieldOut;rw[HF.out];exact⟨fb,o+k * 6,rfl,HFD.out⟩,rfl⟩
   | false =>
    have hne:Hid ((G:Int)≠g):=hid (by simpa using hq)
    go_wp2_with fail
    go_round
    case rel=>exact⟨k+1,by omega,by go_num,hid fun j hj hjk=>by
     by_cases hj2:j=k
     ·subst hj2;rw[HG.out];exact hne.out
     ·exact hno.out j hj (by omega)⟩
    case measure=>simp[RowKit.intOf];omega
  ·have hkn:k=n:=by omega
   subst hkn
   have HF:=hid (show fieldI t g=none from fieldI_not fun j hj=>hno.out j hj (by rw[← HN.out];exact hj))
   go_wp2_with fail
   go_ret
   exact⟨by unfold FieldOut;rw[HF.out];rfl,rfl⟩
end Go.Proofs.YtmdacedmjbiekaaGreatDoor
