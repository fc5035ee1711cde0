/- Packed by pack.py: Vp Iu. -/
import Derived.Test.YtmdacedmjbiekaaGreatDoorQ5
import Derived.Test.YtmdacedmjbiekaaGreatDoorQ9
import Derived.Test.YtmdacedmjbiekaaGreatDoorQ21
namespace Go.Proofs.YtmdacedmjbiekaaGreatDoor
open Go.ChangeShapes Go.WideShapes Go.ChangeAt Go.RowKit Go.Lib
set_option linter.unusedVariables false
set_option linter.unusedSimpArgs false
theorem join_commas (l:List (List UInt8)):Lib.join l [44]=Wf.commas l:=by
 unfold Lib.join
 induction l with
 | nil=>rfl
 | cons a l ih =>
  cases l with
  | nil=>simp[List.intercalate,Wf.commas]
  | cons b l =>
   rw[Wf.commas,← ih]
   simp[List.intercalate,List.intersperse]
theorem join_row (ps:List (List UInt8)) (b:Nat) (v:Value) (w:World) (H:RowAt w b v (ps.map tx)) (hn:ps.length≤2000000) (hl:(Wf.commas ps).length≤2000000):Calls Tryz.prog 93 #[v,tx [44]] w fun e w'=>e=.returned (tx (Wf.commas ps))∧Below w.heap.size w w':=by
 obtain⟨a,c,rfl,h1,h2,h3|⟨o,rfl,h4,h5⟩⟩:=H
 ·have h0:ps=[]:=List.map_eq_nil_iff.1 h3
  subst h0
  exact(Tryz.strings_Join_none a c ⟨#[44]⟩ w).mono fun e w' ⟨he,hw⟩=>⟨he,hw ▸ Below.refl _ _⟩
 ·rw[List.length_map] at h1 ⊢
  have hx:(List.map (fun x:ByteArray=>x.data.toList) (ps.map fun p=>(⟨p.toArray⟩:ByteArray)))=ps:=by
   rw[List.map_map]
   conv=>rhs;rw[← List.map_id ps]
   congr 1
  have:=Tryz.strings_Join b o c (ps.map fun p=>(⟨p.toArray⟩:ByteArray)) ⟨#[44]⟩ w (fun j x hj=>by
   obtain⟨hjl,hje⟩:=List.getElem?_eq_some_iff.1 hj
   rw[List.length_map] at hjl
   have:=(h5 j (by rw[List.length_map];exact hjl)).1
   rw[List.getElem_map] at this hje
   rw[this,← hje]) h4 (by rw[List.length_map];omega) (by rw[List.length_map];exact h1) (by rw[hx,join_commas];omega)
  rw[List.length_map,hx,join_commas] at this
  exact this
theorem print_kid {what:UInt8} {text:List UInt8} {tag:Nat} {kids:List Wf.V} (h:hasParts what):(Wf.commas (kids.map Wf.V.print)).length≤(Wf.V.mk what text tag kids).print.length:=by
 simp only[Wf.V.print,Wf.V.prints_map]
 unfold Wf.form
 rcases h with rfl|rfl|rfl|rfl|rfl
 ·simp;omega
 ·simp only[show ¬ ((63:UInt8)=116) by decide,show ¬ ((63:UInt8)=91) by decide,if_false,if_true]
  split
  ·rename_i h0;rw[h0];simp[Wf.commas]
  ·simp
 ·simp;omega
 ·simp;omega
 ·simp;omega
theorem kids_count (l:List Wf.V):l.length≤(Wf.commas (l.map Wf.V.print)).length+1:=by
 by_cases h:l=[]
 ·rw[h];simp
 ·have:=Wf.commas_length (l.map Wf.V.print) (by simpa using h)
  rw[List.length_map] at this
  omega
theorem kid_le {l:List Wf.V} {k:Wf.V} (h:k∈l):k.print.length≤(Wf.commas (l.map Wf.V.print)).length:=Wf.commas_mem (List.mem_map.2 ⟨k,h,rfl⟩)
theorem form_cases (what:UInt8) (q:Nat) (hq:what.toNat=q) (text:List UInt8) (tag:Nat) (kids:List Wf.V) :
  (q=116∧(Wf.V.mk what text tag kids).print=39::(text++[39]))∨(q=91∧(Wf.V.mk what text tag kids).print=91::(Wf.commas (kids.map Wf.V.print)++[93])) ∨
  (q=63∧kids=[]∧(Wf.V.mk what text tag kids).print=[45])∨(q=63∧kids≠[]∧(Wf.V.mk what text tag kids).print=43::Wf.commas (kids.map Wf.V.print)) ∨
  (q=61∧(Wf.V.mk what text tag kids).print=Wf.dec tag++61::Wf.commas (kids.map Wf.V.print))∨(q=82∧(Wf.V.mk what text tag kids).print=123::(Wf.commas (kids.map Wf.V.print)++[125])) ∨
  (q=85∧(Wf.V.mk what text tag kids).print=60::(Wf.dec tag++61::(Wf.commas (kids.map Wf.V.print)++[62])))∨(q=69∧(Wf.V.mk what text tag kids).print=35::Wf.dec tag) ∨
  ((q≠116∧q≠91∧q≠63∧q≠61∧q≠82∧q≠85∧q≠69)∧(Wf.V.mk what text tag kids).print=text):=by
 subst hq
 simp only[Wf.V.print,Wf.V.prints_map]
 have e:∀ n:UInt8,what.toNat=n.toNat→what=n:=fun n h=>UInt8.toNat_inj.1 h
 have d:∀ n:UInt8,what≠n→what.toNat≠n.toNat:=fun n h h2=>h (e n h2)
 by_cases h1:what=116
 ·subst h1;exact .inl ⟨rfl,rfl⟩
 by_cases h2:what=91
 ·subst h2;exact .inr (.inl ⟨rfl,rfl⟩)
 by_cases h3:what=63
 ·subst h3
  by_cases h0:kids=[]
  ·subst h0;exact .inr (.inr (.inl ⟨rfl,rfl,rfl⟩))
  ·refine .inr (.inr (.inr (.inl ⟨rfl,h0, ?_⟩)))
   unfold Wf.form
   rw[if_neg (by decide),if_neg (by decide),if_pos rfl,if_neg (by simpa using h0)]
 by_cases h4:what=61
 ·subst h4;exact .inr (.inr (.inr (.inr (.inl ⟨rfl,rfl⟩))))
 by_cases h5:what=82
 ·subst h5;exact .inr (.inr (.inr (.inr (.inr (.inl ⟨rfl,rfl⟩)))))
 by_cases h6:what=85
 ·subst h6;exact .inr (.inr (.inr (.inr (.inr (.inr (.inl ⟨rfl,rfl⟩))))))
 by_cases h7:what=69
 ·subst h7;exact .inr (.inr (.inr (.inr (.inr (.inr (.inr (.inl ⟨rfl,rfl⟩)))))))
 refine .inr (.inr (.inr (.inr (.inr (.inr (.inr (.inr ⟨⟨d 116 h1,d 91 h2,d 63 h3,d 61 h4,d 82 h5,d 85 h6,d 69 h7⟩, ?_⟩)))))))
 unfold Wf.form
 rw[if_neg h1,if_neg h2,if_neg h3,if_neg h4,if_neg h5,if_neg h6,if_neg h7]
set_option maxRecDepth 20000 in
set_option maxHeartbeats 2000000 in
theorem print (v:Wf.V):∀ (P:Nat→Prop) (cs:List Value) (W w:World),VC W P v cs→Below W.heap.size W w→v.print.length≤1000000→Calls Tryz.prog 62 #[.agg cs.toArray] w fun e w'=>e=.returned (tx v.print)∧Below w.heap.size w w':=by
 refine Wf.V.induct (P:=fun v=>∀ (P:Nat→Prop) (cs:List Value) (W w:World),VC W P v cs→Below W.heap.size W w→v.print.length≤1000000→Calls Tryz.prog 62 #[.agg cs.toArray] w fun e w'=>e=.returned (tx v.print)∧Below w.heap.size w w') ?_ v
 intro what text tag kids ih P cs W w HV hW hlen
 obtain⟨a,c,rfl,hnc,hcm,hsh,hk⟩:=HV.form
 simp only[Wf.V.what,Wf.V.text,Wf.V.tag,Wf.V.kids] at *
 have hcl:(Wf.commas (kids.map Wf.V.print)).length≤1000000:=by
  by_cases h0:kids=[]
  ·rw[h0];simp[Wf.commas]
  ·have:=print_kid (text:=text) (tag:=tag) (kids:=kids) (hsh.parts h0);omega
 have hkc:=kids_count kids
 obtain⟨n,hn⟩:∃ n,kids.length=n:=⟨_,rfl⟩
 obtain⟨q,hq⟩:∃ q,what.toNat=q:=⟨_,rfl⟩
 have HN:=hid hn
 have HFC:=hid (form_cases what q hq text tag kids)
 rw[hn] at hnc hkc
 have hn6:n≤1000001:=by omega
 have HIH:=hid ih
 have HK:=hid hk
 have HW:=hid hW
 have HCL:=hid hcl
 obtain⟨T,hT⟩:∃ T:ByteArray,(⟨text.toArray⟩:ByteArray)=T:=⟨_,rfl⟩
 have HT:=hid hT
 have htag:=hsh.tag
 have HD:=hid fun wz=>decimal tag tag wz (Nat.le_refl _) htag
 obtain⟨D,hD⟩:∃ D:ByteArray,(⟨(Wf.dec tag).toArray⟩:ByteArray)=D:=⟨_,rfl⟩
 have HDD:=hid hD
 have hds:D.size≤6:=by rw[← hD,← size_list];exact Wf.dec_len6 htag
 simp only[tx,hD] at HD
 have HLEN:=hid hlen
 simp only[tx,hT,hq,hn]
 clear ih hk hW hcl hsh HV hT hD hlen hq hn
 go_enter Tryz.func62,Tryz.ntmps62
 go_wp2_with fail
 go_loopw [3,10] (fun s3 s10 wr=>∃ (i:Nat),s10=.int .i64 i∧i≤n∧Hid (wr.ownsRow (w.heap.size+1) 9 1 s3 (((kids.take i).map Wf.V.print).map tx).length (((kids.take i).map Wf.V.print).map tx)∧Below (w.heap.size+1) (w.alloc (.cells #[.int .u8 q, .string T, .int .i64 tag, .slice a n c] 92)) wr)) (fun _ s10 _=>n-(RowKit.intOf s10).toNat)
 case atStart=>exact⟨0,rfl,Nat.zero_le _,hid ⟨World.ownsRow_nil _ _ _ _,Below.refl _ _⟩⟩
 case round =>
  obtain⟨i,rfl,hi,hh⟩:=hrel
  have BWr:Below w.heap.size w wr:=((Below.refl _ _).alloc (Nat.le_refl _) _).trans (hh.out.2.mono (by omega))
  have BW:=hid (HW.out.trans (BWr.mono HW.out.size))
  have HBW:=hid BWr
  clear BWr
  by_cases hlt:i<n
  ·have hik:i<kids.length:=by rw[HN.out];exact hlt
   rcases HK.out with h0|⟨b,o,rfl,hPb,hbW,hvs⟩
   ·rw[h0] at hik;simp at hik
   obtain⟨cs',hvc,hcell⟩:=hvs.get i hik
   obtain⟨a',c',rfl,hnc',hcm',hsh',hk'⟩:=hvc.form
   have HI:=hid fun wz (hz:Below W.heap.size W wz)=>HIH.out kids[i] (List.getElem_mem hik) P _ W wz hvc hz (Nat.le_trans (kid_le (List.getElem_mem hik)) HCL.out)
   have k0:=(BW.out.cell (p:=⟨b,o+i * 4+0,none⟩) hbW).trans (hcell 0 _ rfl)
   have k1:=(BW.out.cell (p:=⟨b,o+i * 4+1,none⟩) hbW).trans (hcell 1 _ rfl)
   have k2:=(BW.out.cell (p:=⟨b,o+i * 4+2,none⟩) hbW).trans (hcell 2 _ rfl)
   have k3:=(BW.out.cell (p:=⟨b,o+i * 4+3,none⟩) hbW).trans (hcell 3 _ rfl)
   rw[Nat.add_zero] at k0
   obtain⟨q',hq'⟩:∃ q',(kids[i]).what.toNat=q':=⟨_,rfl⟩
   obtain⟨T',hT'⟩:∃ T':ByteArray,(⟨(kids[i]).text.toArray⟩:ByteArray)=T':=⟨_,rfl⟩
   obtain⟨g',hg'⟩:∃ g',(kids[i]).tag=g':=⟨_,rfl⟩
   obtain⟨n',hn'⟩:∃ n',(kids[i]).kids.length=n':=⟨_,rfl⟩
   obtain⟨PR,hPR⟩:∃ PR:ByteArray,(⟨(kids[i]).print.toArray⟩:ByteArray)=PR:=⟨_,rfl⟩
   simp only[tx,hq',hT',hg',hn',hPR] at HI k0 k1 k2 k3
   have HPR:=hid hPR
   have hbr:b<wr.heap.size:=Nat.lt_of_lt_of_le hbW BW.out.size
   clear hvc hcell hvs hk' hsh' hcm' hnc' hq' hT' hg' hn' hPR
   have hm:((kids.take (i+1)).map Wf.V.print).map tx=((kids.take i).map Wf.V.print).map tx++[.string PR]:=by
    have e:kids.take (i+1)=kids.take i++[kids[i]]:=by rw[List.take_add_one,List.getElem?_eq_getElem hik];rfl
    rw[e,List.map_append,List.map_append,← HPR.out]
    rfl
   have HM:=hid hm
   have hlen:(((kids.take i).map Wf.V.print).map tx).length=i:=by
    rw[List.length_map,List.length_map,List.length_take];omega
   have HLN:=hid hlen
   clear hm hlen
   go_wp2_with (first|(at_builtin;refine wpList_append_cell _ rfl (.tmp 14) (.tmp 17) 22 rfl (w.heap.size+1) 9 (.string ⟨#[]⟩) 16 Tryz.underlying22 info_tx rfl _ (((kids.take i).map Wf.V.print).map tx) rfl ((owns_below hh.out.1 B2.out).alloc _) ⟨w2.heap.size,0,none⟩ (.string PR) rfl (by simp) rfl (by rw[HLN.out];omega) (by rw[HLN.out];omega) (by have:=B2.out.size;have h1:=hh.out.2.size;simp at h1 ⊢;omega) ?_;intro v1 w3 ho1 hb3;have HO:=hid ho1;have HB3:=hid hb3;clear ho1 hb3)|(go_at_call 62;refine(HI.out _ (BW.out.trans (((Below.refl _ _).alloc (Nat.le_refl _) _).mono BW.out.size))).mono ?_;rintro e w2 ⟨rfl,hb2⟩;have B2:=hid (below_join ((Below.refl wr.heap.size wr).alloc (Nat.le_refl _) _) hb2);clear hb2))
   go_roundw
   case rel=>exact⟨i+1,by go_num,by omega,hid ⟨by rw[HM.out];exact HO.out,(hh.out.2.trans (B2.out.mono (by have h1:=hh.out.2.size;simpa using h1))).trans ((Below.alloc (Below.refl _ _) (by have h1:=hh.out.2.size;have:=B2.out.size;simp at h1;omega) _).trans HB3.out)⟩⟩
   case measure=>simp[RowKit.intOf];omega
  ·have hin:i=n:=by omega
   subst hin
   obtain⟨pb,hpb,hrow⟩:=RowAt.of_owns hh.out.1
   have htk:kids.take i=kids:=List.take_of_length_le (by rw[HN.out];exact Nat.le_refl _)
   rw[htk] at hrow
   have HJ:=hid fun wz (hz:RowAt wz pb u3 ((kids.map Wf.V.print).map tx))=>join_row (kids.map Wf.V.print) pb u3 wz hz (by rw[List.length_map,HN.out];omega) (Nat.le_trans HCL.out (by omega))
   have HROW:=hid hrow
   obtain⟨C,hC⟩:∃ C:ByteArray,(⟨(Wf.commas (kids.map Wf.V.print)).toArray⟩:ByteArray)=C:=⟨_,rfl⟩
   have hCs:C.size≤1000000:=by rw[← hC,← size_list];exact HCL.out
   have HCC:=hid hC
   simp only[tx,hC] at HJ
   have e0:=hh.out.2
   have z0:wr.cell? ⟨w.heap.size,0,none⟩=some (.int .u8 q):=(e0.cell (p:=⟨w.heap.size,0,none⟩) (Nat.lt_succ_self _)).trans (by simp)
   have z1:wr.cell? ⟨w.heap.size,1,none⟩=some (.string T):=(e0.cell (p:=⟨w.heap.size,1,none⟩) (Nat.lt_succ_self _)).trans (by simp)
   have z2:wr.cell? ⟨w.heap.size,2,none⟩=some (.int .i64 tag):=(e0.cell (p:=⟨w.heap.size,2,none⟩) (Nat.lt_succ_self _)).trans (by simp)
   have z3:wr.cell? ⟨w.heap.size,3,none⟩=some (.slice a i c):=(e0.cell (p:=⟨w.heap.size,3,none⟩) (Nat.lt_succ_self _)).trans (by simp)
   have hlt2:w.heap.size<wr.heap.size:=by have h1:=e0.size;simp at h1;omega
   clear e0 hrow htk hC hpb
   have c39:(⟨#[39]⟩:ByteArray).size=1:=rfl
   have c91:(⟨#[91]⟩:ByteArray).size=1:=rfl
   have c93:(⟨#[93]⟩:ByteArray).size=1:=rfl
   have c43:(⟨#[43]⟩:ByteArray).size=1:=rfl
   have c61:(⟨#[61]⟩:ByteArray).size=1:=rfl
   have c123:(⟨#[123]⟩:ByteArray).size=1:=rfl
   have c125:(⟨#[125]⟩:ByteArray).size=1:=rfl
   have c60:(⟨#[60]⟩:ByteArray).size=1:=rfl
   have c62:(⟨#[62]⟩:ByteArray).size=1:=rfl
   have c35:(⟨#[35]⟩:ByteArray).size=1:=rfl
   have hTs:q=116→T.size≤1000000:=fun h=>by
    have h1:=HLEN.out
    rcases HFC.out with⟨_,hp⟩|⟨h2,_⟩|⟨h2,_⟩|⟨h2,_⟩|⟨h2,_⟩|⟨h2,_⟩|⟨h2,_⟩|⟨h2,_⟩|⟨h2,_⟩
    ·rw[hp] at h1
     simp only[List.length_cons,List.length_append,List.length_nil] at h1
     rw[← HT.out,← size_list]
     show text.length≤_
     omega
    all_goals omega
   rcases HFC.out with⟨rfl,hp⟩|⟨rfl,hp⟩|⟨rfl,h0,hp⟩|⟨rfl,h0,hp⟩|⟨rfl,hp⟩|⟨rfl,hp⟩|⟨rfl,hp⟩|⟨rfl,hp⟩|⟨⟨n1,n2,n3,n4,n5,n6,n7⟩,hp⟩
   all_goals have HP:=hid hp
   all_goals clear hp HFC
   ·have hT6:=hTs rfl
    clear hTs
    go_wp2_with (first|(go_at_call 94;refine(HD.out _).mono ?_;rintro e w3 ⟨rfl,hb3⟩;have B3:=hid (B2.out.trans (hb3.mono B2.out.size));clear hb3)|(go_at_call 93;refine(HJ.out _ HROW.out).mono ?_;rintro e w2 ⟨rfl,hb2⟩;have HB2:=hid hb2;have B2:=hid (HBW.out.trans (hb2.mono HBW.out.size));have y0:=(hb2.cell (p:=⟨w.heap.size,0,none⟩) hlt2).trans z0;have y1:=(hb2.cell (p:=⟨w.heap.size,1,none⟩) hlt2).trans z1;have y2:=(hb2.cell (p:=⟨w.heap.size,2,none⟩) hlt2).trans z2;have y3:=(hb2.cell (p:=⟨w.heap.size,3,none⟩) hlt2).trans z3;clear hb2))
    go_ret
    exact⟨ret_str (by rw[HP.out,← HT.out,eq_list];simp),B2.out⟩
   ·clear hTs
    go_wp2_with (first|(go_at_call 94;refine(HD.out _).mono ?_;rintro e w3 ⟨rfl,hb3⟩;have B3:=hid (B2.out.trans (hb3.mono B2.out.size));clear hb3)|(go_at_call 93;refine(HJ.out _ HROW.out).mono ?_;rintro e w2 ⟨rfl,hb2⟩;have HB2:=hid hb2;have B2:=hid (HBW.out.trans (hb2.mono HBW.out.size));have y0:=(hb2.cell (p:=⟨w.heap.size,0,none⟩) hlt2).trans z0;have y1:=(hb2.cell (p:=⟨w.heap.size,1,none⟩) hlt2).trans z1;have y2:=(hb2.cell (p:=⟨w.heap.size,2,none⟩) hlt2).trans z2;have y3:=(hb2.cell (p:=⟨w.heap.size,3,none⟩) hlt2).trans z3;clear hb2))
    go_ret
    exact⟨ret_str (by rw[HP.out,← HCC.out,eq_list];simp),B2.out⟩
   ·have hi0:i=0:=by rw[← HN.out,h0];rfl
    subst hi0
    clear hTs h0
    go_wp2_with (first|(go_at_call 94;refine(HD.out _).mono ?_;rintro e w3 ⟨rfl,hb3⟩;have B3:=hid (B2.out.trans (hb3.mono B2.out.size));clear hb3)|(go_at_call 93;refine(HJ.out _ HROW.out).mono ?_;rintro e w2 ⟨rfl,hb2⟩;have HB2:=hid hb2;have B2:=hid (HBW.out.trans (hb2.mono HBW.out.size));have y0:=(hb2.cell (p:=⟨w.heap.size,0,none⟩) hlt2).trans z0;have y1:=(hb2.cell (p:=⟨w.heap.size,1,none⟩) hlt2).trans z1;have y2:=(hb2.cell (p:=⟨w.heap.size,2,none⟩) hlt2).trans z2;have y3:=(hb2.cell (p:=⟨w.heap.size,3,none⟩) hlt2).trans z3;clear hb2))
    go_ret
    exact⟨ret_str (by rw[HP.out]),B2.out⟩
   ·have hi0:0<i:=by rw[← HN.out];exact List.length_pos_iff.2 h0
    have hi1:((i:Int)==0)=false:=by rw[beq_eq_false_iff_ne];omega
    clear hTs h0
    go_wp2_with (first|(go_at_call 94;refine(HD.out _).mono ?_;rintro e w3 ⟨rfl,hb3⟩;have B3:=hid (B2.out.trans (hb3.mono B2.out.size));clear hb3)|(go_at_call 93;refine(HJ.out _ HROW.out).mono ?_;rintro e w2 ⟨rfl,hb2⟩;have HB2:=hid hb2;have B2:=hid (HBW.out.trans (hb2.mono HBW.out.size));have y0:=(hb2.cell (p:=⟨w.heap.size,0,none⟩) hlt2).trans z0;have y1:=(hb2.cell (p:=⟨w.heap.size,1,none⟩) hlt2).trans z1;have y2:=(hb2.cell (p:=⟨w.heap.size,2,none⟩) hlt2).trans z2;have y3:=(hb2.cell (p:=⟨w.heap.size,3,none⟩) hlt2).trans z3;clear hb2))
    go_ret
    exact⟨ret_str (by rw[HP.out,← HCC.out,eq_list];simp),B2.out⟩
   ·clear hTs
    go_wp2_with (first|(go_at_call 94;refine(HD.out _).mono ?_;rintro e w3 ⟨rfl,hb3⟩;have B3:=hid (B2.out.trans (hb3.mono B2.out.size));clear hb3)|(go_at_call 93;refine(HJ.out _ HROW.out).mono ?_;rintro e w2 ⟨rfl,hb2⟩;have HB2:=hid hb2;have B2:=hid (HBW.out.trans (hb2.mono HBW.out.size));have y0:=(hb2.cell (p:=⟨w.heap.size,0,none⟩) hlt2).trans z0;have y1:=(hb2.cell (p:=⟨w.heap.size,1,none⟩) hlt2).trans z1;have y2:=(hb2.cell (p:=⟨w.heap.size,2,none⟩) hlt2).trans z2;have y3:=(hb2.cell (p:=⟨w.heap.size,3,none⟩) hlt2).trans z3;clear hb2))
    go_ret
    exact⟨ret_str (by rw[HP.out,← HCC.out,← HDD.out,eq_list];simp),B3.out⟩
   ·clear hTs
    go_wp2_with (first|(go_at_call 94;refine(HD.out _).mono ?_;rintro e w3 ⟨rfl,hb3⟩;have B3:=hid (B2.out.trans (hb3.mono B2.out.size));clear hb3)|(go_at_call 93;refine(HJ.out _ HROW.out).mono ?_;rintro e w2 ⟨rfl,hb2⟩;have HB2:=hid hb2;have B2:=hid (HBW.out.trans (hb2.mono HBW.out.size));have y0:=(hb2.cell (p:=⟨w.heap.size,0,none⟩) hlt2).trans z0;have y1:=(hb2.cell (p:=⟨w.heap.size,1,none⟩) hlt2).trans z1;have y2:=(hb2.cell (p:=⟨w.heap.size,2,none⟩) hlt2).trans z2;have y3:=(hb2.cell (p:=⟨w.heap.size,3,none⟩) hlt2).trans z3;clear hb2))
    go_ret
    exact⟨ret_str (by rw[HP.out,← HCC.out,eq_list];simp),B2.out⟩
   ·clear hTs
    go_wp2_with (first|(go_at_call 94;refine(HD.out _).mono ?_;rintro e w3 ⟨rfl,hb3⟩;have B3:=hid (B2.out.trans (hb3.mono B2.out.size));clear hb3)|(go_at_call 93;refine(HJ.out _ HROW.out).mono ?_;rintro e w2 ⟨rfl,hb2⟩;have HB2:=hid hb2;have B2:=hid (HBW.out.trans (hb2.mono HBW.out.size));have y0:=(hb2.cell (p:=⟨w.heap.size,0,none⟩) hlt2).trans z0;have y1:=(hb2.cell (p:=⟨w.heap.size,1,none⟩) hlt2).trans z1;have y2:=(hb2.cell (p:=⟨w.heap.size,2,none⟩) hlt2).trans z2;have y3:=(hb2.cell (p:=⟨w.heap.size,3,none⟩) hlt2).trans z3;clear hb2))
    go_ret
    exact⟨ret_str (by rw[HP.out,← HCC.out,← HDD.out,eq_list];simp),B3.out⟩
   ·clear hTs
    go_wp2_with (first|(go_at_call 94;refine(HD.out _).mono ?_;rintro e w3 ⟨rfl,hb3⟩;have B3:=hid (B2.out.trans (hb3.mono B2.out.size));clear hb3)|(go_at_call 93;refine(HJ.out _ HROW.out).mono ?_;rintro e w2 ⟨rfl,hb2⟩;have HB2:=hid hb2;have B2:=hid (HBW.out.trans (hb2.mono HBW.out.size));have y0:=(hb2.cell (p:=⟨w.heap.size,0,none⟩) hlt2).trans z0;have y1:=(hb2.cell (p:=⟨w.heap.size,1,none⟩) hlt2).trans z1;have y2:=(hb2.cell (p:=⟨w.heap.size,2,none⟩) hlt2).trans z2;have y3:=(hb2.cell (p:=⟨w.heap.size,3,none⟩) hlt2).trans z3;clear hb2))
    go_ret
    exact⟨ret_str (by rw[HP.out,← HDD.out,eq_list];simp),B3.out⟩
   ·have m1:((q:Int)==116)=false:=by rw[beq_eq_false_iff_ne];omega
    have m2:((q:Int)==91)=false:=by rw[beq_eq_false_iff_ne];omega
    have m3:((q:Int)==63)=false:=by rw[beq_eq_false_iff_ne];omega
    have m4:((q:Int)==61)=false:=by rw[beq_eq_false_iff_ne];omega
    have m5:((q:Int)==82)=false:=by rw[beq_eq_false_iff_ne];omega
    have m6:((q:Int)==85)=false:=by rw[beq_eq_false_iff_ne];omega
    have m7:((q:Int)==69)=false:=by rw[beq_eq_false_iff_ne];omega
    clear hTs n1 n2 n3 n4 n5 n6 n7
    go_wp2_with (first|(go_at_call 94;refine(HD.out _).mono ?_;rintro e w3 ⟨rfl,hb3⟩;have B3:=hid (B2.out.trans (hb3.mono B2.out.size));clear hb3)|(go_at_call 93;refine(HJ.out _ HROW.out).mono ?_;rintro e w2 ⟨rfl,hb2⟩;have HB2:=hid hb2;have B2:=hid (HBW.out.trans (hb2.mono HBW.out.size));have y0:=(hb2.cell (p:=⟨w.heap.size,0,none⟩) hlt2).trans z0;have y1:=(hb2.cell (p:=⟨w.heap.size,1,none⟩) hlt2).trans z1;have y2:=(hb2.cell (p:=⟨w.heap.size,2,none⟩) hlt2).trans z2;have y3:=(hb2.cell (p:=⟨w.heap.size,3,none⟩) hlt2).trans z3;clear hb2))
    go_ret
    exact⟨ret_str (by rw[HP.out,← HT.out]),B2.out⟩
theorem deeps_snoc (l:List Wf.V) (v:Wf.V):Wf.V.deeps (l++[v])=max (Wf.V.deeps l) v.deep:=by
 induction l with
 | nil=>simp[Wf.V.deeps]
 | cons a l ih=>simp only[List.cons_append,Wf.V.deeps,ih];omega
theorem deeps_mem {l:List Wf.V} {v:Wf.V} (h:v∈l):v.deep≤Wf.V.deeps l:=Wf.V.deeps_le.1 (Nat.le_refl _) v h
set_option maxRecDepth 20000 in
set_option maxHeartbeats 2000000 in
theorem deep (v:Wf.V):∀ (P:Nat→Prop) (cs:List Value) (W w:World),VC W P v cs→Below W.heap.size W w→v.deep≤1000000→Calls Tryz.prog 56 #[.agg cs.toArray] w fun e w'=>e=.returned (.int .i64 v.deep)∧Below w.heap.size w w':=by
 refine Wf.V.induct (P:=fun v=>∀ (P:Nat→Prop) (cs:List Value) (W w:World),VC W P v cs→Below W.heap.size W w→v.deep≤1000000→Calls Tryz.prog 56 #[.agg cs.toArray] w fun e w'=>e=.returned (.int .i64 v.deep)∧Below w.heap.size w w') ?_ v
 intro what text tag kids ih P cs W w HV hW hdeep
 obtain⟨a,c,rfl,hnc,hcm,hsh,hk⟩:=HV.form
 simp only[Wf.V.what,Wf.V.text,Wf.V.tag,Wf.V.kids] at *
 have hkd:Wf.V.deeps kids≤1000000:=by
  by_cases h61:what=61
  ·subst h61;simpa[Wf.V.deep] using hdeep
  ·rw[Wf.deep_ne h61] at hdeep;omega
 obtain⟨n,hn⟩:∃ n,kids.length=n:=⟨_,rfl⟩
 obtain⟨q,hq⟩:∃ q,what.toNat=q:=⟨_,rfl⟩
 obtain⟨T,hT⟩:∃ T:ByteArray,(⟨text.toArray⟩:ByteArray)=T:=⟨_,rfl⟩
 have HIH:=hid ih
 have HK:=hid hk
 have HW:=hid hW
 have HKD:=hid hkd
 -- of the part at a place
 have KID:=hid fun(i:Nat) (hik:i<kids.length) (wr:World) (hwr:Below W.heap.size W wr)=>(show ∃ (b o q' n' c' g':Nat) (T':ByteArray) (a':Option Addr),a=some ⟨b,o,none⟩∧b<wr.heap.size∧wr.cell? ⟨b,o+i * 4,none⟩=some (.int .u8 q')∧wr.cell? ⟨b,o+i * 4+1,none⟩=some (.string T')∧wr.cell? ⟨b,o+i * 4+2,none⟩=some (.int .i64 g')∧wr.cell? ⟨b,o+i * 4+3,none⟩=some (.slice a' n' c')∧∀ wz,Below W.heap.size W wz→Calls Tryz.prog 56 #[.agg #[.int .u8 q', .string T', .int .i64 g', .slice a' n' c']] wz fun e w'=>e=.returned (.int .i64 (kids[i]).deep)∧Below wz.heap.size wz w' from by
  rcases HK.out with h0|⟨b,o,ha,hPb,hbW,hvs⟩
  ·rw[h0] at hik;simp at hik
  obtain⟨cs',hvc,hcell⟩:=hvs.get i hik
  obtain⟨a',c',rfl,hnc',hcm',hsh',hk'⟩:=hvc.form
  refine⟨b,o,_,_,_,_,_,a',ha,Nat.lt_of_lt_of_le hbW hwr.size, ?_, ?_, ?_, ?_,fun wz hz=>HIH.out kids[i] (List.getElem_mem hik) P _ W wz hvc hz (Nat.le_trans (deeps_mem (List.getElem_mem hik)) HKD.out)⟩
  ·exact(hwr.cell (p:=⟨b,o+i * 4,none⟩) hbW).trans (by have:=hcell 0 _ rfl;rwa[Nat.add_zero] at this)
  ·exact(hwr.cell (p:=⟨b,o+i * 4+1,none⟩) hbW).trans (hcell 1 _ rfl)
  ·exact(hwr.cell (p:=⟨b,o+i * 4+2,none⟩) hbW).trans (hcell 2 _ rfl)
  ·exact(hwr.cell (p:=⟨b,o+i * 4+3,none⟩) hbW).trans (hcell 3 _ rfl))
 by_cases h61:what=61
 ·have hl:=hsh.fld h61
  have hn1:n=1:=by rw[← hn];exact hl
  subst hn1
  have hq61:q=61:=by rw[← hq,h61];rfl
  subst hq61
  obtain⟨u,hu⟩:∃ u,kids=[u]:=List.length_eq_one_iff.1 hl
  have HD:=hid (show(kids[0]'(by rw[hl];omega)).deep=(Wf.V.mk what text tag kids).deep by subst hu h61;simp[Wf.V.deep,Wf.V.deeps])
  have hBW0:=((Below.refl w.heap.size w).alloc (Nat.le_refl _) (.cells #[.int .u8 61, .string T, .int .i64 tag, .slice a 1 c] 92))
  obtain⟨b,o,q',n',c',g',T',a',rfl,hb,k0,k1,k2,k3,hrec⟩:=KID.out 0 (by rw[hl];omega) _ (HW.out.trans (hBW0.mono HW.out.size))
  rw[HD.out] at hrec
  have HR:=hid hrec
  have HB0:=hid hBW0
  rw[Nat.zero_mul,Nat.add_zero] at k0 k1 k2 k3
  simp only[tx,hT,hq,hn]
  clear ih hk hW hkd hsh HV hT hq hn hnc hcm hu h61 hdeep hrec hBW0
  go_enter Tryz.func56,Tryz.ntmps56
  go_wp2_with (go_at_call 56;refine(HR.out _ (HW.out.trans (HB0.out.mono HW.out.size))).mono ?_;rintro e w2 ⟨rfl,hb2⟩)
  go_ret
  exact⟨rfl,below_join HB0.out hb2⟩
 ·have hq61:((q:Int)==61)=false:=by
   rw[beq_eq_false_iff_ne]
   intro h
   exact h61 (UInt8.toNat_inj.1 (by rw[hq];show q=61;omega))
  have HD:=hid (show Wf.V.deeps kids+1=(Wf.V.mk what text tag kids).deep from(Wf.deep_ne h61 _ _ _).symm)
  have HN:=hid hn
  rw[hn] at hnc
  unfold maxLen at hcm
  simp only[tx,hT,hq,hn]
  clear ih hk hW hkd hsh HV hT hq hn h61 hdeep
  go_enter Tryz.func56,Tryz.ntmps56
  go_wp2_with fail
  go_loopw [3,17] (fun s3 s17 wr=>∃ (i d:Nat),s3=.int .i64 d∧s17=.int .i64 i∧i≤n∧d≤1000000∧Hid (d=Wf.V.deeps (kids.take i)∧Below w.heap.size w wr)) (fun _ s17 _=>n-(RowKit.intOf s17).toNat)
  case atStart=>exact⟨0,0,rfl,rfl,Nat.zero_le _,Nat.zero_le _,hid ⟨rfl,(Below.refl _ _).alloc (Nat.le_refl _) _⟩⟩
  case round =>
   obtain⟨i,d,rfl,rfl,hi,hd6,hh⟩:=hrel
   by_cases hlt:i<n
   ·have hik:i<kids.length:=by rw[HN.out];exact hlt
    obtain⟨b,o,q',n',c',g',T',a',rfl,hb,k0,k1,k2,k3,hrec⟩:=KID.out i hik wr (HW.out.trans (hh.out.2.mono HW.out.size))
    obtain⟨D,hD⟩:∃ D,(kids[i]).deep=D:=⟨_,rfl⟩
    have hD6:D≤1000000:=by rw[← hD];exact Nat.le_trans (deeps_mem (List.getElem_mem hik)) HKD.out
    have HS:=hid (show Wf.V.deeps (kids.take (i+1))=max d D by
     have e:kids.take (i+1)=kids.take i++[kids[i]]:=by rw[List.take_add_one,List.getElem?_eq_getElem hik];rfl
     rw[e,deeps_snoc,hD,← hh.out.1])
    rw[hD] at hrec
    have HR:=hid hrec
    have BW:=hid (HW.out.trans (hh.out.2.mono HW.out.size))
    clear hrec hD
    go_wp2_with (go_at_call 56;refine(HR.out _ (BW.out.trans (((Below.refl _ _).alloc (Nat.le_refl _) _).mono BW.out.size))).mono ?_;rintro e w2 ⟨rfl,hb2⟩;have B2:=hid (below_join ((Below.refl wr.heap.size wr).alloc (Nat.le_refl _) _) hb2);clear hb2)
    go_roundw
    case rel=>exact⟨i+1,max d D,by go_num,by go_num,by omega,by omega,hid ⟨HS.out.symm,hh.out.2.trans (B2.out.mono hh.out.2.size)⟩⟩
    case measure=>simp[RowKit.intOf];omega
   ·have hin:i=n:=by omega
    subst hin
    have HX:=hid (show d+1=(Wf.V.mk what text tag kids).deep by rw[← HD.out,hh.out.1,List.take_of_length_le (by rw[HN.out];exact Nat.le_refl _)])
    go_wp2_with fail
    go_ret
    exact⟨by rw[← HX.out];rfl,hh.out.2⟩

set_option maxRecDepth 20000 in
theorem it_empty (s:ByteArray) (w:World) (h0:s.toList.isEmpty=true):Calls Tryz.prog 91 #[.string s] w fun e w'=>(∃ p,e=.returned (.tuple #[.pointer p, .bool false]))∧Below w.heap.size w w':=by
 go_enter Tryz.func91,Tryz.ntmps91
 go_wp2_with fail
 go_ret2
 exact⟨⟨_,rfl⟩,Below.refl _ _⟩
set_option maxRecDepth 20000 in
theorem it_nosort (s:ByteArray) (w:World) (h0:s.toList.isEmpty=false) (h1:1≤s.size) (hk:∀ wz,Calls Tryz.prog 126 #[.string ⟨#[82,85,69]⟩, .string (s.extract 0 1)] wz fun e w'=>e=.returned (.bool false)∧wz=w') :
  Calls Tryz.prog 91 #[.string s] w fun e w'=>(∃ p,e=.returned (.tuple #[.pointer p, .bool false]))∧Below w.heap.size w w':=by
 have HK:=hid hk
 clear hk
 go_enter Tryz.func91,Tryz.ntmps91
 go_wp2_with (go_at_call 126;refine(HK.out _).mono ?_;rintro e w1 ⟨rfl,rfl⟩)
 go_ret2
 exact⟨⟨_,rfl⟩,Below.refl _ _⟩
section
variable (s:ByteArray) (w:World) (m:Int) (hm:ML m w) (h0:s.toList.isEmpty=false) (h1:1≤s.size) (hk:∀ wz,Calls Tryz.prog 126 #[.string ⟨#[82,85,69]⟩, .string (s.extract 0 1)] wz fun e w'=>e=.returned (.bool true)∧wz=w')
 (NM RS:ByteArray) (told:Bool) (hc:∀ wz,ML m wz→Calls Tryz.prog 90 #[.string (s.extract 1 s.size), .string ⟨#[61]⟩] wz fun e w'=>e=.returned (.tuple #[.string NM, .string RS, .bool told])∧∃ k,w'=wz.drewN k)
include hm h0 h1 hk hc
set_option maxRecDepth 20000 in
theorem it_nocut (ht:told=false):Calls Tryz.prog 91 #[.string s] w fun e w'=>(∃ p,e=.returned (.tuple #[.pointer p, .bool false]))∧Below w.heap.size w w':=by
 have HK:=hid hk
 have HC:=hid (hc _ hm)
 subst ht
 clear hk hc hm
 go_enter Tryz.func91,Tryz.ntmps91
 go_wp2_with (first|(go_at_call 90;refine HC.out.mono ?_;rintro e w1 ⟨rfl,dk,rfl⟩)|(go_at_call 126;refine(HK.out _).mono ?_;rintro e w1 ⟨rfl,rfl⟩))
 go_ret2
 exact⟨⟨_,rfl⟩,bel_drewN (Below.refl _ _) _⟩
set_option maxRecDepth 20000 in
theorem it_noname (ht:told=true) (hn:∀ wz,Calls Tryz.prog 108 #[.string NM] wz fun e w'=>e=.returned (.bool false)∧Below wz.heap.size wz w'):Calls Tryz.prog 91 #[.string s] w fun e w'=>(∃ p,e=.returned (.tuple #[.pointer p, .bool false]))∧Below w.heap.size w w':=by
 have HK:=hid hk
 have HC:=hid (hc _ hm)
 have HN:=hid hn
 subst ht
 clear hk hc hm hn
 go_enter Tryz.func91,Tryz.ntmps91
 go_wp2_with (first|(go_at_call 108;refine(HN.out _).mono ?_;rintro e w2 ⟨rfl,hb2⟩;have HB2:=hid hb2;clear hb2)|(go_at_call 90;refine HC.out.mono ?_;rintro e w1 ⟨rfl,dk,rfl⟩)|(go_at_call 126;refine(HK.out _).mono ?_;rintro e w1 ⟨rfl,rfl⟩))
 go_ret2
 exact⟨⟨_,rfl⟩,(bel_drewN (Below.refl _ _) _).trans HB2.out⟩
set_option maxRecDepth 20000 in
set_option maxHeartbeats 1000000 in
theorem it_bare (ht:told=true) (hn:∀ wz,Calls Tryz.prog 108 #[.string NM] wz fun e w'=>e=.returned (.bool true)∧Below wz.heap.size wz w') (hr:RS.toList.isEmpty=true) (q:Nat) (e0:∀ h,(s[0]'h).toNat=q) :
  Calls Tryz.prog 91 #[.string s] w fun e w'=>(∃ b,e=.returned (.tuple #[ptr b, .bool ((q:Int)==82)])∧w.heap.size≤b∧b<w'.heap.size∧w'.cell? ⟨b,0,none⟩=some (.int .u8 q)∧w'.cell? ⟨b,1,none⟩=some (.string NM)∧w'.cell? ⟨b,2,none⟩=some (.slice none 0 0)∧∃ cs,w'.heap[b]? = some (.cells cs 65 (0,0)))∧Below w.heap.size w w':=by
 have HK:=hid hk
 have HC:=hid (hc _ hm)
 have HN:=hid hn
 subst ht
 clear hk hc hm hn
 go_enter Tryz.func91,Tryz.ntmps91
 go_wp2_with (first|(go_at_call 108;refine(HN.out _).mono ?_;rintro e w2 ⟨rfl,hb2⟩;have HB2:=hid hb2;clear hb2)|(go_at_call 90;refine HC.out.mono ?_;rintro e w1 ⟨rfl,dk,rfl⟩)|(go_at_call 126;refine(HK.out _).mono ?_;rintro e w1 ⟨rfl,rfl⟩))
 go_region
 all_goals go_wp2_with fail
 all_goals go_ret2
 all_goals exact⟨⟨_,rfl,HB2.out.size,by simp,by simp,by simp,by simp,⟨_,(MapKept.heap_alloc w2 _).1⟩⟩,by have B:=(bel_drewN (Below.refl w.heap.size w) dk).trans HB2.out;repeat (first|with_reducible exact B|with_reducible refine Below.drew ?_|with_reducible refine Below.alloc ?_ (by first|exact B.size|(simp;done)|(simp;omega)|omega) _)⟩
end
end Go.Proofs.YtmdacedmjbiekaaGreatDoor
