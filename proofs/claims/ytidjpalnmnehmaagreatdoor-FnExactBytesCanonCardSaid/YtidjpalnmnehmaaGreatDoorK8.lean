/- Packed. -/
import Derived.Test.YtidjpalnmnehmaaGreatDoorK7
set_option maxRecDepth 99999
set_option maxHeartbeats 40000000
set_option linter.all false
namespace Go.Proofs.YtidjpalnmnehmaaGreatDoor
open Go.ChangeShapes Go.WideShapes Go.ChangeAt Go.RowKit Go.Lib
structure Sn (W:World) (rb sb:Nat) (s:List UInt8) (bad:Bool):Prop where
 lt:rb<W.heap.size
 c0:W.cell? ⟨rb,0,none⟩=some (ptr sb)
 c1:W.cell? ⟨rb,1,none⟩=some (tx s)
 c2:W.cell? ⟨rb,2,none⟩=some (.bool bad)
 f1:W.frozen? ⟨rb,1,none⟩=false
 f2:W.frozen? ⟨rb,2,none⟩=false
section
variable {W W':World} {rb sb:Nat} {s r:List UInt8} {bad:Bool}
theorem Sn.cQ (h:Sn W rb sb s bad) {B:Nat} (hb:Below B W W') (hB:rb<B):Sn W' rb sb s bad :=
 ⟨zaC h.lt hb.size,(hb.cell (p:=⟨rb,0,none⟩) hB).trans h.c0,(hb.cell (p:=⟨rb,1,none⟩) hB).trans h.c1,(hb.cell (p:=⟨rb,2,none⟩) hB).trans h.c2,(hb.frozen (p:=⟨rb,1,none⟩) hB).trans h.f1,(hb.frozen (p:=⟨rb,2,none⟩) hB).trans h.f2⟩
theorem Sn.below (h:Sn W rb sb s bad) (hb:Below W.heap.size W W'):Sn W' rb sb s bad:=h.cQ hb h.lt
theorem Sn.drewN (h:Sn W rb sb s bad) (n:Nat):Sn (W.drewN n) rb sb s bad:=h.below ⟨rfl,rfl,rfl,zaA,fun _ _=>rfl⟩
theorem Sn.text (h:Sn W rb sb s bad) (r:List UInt8):Sn (W.setCell ⟨rb,1,none⟩ (tx r)) rb sb r bad :=
 ⟨by simpa using h.lt,(zbA W _ _ _ (by simp)).trans h.c0,zbC W _ _ h.c1,(zbA W _ _ _ (by simp)).trans h.c2,by simpa using h.f1,by simpa using h.f2⟩
theorem Sn.fail (h:Sn W rb sb s bad):Sn (W.setCell ⟨rb,2,none⟩ (.bool true)) rb sb s true :=
 ⟨by simpa using h.lt,(zbA W _ _ _ (by simp)).trans h.c0,(zbA W _ _ _ (by simp)).trans h.c1,zbC W _ _ h.c2,by simpa using h.f1,by simpa using h.f2⟩
end
theorem oL (s p:ByteArray) (w:World):Calls Tryz.prog 144 #[.string s,.string p] w fun e w'=>e=.returned (.tuple #[.string ⟨(Lib.trimPrefix s.data.toList p.data.toList).toArray⟩,.bool (Lib.hasPrefix s.data.toList p.data.toList)])/\w=w' :=
 (Tryz.strings_CutPrefix s p w).mono fun _ _ ⟨h1,h2⟩=>⟨h1,h2.symm⟩
theorem pV (rb:Nat) (S L R:ByteArray) (bad p:Bool) (w:World) (hlt:rb<w.heap.size) (c1:w.cell? ⟨rb,1,none⟩=some (.string S)) (c2:w.cell? ⟨rb,2,none⟩=some (.bool bad)) (f1:w.frozen? ⟨rb,1,none⟩=false)
  (hc:∀ wz,Calls Tryz.prog 144 #[.string S,.string L] wz fun e w'=>e=.returned (.tuple #[.string R,.bool p])/\wz=w'):Calls Tryz.prog 112 #[ptr rb,.string L] w fun e w'=>e=.returned (.bool (p && !bad))/\(if (p && !bad)=true then w.setCell ⟨rb,1,none⟩ (.string R) else w)=w':=by
 have HC:=hid hc;clear hc;cases p <;> cases bad;all_goals
  go_enter Tryz.func112,Tryz.ntmps112;go_wp2_with (go_at_call 144;refine(HC.out _).mono ?_;rintro e w1 ⟨rfl,rfl⟩)
  go_ret
  exact⟨rfl,rfl⟩
theorem oU (s l:List UInt8):Lib.hasPrefix s l=true↔l <+: s:=by
 unfold Lib.hasPrefix;exact List.isPrefixOf_iff_prefix
theorem pre1 (c:UInt8) (s:List UInt8):[c] <+: s↔s.head? = some c:=by
 cases s with
 | nil=>simp
 | cons a r=>simp[eq_comm]
section
variable (rb sb:Nat) (w:World)
theorem eY (L r:List UInt8) (H:Sn w rb sb (L++r) false):Calls Tryz.prog 112 #[ptr rb,tx L] w fun e w'=>e=.returned (.bool true)/\Sn w' rb sb r false/\aA rb w w':=by
 have hp:Lib.hasPrefix (L++r) L=true:=(oU _ _).2 (List.prefix_append _ _);refine(pV rb ⟨(L++r).toArray⟩ ⟨L.toArray⟩ ⟨r.toArray⟩ false true w H.lt H.c1 H.c2 H.f1 fun wz=>?_).mono ?_
 ·have:=oL ⟨(L++r).toArray⟩ ⟨L.toArray⟩ wz
  have e1:Lib.trimPrefix (L++r) L=r:=by unfold Lib.trimPrefix;rw[hp,if_pos rfl,List.drop_left]
  simp only[hp,e1] at this;exact this
 ·rintro e w' ⟨rfl,rfl⟩
  exact⟨rfl,H.text r,aA.set _ _ _ _⟩
theorem cR (s L:List UInt8) (bad:Bool) (H:Sn w rb sb s bad) (h:bad=true\/¬ L <+: s):Calls Tryz.prog 112 #[ptr rb,tx L] w fun e w'=>e=.returned (.bool false)/\w=w':=by
 refine(pV rb ⟨s.toArray⟩ ⟨L.toArray⟩ _ bad _ w H.lt H.c1 H.c2 H.f1 fun wz=>oL ⟨s.toArray⟩ ⟨L.toArray⟩ wz).mono ?_;have hf:(Lib.hasPrefix s L && !bad)=false:=by
  rcases h with h|h
  ·rw[h];simp
  ·cases hp:Lib.hasPrefix s L with
   | true=>exact absurd ((oU _ _).1 hp) h
   | false=>rfl
 rintro e w' ⟨rfl,rfl⟩;simp only[hf];exact⟨trivial,rfl⟩
theorem bS (L r:List UInt8) (H:Sn w rb sb (L++r) false):Calls Tryz.prog 113 #[ptr rb,tx L] w fun e w'=>e=.returned (.tuple #[])/\Sn w' rb sb r false/\aA rb w w':=by
 have HT:=hid (eY rb sb w L r H);clear H;go_enter Tryz.func113,Tryz.ntmps113;go_wp2_with (go_at_call 112;refine HT.out.mono ?_;rintro e w1 ⟨rfl,hs,hb⟩)
 go_end0
 exact⟨rfl,hs,hb⟩
theorem bQ (s L:List UInt8) (bad:Bool) (H:Sn w rb sb s bad) (h:bad=true\/¬ L <+: s):Calls Tryz.prog 113 #[ptr rb,tx L] w fun e w'=>e=.returned (.tuple #[])/\Sn w' rb sb s true/\aA rb w w':=by
 have HT:=hid (cR rb sb w s L bad H h);have c2:=H.c2;have f2:=H.f2;have HH:=hid H;clear H;go_enter Tryz.func113,Tryz.ntmps113;go_wp2_with (go_at_call 112;refine HT.out.mono ?_;rintro e w1 ⟨rfl,rfl⟩)
 go_end0
 exact⟨rfl,HH.out.fail,aA.set _ _ _ _⟩
end
def iJ:List UInt8:=[48,49,50,51,52,53,54,55,56,57]
theorem a1T (c:UInt8):iJ.contains c=Wf.aD c:=by
 have h:∀ n:Fin 256,iJ.contains (UInt8.ofNat n.val)=Wf.aD (UInt8.ofNat n.val):=by decide +kernel
 have:=h ⟨c.toNat,c.toNat_lt⟩;simpa using this
theorem uU (s:ByteArray) (w:World):Calls Tryz.prog 90 #[.string s,.string ⟨#[48,49,50,51,52,53,54,55,56,57]⟩] w fun e w'=>e=.returned (tx (s.data.toList.dropWhile Wf.aD))/\Go.RowKit.Below w.heap.size w w':=by
 have h:=Any.strings_TrimLeft_laid Tryz.lays161 (by kernel_rfl) s ⟨#[48,49,50,51,52,53,54,55,56,57]⟩ w (by decide) (ascii_of_all (by decide));have e:Lib.trimLeftS s.data.toList iJ=s.data.toList.dropWhile Wf.aD:=by
  unfold Lib.trimLeftS;rw[show(fun x=>iJ.contains x)=Wf.aD from funext a1T]
 rw[<-e];exact h
theorem uO (s:ByteArray) (w:World):Calls Tryz.prog 90 #[.string s,.string ⟨#[97,98,99,100,101,102,103,104,105,106,107,108,109,110,111,112,113,114,115,116,117,118,119,120,121,122,48,49,50,51,52,53,54,55,56,57,32]⟩] w fun e w'=>e=.returned (tx (s.data.toList.dropWhile Wf.aG))/\Go.RowKit.Below w.heap.size w w':=by
 have h:=Any.strings_TrimLeft_laid Tryz.lays161 (by kernel_rfl) s ⟨#[97,98,99,100,101,102,103,104,105,106,107,108,109,110,111,112,113,114,115,116,117,118,119,120,121,122,48,49,50,51,52,53,54,55,56,57,32]⟩ w (by decide) (ascii_of_all (by decide));have e:Lib.trimLeftS s.data.toList eM=s.data.toList.dropWhile Wf.aG:=by
  unfold Lib.trimLeftS;rw[show(fun x=>eM.contains x)=Wf.aG from funext sJ]
 rw[<-e];exact h
theorem oX (p:UInt8->Bool) (s:ByteArray):∃ t:ByteArray,t.data.toList=s.data.toList.dropWhile p/\t.size<=s.size/\(s.extract 0 (s.size-t.size)).data.toList=s.data.toList.takeWhile p/\(s.extract 0 (s.size-t.size)).size+t.size=s.size:=by
 have h:=congrArg List.length (List.takeWhile_append_dropWhile (p:=p) (l:=s.data.toList));rw[zaD,aE] at h;obtain⟨t,ht⟩:∃ t:ByteArray,t.data.toList=s.data.toList.dropWhile p:=⟨⟨(s.data.toList.dropWhile p).toArray⟩,rfl⟩;have hts:t.size=(s.data.toList.dropWhile p).length:=by rw[<-aE,ht]
 refine⟨t,ht,by omega,?_,?_⟩
 ·rw[bH,List.drop_zero,Nat.sub_zero,show s.size-t.size=(s.data.toList.takeWhile p).length by omega]
  exact(List.prefix_iff_eq_take.1 (List.takeWhile_prefix _)).symm
 ·rw[zaY]
  omega
theorem oY (S t:ByteArray) (hts:t.size<=S.size) (hs:S.size<=1000000):IntKind.i64.wrap ((S.size:Int)-(t.size:Int))=(S.size:Int)-(t.size:Int)/\∀ wz,(Instr.slice 9 (.string S) none (some (.int .i64 ((S.size:Int)-(t.size:Int)))) none).run Tryz.prog wz=.ok (.string (S.extract 0 (S.size-t.size))) wz:=by
 have e:((S.size-t.size:Nat):Int)=(S.size:Int)-(t.size:Int):=by omega
 refine⟨?_,fun wz=>?_⟩
 ·have:=a3F (S.size-t.size) (by omega)
  rw[e] at this;exact this
 ·have:=run_slice_string_h (P:=Tryz.prog) wz 9 S Tryz.underlying9 .i64 ((S.size:Int)-(t.size:Int)) (by omega) (by omega)
  have e2:((S.size:Int)-(t.size:Int)).toNat=S.size-t.size:=by omega
  rw[this,e2]
section
variable (rb sb:Nat) (w:World)
theorem number (s:List UInt8) (bad:Bool) (most:Nat) (hm:most<=999999) (hs:s.length<=1000000) (H:Sn w rb sb s bad):Calls Tryz.prog 114 #[ptr rb,.int .i64 most] w fun e w'=>e=.returned (.int .i64 (numV (s.takeWhile Wf.aD)))/\Sn w' rb sb (s.dropWhile Wf.aD) (bad || !(Wf.aI (s.takeWhile Wf.aD) most).isSome)/\aA rb w w':=by
 have HH:=hid H;have hc1:=H.c1;have hlt:=H.lt;have f1:=H.f1;obtain⟨S,hS⟩:∃ S:ByteArray,(⟨s.toArray⟩:ByteArray)=S:=⟨_,rfl⟩;have hSl:S.data.toList=s:=by rw[<-hS]
 have HSS:=hid hS;rw[tx,hS] at hc1;obtain⟨t,ht,hts,hx,_⟩:=oX Wf.aD S;obtain⟨kw,ks⟩:=oY S t hts (by rw[<-aE,hSl];exact hs);have HT:=hid fun wz=>uU S wz;rw[<-ht] at HT;have hN:=fun wz=>pP (S.extract 0 (S.size-t.size)) most hm wz;rw[hx,hSl] at hN;obtain⟨B,hB⟩:∃ B,(Wf.aI (s.takeWhile Wf.aD) most).isSome=B:=⟨_,rfl⟩;obtain⟨m,hmm⟩:∃ m,numV (s.takeWhile Wf.aD)=m:=⟨_,rfl⟩;rw[hB,hmm] at hN;rw[hB,hmm];have hN2:∀ wz,Calls Tryz.prog 76 #[.string (S.extract 0 (S.size-t.size)),.int .i64 most] wz fun e w'=>e=.returned (.tuple #[.int .i64 m,.bool B])/\w'=wz:=fun wz=>(hN wz).mono fun e w' ⟨h1,h2⟩=>⟨h1,h2.symm⟩;have HN:=hid hN2;have HR:=hid (show(⟨(s.dropWhile Wf.aD).toArray⟩:ByteArray)=t by rw[<-hSl,<-ht]);have c2:=H.c2;have f2:=H.f2;clear hN hN2 hB hmm H hS hSl ht hx;cases B
 ·go_enter Tryz.func114,Tryz.ntmps114
  go_wp2_with (go_at_call 90;refine(HT.out _).mono ?_;rintro e w1 ⟨rfl,hb⟩;have HS1:=hid (HH.out.below hb);have k1:=HS1.out.c1;rw[tx,HSS.out] at k1;have k2:=HS1.out.c2;have kf:=HS1.out.f1;have kg:=HS1.out.f2;have HB:=hid hb;obtain⟨hc3,hc4⟩:=bcell hb;clear hb)
  go_quiet ((go_at_call 76;refine Calls.quiet_of_same (HN.out _)))
  go_wp2_with fail
  go_ret
  exact⟨rfl,by rw[<-HR.out,Bool.not_false,Bool.or_true];exact(((HS1.out.drewN _).fail).text _),(((aA.aF HB.out (zaA)).drewN _).trans (aA.set _ _ _ _)).trans (aA.set _ _ _ _)⟩
 ·go_enter Tryz.func114,Tryz.ntmps114
  go_wp2_with (go_at_call 90;refine(HT.out _).mono ?_;rintro e w1 ⟨rfl,hb⟩;have HS1:=hid (HH.out.below hb);have k1:=HS1.out.c1;rw[tx,HSS.out] at k1;have k2:=HS1.out.c2;have kf:=HS1.out.f1;have kg:=HS1.out.f2;have HB:=hid hb;obtain⟨hc3,hc4⟩:=bcell hb;clear hb)
  go_quiet ((go_at_call 76;refine Calls.quiet_of_same (HN.out _)))
  go_wp2_with fail
  go_ret
  exact⟨rfl,by rw[<-HR.out,Bool.not_true,Bool.or_false];exact((HS1.out.drewN _).text _),((aA.aF HB.out (zaA)).drewN _).trans (aA.set _ _ _ _)⟩
theorem nU (s r:List UInt8) (bad:Bool) (most n:Nat) (hm:most<=999999) (hs:s.length<=1000000) (H:Sn w rb sb s bad) (hn:Wf.aO most s=some (n,r)):Calls Tryz.prog 114 #[ptr rb,.int .i64 most] w fun e w'=>e=.returned (.int .i64 n)/\Sn w' rb sb r bad/\aA rb w w':=by
 obtain⟨m,h1,h2⟩:=Option.map_eq_some_iff.1 hn;simp only[zaK] at h2;obtain⟨rfl,rfl⟩:=h2;have:=number rb sb w s bad most hm hs H;rw[h1,iB h1,Option.isSome_some,Bool.not_true,Bool.or_false] at this;exact this
theorem jM (cur:List UInt8) (b0:Bool) (hs:cur.length<=1000000) (hw:Calls Tryz.prog 113 #[ptr rb,tx [39]] w fun e w'=>e=.returned (.tuple #[])/\Sn w' rb sb cur b0/\aA rb w w')
  (r:List UInt8) (b1:Bool) (h2:∀ wz,Sn wz rb sb (cur.dropWhile Wf.aG) b0->Calls Tryz.prog 113 #[ptr rb,tx [39]] wz fun e w'=>e=.returned (.tuple #[])/\Sn w' rb sb r b1/\aA rb wz w') :
  Calls Tryz.prog 115 #[ptr rb] w fun e w'=>e=.returned (tx (cur.takeWhile Wf.aG))/\Sn w' rb sb r (b1 || decide (12<(cur.takeWhile Wf.aG).length))/\aA rb w w':=by
 obtain⟨S,hS⟩:∃ S:ByteArray,(⟨cur.toArray⟩:ByteArray)=S:=⟨_,rfl⟩;have hSl:S.data.toList=cur:=by rw[<-hS]
 have HSS:=hid hS;obtain⟨t,ht,hts,hx,hxs⟩:=oX Wf.aG S;obtain⟨kw,ks⟩:=oY S t hts (by rw[<-aE,hSl];exact hs);have HT:=hid fun wz=>uO S wz;rw[<-ht] at HT;obtain⟨X,hX⟩:∃ X,S.extract 0 (S.size-t.size)=X:=⟨_,rfl⟩;rw[hX] at hx hxs ks;rw[hSl] at hx ht;have HX:=hid (show(⟨(cur.takeWhile Wf.aG).toArray⟩:ByteArray)=X from(cW X _ hx).symm);have hxl:(cur.takeWhile Wf.aG).length=X.size:=by rw[<-hx,aE]
 have HR:=hid (show(⟨(cur.dropWhile Wf.aG).toArray⟩:ByteArray)=t from(cW t _ ht).symm);have HW:=hid hw;have H2:=hid h2;have HTL:=hid ht;rw[hxl,tx,HX.out];clear hw h2 hS hSl ht hx hX hxl;go_enter Tryz.func115,Tryz.ntmps115;go_wp2_with (first|(go_at_call 90;have _u:=hs1;refine(HT.out _).mono ?_;rintro e w2 ⟨rfl,hb2⟩;have HS2:=hid (hs1.out.below hb2);have k1:=HS2.out.c1;rw[tx,HSS.out] at k1;have kf:=HS2.out.f1;have hlt2:=HS2.out.lt;have HB2:=hid (hB1.out.trans (aA.aF hb2 (zaA)));clear hb2)|(go_at_call 113;refine HW.out.mono ?_;rintro e w1 ⟨rfl,hsx,hbx⟩;have hs1:=hid hsx;have hB1:=hid hbx;have k0:=hsx.c1;rw[tx,HSS.out] at k0;clear hsx hbx))
 go_quiet (fail)
 by_cases h12:12<X.size
 ·go_wp2_with (go_at_call 113;refine(H2.out _ (by rw[<-HTL.out];exact(HS2.out.drewN _).text _)).mono ?_;rintro e w3 ⟨rfl,hs3,hb3⟩;have h3:=hid hs3;have c2:=hs3.c2;have f2:=hs3.f2;have hB3:=hid (((HB2.out.drewN _).trans (aA.set _ _ _ _)).trans hb3);clear hs3 hb3)
  go_ret
  exact⟨rfl,by rw[decide_eq_true h12,Bool.or_true];exact h3.out.fail,hB3.out.trans (aA.set _ _ _ _)⟩
 ·go_wp2_with (go_at_call 113;refine(H2.out _ (by rw[<-HTL.out];exact(HS2.out.drewN _).text _)).mono ?_;rintro e w3 ⟨rfl,hs3,hb3⟩;have h3:=hid hs3;have c2:=hs3.c2;have f2:=hs3.f2;have hB3:=hid (((HB2.out.drewN _).trans (aA.set _ _ _ _)).trans hb3);clear hs3 hb3)
  go_ret
  exact⟨rfl,by rw[decide_eq_false h12,Bool.or_false];exact h3.out,hB3.out⟩
theorem wI (s r q:List UInt8) (hs:s.length<=1000000) (H:Sn w rb sb s false) (h1:s=39::r) (h2:r.dropWhile Wf.aG=39::q) (h3:(r.takeWhile Wf.aG).length<=12):Calls Tryz.prog 115 #[ptr rb] w fun e w'=>e=.returned (tx (r.takeWhile Wf.aG))/\Sn w' rb sb q false/\aA rb w w':=by
 subst h1;have:=jM rb sb w r false (by simp at hs;omega) (bS rb sb w [39] r H) q false fun wz hz=>bS rb sb wz [39] q (by rw[<-List.cons_eq_append_iff.2 (.inr ⟨[],rfl,rfl⟩)] at *;simpa[h2] using hz);rw[decide_eq_false (by omega),Bool.or_false] at this;exact this
theorem a2A (x:Wf.Sc) (n:Nat) (s:List UInt8) (hs:s.length<=1000000) (H:Sn w rb sb s false) (h:Wf.parse x (n+1) .txt s=none):Calls Tryz.prog 115 #[ptr rb] w fun e w'=>∃ t r,e=.returned (tx t)/\t.length+r.length<=s.length/\Sn w' rb sb r true/\aA rb w w':=by
 have hl:∀ l:List UInt8,(l.takeWhile Wf.aG).length+(l.dropWhile Wf.aG).length=l.length:=fun l=>by
  rw[<-zaD,List.takeWhile_append_dropWhile]
 by_cases h1:s.head? = some 39
 ·obtain⟨r,rfl⟩:∃ r,s=39::r:=by
   cases s with
   | nil=>simp at h1
   | cons a r=>simp only[List.head?_cons,zaE] at h1;exact⟨r,by rw[h1]⟩
  have hr:r.length<=1000000:=by simp at hs;omega
  have hw:=bS rb sb w [39] r H;by_cases h2:(r.dropWhile Wf.aG).head? = some 39
  ·obtain⟨q,hq⟩:∃ q,r.dropWhile Wf.aG=39::q:=by
    cases hd:r.dropWhile Wf.aG with
    | nil=>rw[hd] at h2;simp at h2
    | cons a q=>rw[hd] at h2;simp only[List.head?_cons,zaE] at h2;exact⟨q,by rw[h2]⟩
   have h12:12<(r.takeWhile Wf.aG).length:=by
    rcases Nat.lt_or_ge 12 (r.takeWhile Wf.aG).length with h3|h3
    ·exact h3
    ·rw[Wf.kH x n rfl hq h3] at h;cases h
   refine(jM rb sb w r false hr hw q false fun wz hz=>bS rb sb wz [39] q (by rw[hq] at hz;exact hz)).mono ?_;rintro e w' ⟨rfl,g1,g2⟩;rw[decide_eq_true h12,Bool.or_true] at g1;exact⟨_,q,rfl,by have:=hl r;rw[hq] at this;simp at this ⊢;omega,g1,g2⟩
  ·refine(jM rb sb w r false hr hw _ true fun wz hz=>bQ rb sb wz _ [39] false hz (.inr fun hp=>h2 ((pre1 _ _).1 hp))).mono ?_
   rintro e w' ⟨rfl,g1,g2⟩;rw[Bool.true_or] at g1;exact⟨_,_,rfl,by have:=hl r;simp;omega,g1,g2⟩
 ·refine(jM rb sb w s true hs (bQ rb sb w s [39] false H (.inr fun hp=>h1 ((pre1 _ _).1 hp))) _ true fun wz hz=>bQ rb sb wz _ [39] true hz (.inl rfl)).mono ?_
  rintro e w' ⟨rfl,g1,g2⟩;rw[Bool.true_or] at g1;exact⟨_,_,rfl,by have:=hl s;omega,g1,g2⟩
end

theorem mK:(Tryz.prog.info? 9).map (fun i=>(i.zero,i.size,i.bytes))=some (some (.string ⟨#[]⟩),1,16):=by kernel_rfl
theorem sQ (c:UInt8):∀ l:List UInt8,(Wf.cutAt c l).length<=l.length+1:=by
 intro l;induction l with
 | nil=>simp[Wf.cutAt]
 | cons a r ih =>
  simp only[Wf.cutAt];by_cases h:a=c
  ·rw[if_pos h,zaF,zaF];omega
  ·rw[if_neg h]
   cases hr:Wf.cutAt c r with
   | nil=>simp
   | cons p ps=>rw[hr] at ih;simp only[zaF] at ih ⊢;omega
def eS (c:UInt8) (l:List UInt8) (ps:List (List UInt8)) (fr i:Nat):Prop:=Wf.cutAt c l=ps++Wf.cutAt c (l.drop fr)/\c ∉ (l.drop fr).take (i-fr)/\fr<=i/\ps.length<=i
theorem a0T (c:UInt8) (l:List UInt8):eS c l [] 0 0:=⟨by simp,by simp,zaA,zaA⟩
theorem a0Y {c b:UInt8} {l:List UInt8} {ps:List (List UInt8)} {fr i:Nat} (h:eS c l ps fr i) (hb:l[i]? = some b) (hbc:b≠c):eS c l ps fr (i+1):=by
 obtain⟨h1,h2,h3,h4⟩:=h;refine⟨h1,?_,by omega,by omega⟩;have e:i+1-fr=(i-fr)+1:=by omega
 have e2:(l.drop fr)[i-fr]? = some b:=by rw[List.getElem?_drop,show fr+(i-fr)=i by omega];exact hb
 rw[e,List.take_add_one,e2,List.mem_append];rintro(h|h)
 ·exact h2 h
 ·simp at h;exact hbc h.symm
theorem tK {c:UInt8} {l:List UInt8} {ps:List (List UInt8)} {fr i:Nat} (h:eS c l ps fr i) (hb:l[i]? = some c):eS c l (ps++[(l.drop fr).take (i-fr)]) (i+1) (i+1):=by
 obtain⟨h1,h2,h3,h4⟩:=h;refine⟨?_,by simp,zaA,by rw[zaD,List.length_singleton];omega⟩;have hlt:i<l.length:=by
  rcases Nat.lt_or_ge i l.length with h|h
  ·exact h
  ·rw[List.getElem?_eq_none h] at hb;cases hb
 have e2:l.drop fr=(l.drop fr).take (i-fr)++c::l.drop (i+1):=by
  conv=>lhs;rw[<-List.take_append_drop (i-fr) (l.drop fr)]
  congr 1
  rw[List.drop_drop,show fr+(i-fr)=i by omega,List.drop_eq_getElem_cons hlt];have:l[i]=c:=by rw[zaV hlt] at hb;exact Option.some.inj hb
  rw[this]
 rw[h1,zaT];congr 1
 conv=>lhs;rw[e2]
 rw[Wf.nW h2];rfl
theorem a0F {c:UInt8} {l:List UInt8} {ps:List (List UInt8)} {fr:Nat} (h:eS c l ps fr l.length):Wf.cutAt c l=ps++[l.drop fr]:=by
 obtain⟨h1,h2,h3,h4⟩:=h;rw[zaS (by rw[List.length_drop];exact zaA)] at h2;rw[h1,Wf.iA h2]
theorem mQ (ps:List (List UInt8)) (p:List UInt8) (b:ByteArray) (h:b.data.toList=p):(ps++[p]).map tx=ps.map tx++[.string b]:=by
 rw[List.map_append,List.map_singleton,tx,<-h]
theorem iZ (s:ByteArray) (c:UInt8) (hs:s.size<=2000000) (w:World):Calls Tryz.prog 118 #[.string s,.int .u8 c.toNat] w fun e w'=>∃ b v,e=.returned v/\w.heap.size<=b/\aH w' b v ((Wf.cutAt c s.data.toList).map tx)/\Below w.heap.size w w':=by
 have HL:=hid (aE s);obtain⟨cn,hcn⟩:∃ cn,c.toNat=cn:=⟨_,rfl⟩;have HCN:=hid hcn;rw[hcn];clear hcn;go_enter Tryz.func118,Tryz.ntmps118;go_wp2;go_loopw [5,6,7] (fun v f i wr=>∃ (ps:List (List UInt8)) (fr k:Nat),f=.int .i64 fr/\i=.int .i64 k/\k<=s.size/\fr<=k/\Hid (eS c s.data.toList ps fr k/\wr.ownsRow w.heap.size 9 1 v (ps.map tx).length (ps.map tx)/\Below w.heap.size w wr)) (fun _ _ i _=>s.size-(RowKit.intOf i).toNat)
 case atStart=>exact⟨[],0,0,rfl,rfl,Nat.zero_le _,zaA,hid ⟨a0T _ _,World.ownsRow_made w #[] 0 (zaA) (by decide) rfl,(zaB).alloc (zaA) _⟩⟩
 case round =>
  obtain⟨ps,fr,k,rfl,rfl,hk,hfr,hh⟩:=hrel;by_cases hlt:k<s.size
  ·obtain⟨b,hb,e1⟩:=byte_at s k hlt
   obtain⟨n,hn⟩:∃ n,b.toNat=n:=⟨_,rfl⟩;rw[hn] at e1;have HB:=hid hb;have HN:=hid hn;clear hb hn;by_cases hc:n=cn
   ·subst hc
    have HBC:=hid (show s.data.toList[k]? = some c by rw[HB.out];exact congrArg some (UInt8.toNat_inj.1 (by rw[HN.out,HCN.out])));have HS:=hid (tK hh.out.1 HBC.out);have hps:ps.length<=k:=hh.out.1.2.2.2;have HX:=hid (show(s.extract fr k).data.toList=(s.data.toList.drop fr).take (k-fr) from bH _ _ _);go_wp2_with (at_builtin;refine jY _ rfl (.tmp 20) (.tmp 25) 111 rfl w.heap.size 9 (.string ⟨#[]⟩) 16 Tryz.underlying111 mK rfl _ (ps.map tx) rfl (hh.out.2.1.alloc _) ⟨wr.heap.size,0,none⟩ (.string (s.extract fr k)) rfl (by simp) rfl (by rw[zaG];omega) (by rw[zaG];omega) (by have:=hh.out.2.2.size;simp;omega) ?_;intro v1 w1 ho1 hb1;have HO:=hid ho1;have HB1:=hid hb1;clear ho1 hb1)
    go_roundw
    case rel=>exact⟨ps++[(s.data.toList.drop fr).take (k-fr)],k+1,k+1,by go_num,by go_num,by omega,zaA,hid ⟨HS.out,by rw[mQ _ _ _ HX.out];exact HO.out,(hh.out.2.2.alloc hh.out.2.2.size _).trans HB1.out⟩⟩
    case measure=>simp[RowKit.intOf];omega
   ·have HBC:=hid (show b≠c by intro h;apply hc;rw[<-HN.out,h,HCN.out])
    have HS:=hid (a0Y hh.out.1 HB.out HBC.out);have hbeq:((n:Int)==(cn:Int))=false:=(by rw[zaJ];omega);clear hc;go_wp2;go_roundw
    case rel=>exact⟨ps,fr,k+1,rfl,by go_num,by omega,by omega,hid ⟨HS.out,hh.out.2.1,hh.out.2.2⟩⟩
    case measure=>simp[RowKit.intOf];omega
  ·have hks:k=s.size:=by omega
   subst hks;have hps:ps.length<=s.size:=hh.out.1.2.2.2;have HX:=hid (show(s.extract fr s.size).data.toList=s.data.toList.drop fr by rw[bH,zaS (by rw[List.length_drop,HL.out];exact zaA)]);have HE:=hid (show Wf.cutAt c s.data.toList=ps++[s.data.toList.drop fr] from a0F (by rw[HL.out];exact hh.out.1));go_wp2_with (at_builtin;refine jY _ rfl (.tmp 29) (.tmp 33) 111 rfl w.heap.size 9 (.string ⟨#[]⟩) 16 Tryz.underlying111 mK rfl _ (ps.map tx) rfl (hh.out.2.1.alloc _) ⟨wr.heap.size,0,none⟩ (.string (s.extract fr s.size)) rfl (by simp) rfl (by rw[zaG];omega) (by rw[zaG];omega) (by have:=hh.out.2.2.size;simp;omega) ?_;intro v1 w1 ho1 hb1;have HO:=hid ho1;have HB1:=hid hb1;clear ho1 hb1)
   go_ret
   obtain⟨b,hb,hr⟩:=aH.cO HO.out;exact⟨b,v1,rfl,hb,by rw[HE.out,mQ _ _ _ HX.out];exact hr,(hh.out.2.2.alloc hh.out.2.2.size _).trans HB1.out⟩
