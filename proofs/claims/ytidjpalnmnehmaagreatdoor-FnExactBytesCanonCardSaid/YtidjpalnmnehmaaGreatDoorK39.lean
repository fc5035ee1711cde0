/- Packed. -/
import Derived.Test.YtidjpalnmnehmaaGreatDoorK38
set_option maxRecDepth 99999
set_option maxHeartbeats 40000000
set_option linter.all false
namespace Go.Proofs.YtidjpalnmnehmaaGreatDoor
open Go.ChangeShapes Go.WideShapes Go.ChangeAt Go.RowKit Go.Lib
theorem get_put {l kt s T:List UInt8} (h:getIn l kt s=some T):T.length<=400/\∃ A,bytesVal l kt T=some A/\canonI l kt s=decide (A=s):=by
 unfold getIn at h;cases hk:aV l kt with
 | none=>rw[hk] at h;cases h
 | some y =>
  rw[hk] at h;simp only[Option.bind_some,Option.map_eq_some_iff] at h;obtain⟨u,hu,rfl⟩:=h;obtain⟨_,h1,h2,h3⟩:=Wf.getVal_some hu;have ht:=Wf.fB (Wf.eH (gW hk).1) 13 _ _ _ _ h1;refine⟨h2,u.bytes,?_,?_⟩
  ·unfold bytesVal valOf
   rw[hk];dsimp only;rw[Wf.pJ ht h3 h2];rfl
  ·unfold canonI Wf.canonB
   rw[hk];dsimp only;rw[hu]
theorem get_no {l kt s:List UInt8} (h:getIn l kt s=none):canonI l kt s=false:=by
 unfold getIn at h;unfold canonI;cases hk:aV l kt with
 | none=>rfl
 | some y =>
  rw[hk] at h;simp only[Option.bind_some,Option.map_eq_none_iff] at h;dsimp only;unfold Wf.canonB;rw[h]
theorem bytesCanon_i (s kt v:ByteArray) (m:Int) (w:World) (hm:ML m w) (hs:s.size<=1048576) (hkt:kt.size<=1048576) (hv:v.size<=1048576):Calls Tryz.prog 14 #[.string s,.string kt,.string v] w fun e w'=>e=.returned (.bool (canonI s.data.toList kt.data.toList v.data.toList))/\Below w.heap.size w w':=by
 have HG:=hid (bytesGet_i s kt v m w hm hs hkt hv);have HM:=hid hm;clear hm;cases hg:getIn s.data.toList kt.data.toList v.data.toList with
 | none =>
  have HF:=hid (get_no hg);rw[hg] at HG;have HG2:=hid (show Calls Tryz.prog 13 #[.string s,.string kt,.string v] w fun e w'=>e=.returned (.tuple #[.string ⟨#[]⟩,.bool false])/\Below w.heap.size w w' from HG.out);clear hg HG;go_enter Tryz.func14,Tryz.ntmps14;go_wp2_with (go_at_call 13;refine HG2.out.mono ?_;rintro e w2 ⟨rfl,hb2⟩;have HB2:=hid hb2;clear hb2)
  go_ret
  exact⟨by rw[HF.out];rfl,HB2.out⟩
 | some T0 =>
  obtain⟨hT4,A0,hA,hc⟩:=get_put hg;obtain⟨T,hT⟩:∃ T:ByteArray,(⟨T0.toArray⟩:ByteArray)=T:=⟨_,rfl⟩;obtain⟨A,hAA⟩:∃ A:ByteArray,(⟨A0.toArray⟩:ByteArray)=A:=⟨_,rfl⟩;have hTl:T0=T.data.toList:=by rw[<-hT]
  have hTs:T.size<=1048576:=by rw[<-hT,aR];omega
  rw[hg] at HG;have HG2:=hid (show Calls Tryz.prog 13 #[.string s,.string kt,.string v] w fun e w'=>e=.returned (.tuple #[.string T,.bool true])/\Below w.heap.size w w' by rw[<-hT];exact HG.out);have HP:=hid fun(wz:World) (hz:ML m wz)=>(by
   have h:=bytesPut_i s kt T m wz hz hs hkt hTs;rw[<-hTl,hA] at h;rw[<-hAA];exact h:Calls Tryz.prog 11 #[.string s,.string kt,.string T] wz fun e w'=>e=.returned (.tuple #[.string A,.bool true])/\Below wz.heap.size wz w')
  have HF:=hid (show canonI s.data.toList kt.data.toList v.data.toList=(A.toList==v.toList) by
   rw[hc,<-hAA,zaZ,zaZ];show decide (A0=v.data.toList)=(A0==v.data.toList);rw[Bool.eq_iff_iff,decide_eq_true_eq,beq_iff_eq])
  clear hg HG hT hAA hTl hTs hT4 hA hc;go_enter Tryz.func14,Tryz.ntmps14;go_wp2_with (first|(go_at_call 11;have _u:=HB2;refine(HP.out _ (HM.out.below HB2.out)).mono ?_;rintro e w3 ⟨rfl,hb3⟩;have HB3:=hid (HB2.out.trans (hb3.mono HB2.out.size));clear hb3)|(go_at_call 13;refine HG2.out.mono ?_;rintro e w2 ⟨rfl,hb2⟩;have HB2:=hid hb2;clear hb2))
  go_ret
  exact⟨by rw[HF.out];rfl,HB3.out⟩
def SkOut (l kt s:List UInt8) (lo:Nat) (e:Ending) (w':World):Prop:=match skipIn l kt s with
 | some gs=>∃ b v,e=.returned (.tuple #[v,.bool true])/\lo<=b/\aH w' b v (gs.map ix)
 | none=>e=.returned (.tuple #[.slice none 0 0,.bool false])
theorem SkOut.no {l kt s:List UInt8} {lo:Nat} {e:Ending} {w':World} (h:skipIn l kt s=none) (he:e=.returned (.tuple #[.slice none 0 0,.bool false])):SkOut l kt s lo e w':=by
 unfold SkOut;rw[h];exact he
theorem SkOut.yes {l kt s:List UInt8} {lo:Nat} {e:Ending} {w':World} {gs:List Nat} (h:skipIn l kt s=some gs) (he:∃ b v,e=.returned (.tuple #[v,.bool true])/\lo<=b/\aH w' b v (gs.map ix)):SkOut l kt s lo e w':=by
 unfold SkOut;rw[h];exact he

def LG (x:Wf.Sc) (v:Value) (W:World) (n:Nat) (k:Wf.K):Prop:=∀ (S:ByteArray) (w:World),S.size<=100000->Below W.heap.size W w->Calls Tryz.prog 110 #[.agg #[v],.string S,tx k.text,.int .i64 n] w fun e w'=>aB (Wf.getB x n k S.data.toList) w e w'/\Below w.heap.size w w'
def tkV:Option (List UInt8 × List UInt8)->Value
 | some y=>.tuple #[tx y.1,tx y.2,.bool true]
 | none=>.tuple #[.string ⟨#[]⟩,.string ⟨#[]⟩,.bool false]
theorem below_drewN (w:World) (n:Nat):Below w.heap.size w (w.drewN n):=⟨rfl,rfl,rfl,zaA,fun _ _=>rfl⟩
theorem getN_spec (S:ByteArray) (w:World) (hS:S.size<=100000):Calls Tryz.prog 140 #[.string S] w fun e w'=>e=.returned (getNV (Wf.getN S.data.toList))/\Below w.heap.size w w' :=
 (numGet_spec S w (by omega)).mono fun e w' ⟨h1,n,h2⟩=>⟨h1,by rw[h2];exact below_drewN _ _⟩
theorem l5take (S:ByteArray) (w:World) (hS:S.size<=100000):Calls Tryz.prog 141 #[.string S] w fun e w'=>e=.returned (tkV (Wf.takeN S.data.toList))/\Below w.heap.size w w':=by
 have HG:=hid fun wz=>getN_spec S wz hS;cases hn:Wf.getN S.data.toList with
 | none =>
  have HF:=hid (show Wf.takeN S.data.toList=none by unfold Wf.takeN;rw[hn]);rw[hn] at HG;have HG2:=hid (show ∀ wz,Calls Tryz.prog 140 #[.string S] wz fun e w'=>e=.returned (.tuple #[.int .i64 0,.string ⟨#[]⟩,.bool false])/\Below wz.heap.size wz w' from HG.out);clear hn HG;go_enter Tryz.func141,Tryz.ntmps141;go_wp2_with (go_at_call 140;refine(HG2.out _).mono ?_;rintro e w2 ⟨rfl,hb2⟩;have HB2:=hid hb2;clear hb2)
  all_goals exact zbD (v:=.tuple #[.string ⟨#[]⟩,.string ⟨#[]⟩,.bool false]) (by simp[results,Tryz.results141,go_sem, *]) rfl ⟨by rw[HF.out];rfl,HB2.out⟩
 | some y =>
  obtain⟨m,r⟩:=y;obtain⟨hm,hr,_⟩:=Wf.getN_len hn;obtain⟨R,hR⟩:∃ R:ByteArray,(⟨r.toArray⟩:ByteArray)=R:=⟨_,rfl⟩;have hRl:R.data.toList=r:=by rw[<-hR]
  have hRs:R.size=r.length:=by rw[<-hR];rfl
  rw[hn] at HG;have HG2:=hid (show ∀ wz,Calls Tryz.prog 140 #[.string S] wz fun e w'=>e=.returned (.tuple #[.int .i64 m,.string R,.bool true])/\Below wz.heap.size wz w' by rw[<-hR];exact HG.out);by_cases h:m<=r.length
  ·have hmR:m<=R.size:=by omega
   have HF:=hid (show Wf.takeN S.data.toList=some (r.take m,r.drop m) by unfold Wf.takeN;rw[hn];dsimp only;rw[if_pos h]);have k1:=gH R m hmR;have k2:=bD R m hmR;have HX:=hid (show R.extract 0 m=⟨(r.take m).toArray⟩ by rw[aQ,bH,List.drop_zero,Nat.sub_zero,hRl]);have HY:=hid (show R.extract m R.size=⟨(r.drop m).toArray⟩ by rw[aQ,cI,hRl]);obtain⟨X,hX⟩:∃ X,R.extract 0 m=X:=⟨_,rfl⟩;obtain⟨Y,hY⟩:∃ Y,R.extract m R.size=Y:=⟨_,rfl⟩;rw[hX] at k1 HX;rw[hY] at k2 HY;have hnd:decide ((R.size:Int)<(m:Int))=false:=decide_eq_false (by omega);clear hn HG hR hRl hRs hr h hX hY;go_enter Tryz.func141,Tryz.ntmps141;go_wp2_with (go_at_call 140;refine(HG2.out _).mono ?_;rintro e w2 ⟨rfl,hb2⟩;have HB2:=hid hb2;clear hb2)
   try go_region
   all_goals (try go_wp2_with fail)
   all_goals exact zbD (v:=.tuple #[.string X,.string Y,.bool true]) (by simp[results,Tryz.results141,go_sem, *]) rfl ⟨by rw[HF.out,HX.out,HY.out];rfl,by have B:=HB2.out;repeat (first|with_reducible exact B|with_reducible refine zbE ?_)⟩
  ·have HF:=hid (show Wf.takeN S.data.toList=none by unfold Wf.takeN;rw[hn];dsimp only;rw[if_neg h])
   have hnd:(R.size:Int)<(m:Int):=(by omega);clear hn HG hR hRl hRs hr h;go_enter Tryz.func141,Tryz.ntmps141;go_wp2_with (go_at_call 140;refine(HG2.out _).mono ?_;rintro e w2 ⟨rfl,hb2⟩;have HB2:=hid hb2;clear hb2)
   all_goals exact zbD (v:=.tuple #[.string ⟨#[]⟩,.string ⟨#[]⟩,.bool false]) (by simp[results,Tryz.results141,go_sem, *]) rfl ⟨by rw[HF.out];rfl,HB2.out⟩
def WhOut (o:Option Wf.V) (w:World) (e:Ending) (w':World):Prop:=match o with
 | some y=>∃ b,e=.returned (.tuple #[ptr b,.bool true])/\LV w' (fun z=>w.heap.size<=z) y b
 | none=>∃ (p:Option Addr),e=.returned (.tuple #[.pointer p,.bool false])
theorem WhOut.no {o:Option Wf.V} {w w':World} {e:Ending} (h:o=none) (he:∃ (p:Option Addr),e=.returned (.tuple #[.pointer p,.bool false])):WhOut o w e w':=by
 subst h;exact he
theorem WhOut.yes {o:Option Wf.V} {w w':World} {e:Ending} {v:Wf.V} (h:o=some v) (he:∃ b,e=.returned (.tuple #[ptr b,.bool true])/\LV w' (fun z=>w.heap.size<=z) v b):WhOut o w e w':=by
 subst h;exact he
def wholeO:Option (Wf.V × List UInt8)->Option Wf.V
 | some (v,[])=>some v
 | _=>none
theorem whole_of {p:Wf.Reads} {s:List UInt8} {o:Option (Wf.V × List UInt8)} (h:p s=o):Wf.whole p s=wholeO o:=by
 subst h;unfold Wf.whole;rcases p s with _|⟨u,_|⟨a,r⟩⟩ <;> rfl
section
variable (x:Wf.Sc) (v:Value) (W:World) (n:Nat) (k:Wf.K) (S:ByteArray) (w:World)
theorem lwhole (hS:S.size<=100000) (hW:Below W.heap.size W w) (H:LG x v W n k):Calls Tryz.prog 72 #[.agg #[v],.string S,tx k.text,.int .i64 n] w fun e w'=>WhOut (Wf.whole (Wf.getB x n k) S.data.toList) w e w'/\Below w.heap.size w w':=by
 have HH:=hid fun wz (h:Below W.heap.size W wz)=>H S wz hS h;obtain⟨o,ho⟩:∃ o,Wf.getB x n k S.data.toList=o:=⟨_,rfl⟩;have HF:=hid (whole_of ho);rw[ho] at HH;have HW:=hid hW;obtain⟨K,hK⟩:∃ K:ByteArray,(⟨k.text.toArray⟩:ByteArray)=K:=⟨_,rfl⟩;simp only[tx,hK] at HH ⊢;clear ho hW hK H;rcases o with _|⟨u,rr⟩
 ·go_enter Tryz.func72,Tryz.ntmps72
  go_wp2_with (go_at_call 110;refine(HH.out _ (HW.out.alloc HW.out.size _)).mono ?_;rintro e w2 ⟨⟨p,r,rfl⟩,hb2⟩;have HB2:=hid (aC ((Below.refl w.heap.size w).alloc (zaA) _) hb2);clear hb2)
  all_goals exact zbD (v:=.tuple #[.pointer p,.bool false]) (by simp[results,Tryz.results72,go_sem, *]) rfl ⟨WhOut.no HF.out ⟨_,rfl⟩,HB2.out⟩
 ·obtain⟨RR,hRR⟩:∃ RR:ByteArray,(⟨rr.toArray⟩:ByteArray)=RR:=⟨_,rfl⟩
  have HO:=hid fun(w1 w':World) (e:Ending) (h:aB (some (u,rr)) w1 e w')=>(by unfold aB at h;dsimp only at h;rw[tx,hRR] at h;exact h:∃ b,e=.returned (.tuple #[ptr b,.string RR,.bool true])/\LV w' (fun z=>w1.heap.size<=z) u b);cases rr with
  | nil =>
   have hre:(RR.toList==[])=true:=(by rw[<-hRR,zaZ];rfl);have hre2:RR.toList.isEmpty=true:=(by rw[<-hRR,zaZ];rfl);clear hRR;go_enter Tryz.func72,Tryz.ntmps72;go_wp2_with (go_at_call 110;refine(HH.out _ (HW.out.alloc HW.out.size _)).mono ?_;rintro e w2 ⟨ho,hb2⟩;obtain⟨b,rfl,hlv⟩:=HO.out _ _ _ ho;have HLV:=hid hlv;have HB2:=hid (aC ((Below.refl w.heap.size w).alloc (zaA) _) hb2);clear hb2 hlv ho)
   all_goals exact zbD (v:=.tuple #[ptr b,.bool true]) (by simp[results,Tryz.results72,go_sem, *]) rfl ⟨WhOut.yes HF.out ⟨b,rfl,LV.mono HLV.out fun z hz _=>by simp at hz;omega⟩,HB2.out⟩
  | cons c0 r0 =>
   have hre:(RR.toList==[])=false:=(by rw[<-hRR,zaZ];rfl);have hre2:RR.toList.isEmpty=false:=(by rw[<-hRR,zaZ];rfl);have hre3:RR.toList≠[]:=(by rw[<-hRR,zaZ];exact List.cons_ne_nil _ _);clear hRR;go_enter Tryz.func72,Tryz.ntmps72;go_wp2_with (go_at_call 110;refine(HH.out _ (HW.out.alloc HW.out.size _)).mono ?_;rintro e w2 ⟨ho,hb2⟩;obtain⟨b,rfl,hlv⟩:=HO.out _ _ _ ho;have HB2:=hid (aC ((Below.refl w.heap.size w).alloc (zaA) _) hb2);clear hb2 hlv ho)
   all_goals exact zbD (v:=.tuple #[ptr b,.bool false]) (by simp[results,Tryz.results72,go_sem, *]) rfl ⟨WhOut.no HF.out ⟨_,rfl⟩,HB2.out⟩
end

section
variable (x:Wf.Sc) (v:Value) (W:World) (n:Nat) (S KT:ByteArray) (D:Int) (w:World) (o:Option (Wf.V × List UInt8))
theorem rgetno (h:S.toList.isEmpty=true\/(S.toList.isEmpty=false/\decide (D<1)=true)) (ho:o=none):Calls Tryz.prog 110 #[.agg #[v],.string S,.string KT,.int .i64 D] w fun e w'=>aB o w e w'/\Below w.heap.size w w':=by
 have HO:=hid ho;clear ho;rcases h with h|⟨h,h2⟩;all_goals
  go_enter Tryz.func110,Tryz.ntmps110;go_wp2_with fail
  all_goals exact zbD (v:=.tuple #[.pointer none,.string S,.bool false]) (by simp[results,Tryz.results110,go_sem, *]) rfl ⟨aB.no HO.out ⟨_,_,rfl⟩,(zaB).alloc (zaA) _⟩
theorem dec_num (x:Wf.Sc) (n:Nat) (s:List UInt8):Wf.getB x (n+1) .num s=(Wf.getN s).map fun y=>(.mk 110 (Wf.dec y.1) 0 [],y.2):=rfl
theorem get_num (hS:S.size<=100000) (hE:S.toList.isEmpty=false) (hD:decide (D<1)=false):Calls Tryz.prog 110 #[.agg #[v],.string S,tx [110],.int .i64 D] w fun e w'=>aB (Wf.getB x (n+1) .num S.data.toList) w e w'/\Below w.heap.size w w':=by
 have HG:=hid fun wz=>getN_spec S wz hS;rw[dec_num];cases hn:Wf.getN S.data.toList with
 | none =>
  rw[hn] at HG;have HG2:=hid (show ∀ wz,Calls Tryz.prog 140 #[.string S] wz fun e w'=>e=.returned (.tuple #[.int .i64 0,.string ⟨#[]⟩,.bool false])/\Below wz.heap.size wz w' from HG.out);have HDC:=hid fun wz=>eF 0 0 wz (by omega) (by omega);obtain⟨X,hX⟩:∃ X:ByteArray,(⟨(Wf.dec 0).toArray⟩:ByteArray)=X:=⟨_,rfl⟩;simp only[tx,hX] at HDC;have HDC2:=hid (show ∀ wz,Calls Tryz.prog 89 #[.int .i64 0] wz fun e w'=>e=.returned (.string X)/\Below wz.heap.size wz w' from HDC.out);clear hn HG hX HDC;go_enter Tryz.func110,Tryz.ntmps110;go_wp2_with (first|(go_at_call 89;refine(HDC2.out _).mono ?_;rintro e w3 ⟨rfl,hb3⟩;have B3:=hid (aC B2.out hb3);clear hb3)|(go_at_call 140;refine(HG2.out _).mono ?_;rintro e w2 ⟨rfl,hb2⟩;have B2:=hid (aC ((Below.refl w.heap.size w).alloc (zaA) _) hb2);clear hb2))
  all_goals exact zbD (v:=.tuple #[ptr w3.heap.size,.string ⟨#[]⟩,.bool false]) (by simp[results,Tryz.results110,go_sem, *]) rfl ⟨aB.no rfl ⟨_,_,rfl⟩,B3.out.alloc B3.out.size _⟩
 | some y =>
  obtain⟨m,r⟩:=y;obtain⟨hm,hr,_⟩:=Wf.getN_len hn;rw[hn] at HG;obtain⟨R,hR⟩:∃ R:ByteArray,(⟨r.toArray⟩:ByteArray)=R:=⟨_,rfl⟩;have HG2:=hid (show ∀ wz,Calls Tryz.prog 140 #[.string S] wz fun e w'=>e=.returned (.tuple #[.int .i64 m,.string R,.bool true])/\Below wz.heap.size wz w' by rw[<-hR];exact HG.out);have HDC:=hid fun wz=>eF m m wz (zaA) (by omega);obtain⟨X,hX⟩:∃ X:ByteArray,(⟨(Wf.dec m).toArray⟩:ByteArray)=X:=⟨_,rfl⟩;simp only[tx,hX] at HDC;have HX:=hid hX;have HR:=hid hR;clear hn HG hR hr hX;go_enter Tryz.func110,Tryz.ntmps110;go_wp2_with (first|(go_at_call 89;refine(HDC.out _).mono ?_;rintro e w3 ⟨rfl,hb3⟩;have B3:=hid (aC B2.out hb3);clear hb3)|(go_at_call 140;refine(HG2.out _).mono ?_;rintro e w2 ⟨rfl,hb2⟩;have B2:=hid (aC ((Below.refl w.heap.size w).alloc (zaA) _) hb2);clear hb2))
  all_goals exact zbD (v:=.tuple #[ptr w3.heap.size,.string R,.bool true]) (by simp[results,Tryz.results110,go_sem, *]) rfl ⟨aB.yes rfl ⟨w3.heap.size,by rw[<-HR.out],by
   rw[<-HX.out];exact LV.new (kd:=[110]) (t:=Wf.dec m) (by decide) ⟨rfl,rfl⟩ rfl B3.out.size (by simp) (by simp[go_sem]) (by simp[go_sem]) (by simp[go_sem]) (by simp[go_sem])⟩,B3.out.alloc B3.out.size _⟩
theorem quoted_txt (b:List UInt8):Wf.quoted (39::(b++[39]))=(b.all Wf.aG&&decide (b.length<=12)):=by
 rw[Bool.eq_iff_iff,Wf.eL,Bool.and_eq_true,decide_eq_true_eq];constructor
 ·rintro⟨c,hc,h1,h2⟩
  have:b=c:=List.append_cancel_right (List.cons.inj hc).2;subst this;exact⟨h1,h2⟩
 ·rintro⟨h1,h2⟩
  exact⟨b,rfl,h1,h2⟩
theorem get_txt (hS:S.size<=100000) (hE:S.toList.isEmpty=false) (hD:decide (D<1)=false):Calls Tryz.prog 110 #[.agg #[v],.string S,tx [116],.int .i64 D] w fun e w'=>aB (Wf.getB x (n+1) .txt S.data.toList) w e w'/\Below w.heap.size w w':=by
 have HT:=hid fun wz=>l5take S wz hS;have hgb:Wf.getB x (n+1) .txt S.data.toList=(match Wf.takeN S.data.toList with|none=>none|some (b,r)=>if b.all Wf.aG=true/\b.length<=12 then some (.mk 116 b 0 [],r) else none):=rfl;cases hn:Wf.takeN S.data.toList with
 | none =>
  rw[hn] at HT hgb;have HF:=hid hgb;have HT2:=hid (show ∀ wz,Calls Tryz.prog 141 #[.string S] wz fun e w'=>e=.returned (.tuple #[.string ⟨#[]⟩,.string ⟨#[]⟩,.bool false])/\Below wz.heap.size wz w' from HT.out);have a1:=fun wz=>zbH (P:=Tryz.prog) (w:=wz) ⟨#[39]⟩ ⟨#[]⟩ (by decide);clear hn HT hgb;go_enter Tryz.func110,Tryz.ntmps110;go_wp2_with (go_at_call 141;refine(HT2.out _).mono ?_;rintro e w2 ⟨rfl,hb2⟩;have B2:=hid (aC ((Below.refl w.heap.size w).alloc (zaA) _) hb2);clear hb2)
  all_goals exact zbD (v:=.tuple #[ptr w2.heap.size,.string ⟨#[]⟩,.bool false]) (by simp[results,Tryz.results110,go_sem, *]) rfl ⟨aB.no HF.out ⟨_,_,rfl⟩,B2.out.alloc B2.out.size _⟩
 | some y =>
  obtain⟨b,r⟩:=y;have hbl:=Wf.takeN_len hn;rw[aE] at hbl;rw[hn] at HT hgb;dsimp only at hgb;obtain⟨R,hR⟩:∃ R:ByteArray,(⟨r.toArray⟩:ByteArray)=R:=⟨_,rfl⟩;obtain⟨B,hB⟩:∃ B:ByteArray,(⟨b.toArray⟩:ByteArray)=B:=⟨_,rfl⟩;have hBs:B.size<=100000:=by rw[<-hB,aR];omega
  have HT2:=hid (show ∀ wz,Calls Tryz.prog 141 #[.string S] wz fun e w'=>e=.returned (.tuple #[.string B,.string R,.bool true])/\Below wz.heap.size wz w' by rw[<-hR,<-hB];exact HT.out);obtain⟨B1,hB1⟩:∃ B1:ByteArray,(⟨#[39]⟩:ByteArray)++B=B1:=⟨_,rfl⟩;obtain⟨B2',hB2⟩:∃ B2':ByteArray,B1++(⟨#[39]⟩:ByteArray)=B2':=⟨_,rfl⟩;have hB1s:B1.size<=100001:=by rw[<-hB1,zaO];show 1+B.size<=_;omega
  have hB2s:B2'.size<=100002:=by rw[<-hB2,zaO];show B1.size+1<=_;omega
  have a1:∀ wz,(Op.stringOp .add ⟨#[39]⟩ B).run Tryz.prog wz=.ok (.string B1) wz:=fun wz=>by rw[<-hB1];exact zbH (P:=Tryz.prog) (w:=wz) ⟨#[39]⟩ B (by show 1+B.size<=_;omega)
  have a2:∀ wz,(Op.stringOp .add B1 ⟨#[39]⟩).run Tryz.prog wz=.ok (.string B2') wz:=fun wz=>by rw[<-hB2];exact zbH (P:=Tryz.prog) (w:=wz) B1 ⟨#[39]⟩ (by show B1.size+1<=_;omega)
  have hl2:B2'.data.toList=39::(b++[39]):=by
   rw[<-hB2,zaU,zaW,<-hB1,zaU,zaW,<-hB];rfl
  have HTX:=hid fun wz=>(by have h:=lW B2' wz (by omega);rw[hl2,quoted_txt] at h;exact h:Calls Tryz.prog 126 #[.string B2'] wz fun e w'=>e=.returned (.bool (b.all Wf.aG&&decide (b.length<=12)))/\wz=w');obtain⟨Q,hQ⟩:∃ Q,(b.all Wf.aG&&decide (b.length<=12))=Q:=⟨_,rfl⟩;rw[hQ] at HTX;have HF:=hid (show Wf.getB x (n+1) .txt S.data.toList=if Q=true then some (.mk 116 b 0 [],r) else none by rw[hgb,<-hQ];simp only[Bool.and_eq_true,decide_eq_true_eq]);have HR:=hid hR;have H2:=hid hl2;clear hn HT hgb hR hB hB1 hB2 hl2 hQ hbl;go_enter Tryz.func110,Tryz.ntmps110;go_wp2_with (first|(go_at_call 126;refine(HTX.out _).mono ?_;rintro e w3 ⟨rfl,rfl⟩)|(go_at_call 141;refine(HT2.out _).mono ?_;rintro e w2 ⟨rfl,hb2⟩;have C2:=hid (aC ((Below.refl w.heap.size w).alloc (zaA) _) hb2);clear hb2))
  all_goals exact zbD (v:=.tuple #[ptr w2.heap.size,.string R,.bool Q]) (by simp[results,Tryz.results110,go_sem, *]) rfl ⟨by
   cases Q with
   | false=>exact aB.no HF.out ⟨_,_,rfl⟩
   | true =>
    refine aB.yes HF.out ⟨w2.heap.size,by rw[<-HR.out],?_⟩;have hX:B2'=⟨(39::(b++[39])).toArray⟩:=(aQ _ _).2 H2.out;rw[hX];exact LV.new (kd:=[116]) (t:=39::(b++[39])) (by decide) ⟨rfl,rfl⟩ rfl C2.out.size (by simp) (by simp[go_sem]) (by simp[go_sem]) (by simp[go_sem]) (by simp[go_sem]),C2.out.alloc C2.out.size _⟩
end

theorem items_map {p:Wf.Reads} {m:Nat} {s r:List UInt8} {l:List Wf.V} {u:Wf.V} (h:p s=some (u,r)):((Wf.getItems p (m+1) s).map fun y=>(l++y.1,y.2))=(Wf.getItems p m r).map fun y=>((l++[u])++y.1,y.2):=by
 rw[Wf.getItems,h];dsimp only;rw[Option.map_map];congr 1
 funext y
 simp
section
variable (x:Wf.Sc) (v:Value) (W:World) (n:Nat) (k:Wf.K) (S:ByteArray) (D:Int) (w:World) (M:Nat)
theorem lsome (hM:M<=999999) (hS:S.size<=100000) (hD:D=(n:Int)+1) (hn:n<=1000) (IH:LG x v W n k) (hW:Below W.heap.size W w):Calls Tryz.prog 142 #[.agg #[v],.string S,tx (Wf.K.list k).text,.int .i64 M,.int .i64 D] w fun e w'=>aB (if M<=20 then (Wf.getItems (Wf.getB x n k) M S.data.toList).map fun y=>(.mk 91 [] 0 y.1,y.2) else none) w e w'/\Below w.heap.size w w':=by
 obtain⟨KT,hKT⟩:∃ KT:ByteArray,(⟨(Wf.K.list k).text.toArray⟩:ByteArray)=KT:=⟨_,rfl⟩;obtain⟨K1,hK1⟩:∃ K1:ByteArray,(⟨k.text.toArray⟩:ByteArray)=K1:=⟨_,rfl⟩;have hkl:KT.data.toList=91::k.text:=by rw[<-hKT];rfl
 have hks:1<=KT.size:=by rw[<-aE,hkl];simp
 have hkx:KT.extract 1 KT.size=K1:=by rw[<-hK1,aQ,cI,hkl];rfl
 have kx:∀ wz,(Instr.slice 9 (.string KT) (some (.int .i64 1)) none none).run Tryz.prog wz=.ok (.string K1) wz:=fun wz=>by
  have h:=bD KT 1 hks wz;rw[hkx] at h;exact h
 have HKH:=hid (show KT.data.toList.head? = some 91 by rw[hkl];rfl);have hIH2:∀ (S:ByteArray) (w:World),S.size<=100000->Below W.heap.size W w->Calls Tryz.prog 110 #[.agg #[v],.string S,.string K1,.int .i64 n] w fun e w'=>aB (Wf.getB x n k S.data.toList) w e w'/\Below w.heap.size w w':=by rw[<-hK1];exact IH
 have HRD:=hid hIH2;have HW:=hid hW;have kd:IntKind.i64.wrap (D-1)=(n:Int):=by rw[hD,Int.add_sub_cancel];exact zbI _ (by omega)
 have ST:=hid fun W1 h=>lU w v KT W1 h;obtain⟨T,hT⟩:∃ T,(Wf.getItems (Wf.getB x n k) M S.data.toList)=T:=⟨_,rfl⟩;have HT:=hid hT;rw[tx,hKT,hT];clear hT hKT hK1 hkl hkx hIH2 IH hW hD;by_cases h20:M<=20
 ·rw[if_pos h20]
  go_enter Tryz.func142,Tryz.ntmps142;go_wp2_with fail
  obtain⟨vb0,kb0,t20⟩:=ST.out _ rfl;have VB0:=hid vb0;have KB0:=hid kb0;have T20:=hid t20;clear vb0 kb0 t20;go_loopw [1,14] (fun s1 s14 wr=>∃ (C:ByteArray) (a:Option Addr) (m c:Nat) (l:List Wf.V) (bs:List Nat),s1=.string C/\s14=.int .i64 m/\C.size<=100000/\m<=M/\Hid (VBk v w wr w.heap.size (w.heap.size+1) KT ⟨#[]⟩/\KB w wr (w.heap.size+1) (w.heap.size+1+1) a m c l bs/\wr.cell? ⟨w.heap.size+1,2,none⟩=some (.slice none 0 0)/\T=(Wf.getItems (Wf.getB x n k) (M-m) C.data.toList).map fun y=>(l++y.1,y.2))) (fun _ s14 _=>M-(RowKit.intOf s14).toNat)
  case atStart =>
   refine⟨S,none,0,0,[],[],rfl,rfl,hS,Nat.zero_le _,hid ⟨VB0.out,KB0.out,T20.out,?_⟩⟩;rw[<-HT.out,Nat.sub_zero];simp
  case round =>
   obtain⟨C,a,m,c,l,bs,rfl,rfl,hCS,hm20,hh⟩:=hrel;have hv3:=hh.out.2.1.v3;have hf3:=hh.out.2.1.f3;have hr0:=hh.out.1.r0;have hlv:=hh.out.1.lt;have hlr:=hh.out.1.rlt;have hsz:=hh.out.2.1.sz;have HLL:=hid (show l.length=m by rw[<-hh.out.2.1.vals.len,hh.out.2.1.hl]);by_cases hlt:m<M
   ·have BW:=hid (HW.out.trans (hh.out.1.bl.mono HW.out.size))
    have HR:=hid (HRD.out C wr.drew hCS (BW.out.trans ⟨rfl,rfl,rfl,zaA,fun _ _=>rfl⟩));have HMM:=hid (show M-m=(M-(m+1))+1 by omega);go_wp2_with fail
    cases hp:Wf.getB x n k C.data.toList with
    | none =>
     have HRES:=hid (show T=none by rw[hh.out.2.2.2,HMM.out,Wf.getItems,hp];rfl);have HO:=hid fun(e:Ending) (w':World) (h:aB (Wf.getB x n k C.data.toList) wr.drew e w')=>(by unfold aB at h;rw[hp] at h;exact h:∃ (p:Option Addr) (r:ByteArray),e=.returned (.tuple #[.pointer p,.string r,.bool false]));clear hp;go_region_held3 (fun w'=>w'.cell? ⟨w.heap.size,0,none⟩=some v) (first|exact j0|go_keep) ((go_at_call 110;refine HR.out.mono ?_;rintro e w3 ⟨ho,hb3⟩;obtain⟨p3,r3,rfl⟩:=HO.out _ _ ho;have HB3:=hid (zbE (Below.refl wr.heap.size wr) |>.trans hb3);have j0:=(HB3.out.cell (p:=⟨w.heap.size,0,none⟩) hlr).trans hr0;clear ho hb3))
     all_goals (go_wp2_with fail)
     all_goals exact zbD (v:=.tuple #[.pointer none,.string C,.bool false]) (by simp[results,Tryz.results142,go_sem, *]) rfl ⟨aB.no (by rw[HRES.out];rfl) ⟨_,_,rfl⟩,hh.out.1.bl.trans (HB3.out.mono hh.out.1.bl.size)⟩
    | some y =>
     obtain⟨u,rr⟩:=y;obtain⟨RR,hRR⟩:∃ RR:ByteArray,(⟨rr.toArray⟩:ByteArray)=RR:=⟨_,rfl⟩;have HRR:=hid (show RR.data.toList=rr by rw[<-hRR]);have hRs:RR.size<=100000:=by
      have h:=Wf.getB_le hp;rw[<-hRR,aR];rw[aE] at h;omega
     have HO:=hid fun(e:Ending) (w':World) (h:aB (Wf.getB x n k C.data.toList) wr.drew e w')=>(by unfold aB at h;rw[hp] at h;dsimp only at h;rw[tx,hRR] at h;exact h:∃ b,e=.returned (.tuple #[ptr b,.string RR,.bool true])/\LV w' (fun z=>wr.drew.heap.size<=z) u b);have HE:=hid (show T=(Wf.getItems (Wf.getB x n k) (M-(m+1)) RR.data.toList).map fun y=>((l++[u])++y.1,y.2) by rw[hh.out.2.2.2,HMM.out,items_map hp,<-hRR]);obtain⟨i0,hi0,hz0,hz1,hz2⟩:=info_parts iC;have HI0:=hid hi0;have HZ0:=hid hz0;have HZ1:=hid hz1;have HZ2:=hid hz2;clear hi0 hz0 hz1 hz2 hp hRR;go_region_held3 (fun w'=>w'.cell? ⟨w.heap.size,0,none⟩=some v) (first|exact j0|go_keep) ((go_at_call 110;refine HR.out.mono ?_;rintro e w3 ⟨ho,hb3⟩;obtain⟨pb,rfl,hlv3⟩:=HO.out _ _ ho;have HLV3:=hid hlv3;have HB3:=hid (zbE (Below.refl wr.heap.size wr) |>.trans hb3);have j0:=(HB3.out.cell (p:=⟨w.heap.size,0,none⟩) hlr).trans hr0;have j3:=(HB3.out.cell (p:=⟨w.heap.size+1,3,none⟩) hlv).trans hv3;have jf:=(HB3.out.frozen (p:=⟨w.heap.size+1,3,none⟩) hlv).trans hf3;have hw3:=zaC hlv HB3.out.size;have HOWN:=hid (bY hh.out.2.1.own HB3.out);clear ho hb3 hlv3))
     all_goals (go_wp2_with (at_builtin;refine wpList_append_lies _ rfl (.tmp 47) (.tmp 49) 101 rfl (w.heap.size+1+1) 57 i0 (.pointer none) 1 8 Tryz.underlying101 HI0.out HZ0.out HZ1.out HZ2.out rfl (by decide) (.slice a m c) m _ (by rfl) (HOWN.out.alloc _) ⟨w3.heap.size,0,none⟩ 1 1 [ptr pb] (by rfl) rfl (World.news_of_block (MapKept.heap_alloc w3 (.cells #[ptr pb] 57)).1) (fL _) (by decide) (by unfold maxLen;omega) (by omega) (by simp;omega) _ rfl ?_;intro g cap w4 hown4 hgrow4 hat4 hlt4;have B4:=hid (aW (base:=w.heap.size+1+1) hgrow4 (fun g hg=>(aU HOWN.out g hg).1) (by simp;omega));have u3:w4.cell? ⟨w.heap.size+1,3,none⟩=some (.slice a m c):=((B4.out.cell (p:=⟨w.heap.size+1,3,none⟩) (zaH _)).trans ((zbB w3 _ ⟨w.heap.size+1,3,none⟩ hw3).trans j3));have uf:w4.frozen? ⟨w.heap.size+1,3,none⟩=false:=((B4.out.frozen (p:=⟨w.heap.size+1,3,none⟩) (zaH _)).trans ((((Below.refl w3.heap.size w3).alloc (zaA) _).frozen (p:=⟨w.heap.size+1,3,none⟩) hw3).trans jf));have hlt4v:w.heap.size+1<w4.heap.size:=zaC hw3 (zaI (by simp) B4.out.size);have HOWN4:=hid hown4;have HG4:=hid hgrow4;have HAT4:=hid hat4;clear hown4 hgrow4 hat4))
     have B3X:=hid (HB3.out.trans (((Below.refl w3.heap.size w3).alloc (zaA) (.cells #[ptr pb] 57)).mono HB3.out.size));have KBN:=hid (hh.out.2.1.put B3X.out HG4.out HOWN4.out HAT4.out (LV.below (W:=w3) HLV3.out ((zaB).alloc (zaA) _)));have VBN:=hid ((hh.out.1.step (hh.out.1.bl.trans (B3X.out.mono hh.out.1.bl.size)) B3X.out hlr hlv).put B4.out (by omega) (by omega) (by omega) 3 (by omega) (.slice (some ⟨g,0,none⟩) (m+1) cap));have C2N:=hid (show(w4.setCell ⟨w.heap.size+1,3,none⟩ (.slice (some ⟨g,0,none⟩) (m+1) cap)).cell? ⟨w.heap.size+1,2,none⟩=some (.slice none 0 0) from(zbA w4 _ _ _ (by simp)).trans ((B4.out.cell (p:=⟨w.heap.size+1,2,none⟩) (zaH _)).trans ((B3X.out.cell (p:=⟨w.heap.size+1,2,none⟩) hlv).trans hh.out.2.2.1)));all_goals go_roundw
     all_goals first
     | exact⟨RR,_,m+1,cap,_,_,rfl,by go_num,hRs,by omega,hid ⟨VBN.out,KBN.out,C2N.out,HE.out⟩⟩
     | (simp[RowKit.intOf];omega)
   ·have hm:m=M:=by omega
    subst hm;have HRES:=hid (show(T.map fun y=>((.mk 91 [] 0 y.1,y.2):Wf.V × List UInt8))=some (.mk 91 [] 0 l,C.data.toList) by
     rw[hh.out.2.2.2,Nat.sub_self,Wf.getItems];simp)
    go_wp2_with fail
    exact zbD (v:=.tuple #[ptr (w.heap.size+1),.string C,.bool true]) (by simp[results,Tryz.results142,go_sem, *]) rfl ⟨aB.yes HRES.out ⟨w.heap.size+1,by rw[tx,Array.toArray_toList],hh.out.2.1.list hh.out.1 hh.out.2.2.1 HKH.out⟩,hh.out.1.bl⟩
 ·rw[if_neg h20]
  go_enter Tryz.func142,Tryz.ntmps142;go_wp2_with fail
  exact zbD (v:=.tuple #[.pointer none,.string S,.bool false]) (by simp[results,Tryz.results142,go_sem, *]) rfl ⟨aB.no rfl ⟨_,_,rfl⟩,((zaB).alloc (zaA) _).alloc (by simp) _⟩
end

section
variable (x:Wf.Sc) (v:Value) (W:World) (n:Nat) (S KT:ByteArray) (D:Int) (w:World) (o:Option (Wf.V × List UInt8))
theorem get_ref (hS:S.toList.isEmpty=false) (hD:decide (D<1)=false) (hk0:0<KT.size) (ek:∀ h,(KT[0]'h).toNat=64)
  (hp:∀ wz,Below w.heap.size w wz->Calls Tryz.prog 143 #[.agg #[v],.string S,.string KT,.int .i64 D] wz fun e w'=>aB o wz e w'/\Below wz.heap.size wz w') :
  Calls Tryz.prog 110 #[.agg #[v],.string S,.string KT,.int .i64 D] w fun e w'=>aB o w e w'/\Below w.heap.size w w':=by
 have HP:=hid hp;clear hp;go_enter Tryz.func110,Tryz.ntmps110;go_wp2_with (go_at_call 143;refine(HP.out _ ((zaB).alloc (zaA) _)).mono ?_;rintro e w7 ⟨ho,hb7⟩;obtain⟨p,r,b,rfl,hlr⟩:=ho.form;have HLR:=hid hlr;have HB7:=hid (aC ((Below.refl w.heap.size w).alloc (zaA) _) hb7);clear ho hb7 hlr)
 all_goals exact zbD (v:=.tuple #[.pointer p,.string r,.bool b]) (by simp[results,Tryz.results110,go_sem, *]) rfl ⟨HLR.out.mono (by simp),HB7.out⟩
theorem get_opt_no (hS:S.toList.isEmpty=false) (h0:0<S.size) (hD:decide (D<1)=false) (hk0:0<KT.size) (ek:∀ h,(KT[0]'h).toNat=63) (b0:Nat) (e1:∀ h,(S[0]'h).toNat=b0) (m0:((b0:Int)==0)=false) (m1:((b0:Int) != 1)=true) (ho:o=none) :
  Calls Tryz.prog 110 #[.agg #[v],.string S,.string KT,.int .i64 D] w fun e w'=>aB o w e w'/\Below w.heap.size w w':=by
 have HO:=hid ho;clear ho;go_enter Tryz.func110,Tryz.ntmps110;go_wp2_with fail
 all_goals exact zbD (v:=.tuple #[.pointer none,.string S,.bool false]) (by simp[results,Tryz.results110,go_sem, *]) rfl ⟨aB.no HO.out ⟨_,_,rfl⟩,(zaB).alloc (zaA) _⟩
theorem get_opt_none (R:ByteArray) (hS:S.toList.isEmpty=false) (h0:0<S.size) (h1:1<=S.size) (hR:S.extract 1 S.size=R) (hD:decide (D<1)=false) (hk0:0<KT.size) (ek:∀ h,(KT[0]'h).toNat=63) (hk:KT.data.toList.head? = some 63) (e1:∀ h,(S[0]'h).toNat=0) (ho:o=some (.mk 63 [] 0 [],R.data.toList)) :
  Calls Tryz.prog 110 #[.agg #[v],.string S,.string KT,.int .i64 D] w fun e w'=>aB o w e w'/\Below w.heap.size w w':=by
 have HO:=hid ho;have HKH:=hid hk;have kx:∀ wz,(Instr.slice 9 (.string S) (some (.int .i64 1)) none none).run Tryz.prog wz=.ok (.string R) wz:=fun wz=>by
  have h:=bD S 1 h1 wz;rw[hR] at h;exact h
 clear ho hR hk;go_enter Tryz.func110,Tryz.ntmps110;go_wp2_with fail
 go_region
 all_goals (go_wp2_with fail)
 all_goals exact zbD (v:=.tuple #[ptr (w.heap.size+1),.string R,.bool true]) (by simp[results,Tryz.results110,go_sem, *]) rfl (by
  have hR:∀ W3:World,W3.heap.size=w.heap.size+1->Below w.heap.size w W3->(aB o w (.returned (.tuple #[ptr (w.heap.size+1),.string R,.bool true])) (W3.alloc (.cells #[.string KT,.string ⟨#[]⟩,.slice none 0 0,.slice none 0 0] 103))/\Below w.heap.size w (W3.alloc (.cells #[.string KT,.string ⟨#[]⟩,.slice none 0 0,.slice none 0 0] 103))):=fun W3 h1 h2=>by
   refine⟨aB.yes HO.out ⟨w.heap.size+1,rfl,?_⟩,h2.alloc h2.size _⟩;rw[<-h1];exact LV.new (kd:=KT.data.toList) (t:=[]) (by decide) ⟨HKH.out,rfl⟩ rfl h2.size (by simp) (by first|(simp[go_sem];done)|(simp[go_sem];rfl)) (by first|(simp[go_sem];done)|(simp[go_sem];rfl)) (by simp[go_sem]) (by simp[go_sem])
  have hb:=(Below.refl w.heap.size w).alloc (zaA) (.cells #[v] 99);first|exact hR _ (by simp) hb|exact hR _ (by simp) hb.drew)
theorem get_opt_some (k:Wf.K) (R K1:ByteArray) (hS:S.toList.isEmpty=false) (h0:0<S.size) (h1:1<=S.size) (hR:S.extract 1 S.size=R) (hD:decide (D<1)=false) (hk0:0<KT.size) (hk1:1<=KT.size) (hK1:KT.extract 1 KT.size=K1) (ek:∀ h,(KT[0]'h).toNat=63) (hk:KT.data.toList.head? = some 63) (e1:∀ h,(S[0]'h).toNat=1) (kd:IntKind.i64.wrap (D-1)=(n:Int)) (o1:Option (Wf.V × List UInt8)) (ho:o=o1.map fun y=>(.mk 63 [] 0 [y.1],y.2))
  (hp:∀ wz,Below w.heap.size w wz->Calls Tryz.prog 110 #[.agg #[v],.string R,.string K1,.int .i64 n] wz fun e w'=>aB o1 wz e w'/\Below wz.heap.size wz w') :
  Calls Tryz.prog 110 #[.agg #[v],.string S,.string KT,.int .i64 D] w fun e w'=>aB o w e w'/\Below w.heap.size w w':=by
 have HP:=hid hp;have HKH:=hid hk;have HO:=hid ho;have kx:∀ wz,(Instr.slice 9 (.string S) (some (.int .i64 1)) none none).run Tryz.prog wz=.ok (.string R) wz:=fun wz=>by
  have h:=bD S 1 h1 wz;rw[hR] at h;exact h
 have ky:∀ wz,(Instr.slice 9 (.string KT) (some (.int .i64 1)) none none).run Tryz.prog wz=.ok (.string K1) wz:=fun wz=>by
  have h:=bD KT 1 hk1 wz;rw[hK1] at h;exact h
 clear hp hR hK1 hk ho;have c0:(w.alloc (.cells #[v] 99)).cell? ⟨w.heap.size,0,none⟩=some v:=by simp[go_sem]
 have B3:=hid ((Below.refl w.heap.size w).alloc (zaA) (.cells #[v] 99));have hl3:w.heap.size<(w.alloc (.cells #[v] 99)).heap.size:=by simp
 go_enter Tryz.func110,Tryz.ntmps110;go_wp2_with fail
 obtain⟨W3,hW3⟩:∃ W3,w.alloc (.cells #[v] 99)=W3:=⟨_,rfl⟩;rw[hW3] at c0 B3 hl3;rw[hW3];clear hW3;go_region_held3 (fun w'=>w'.cell? ⟨w.heap.size,0,none⟩=some v) (first|exact j0|go_keep) ((go_at_call 110;refine(HP.out W3.drew B3.out.drew).mono ?_;rintro e w7 ⟨ho,hb7⟩;obtain⟨p,r,b,rfl,hlr⟩:=ho.form;have HLR:=hid hlr;have HB7:=hid (zbE (Below.refl W3.heap.size W3) |>.trans hb7);have j0:=(HB7.out.cell (p:=⟨w.heap.size,0,none⟩) hl3).trans c0;clear ho hb7 hlr))
 all_goals (go_wp2_with fail)
 all_goals exact zbD (v:=.tuple #[ptr (w7.heap.size+1),.string r,.bool b]) (by simp[results,Tryz.results110,go_sem, *]) rfl (by
  have hle:=zaI B3.out.size HB7.out.size;have h7:=B3.out.trans (HB7.out.mono B3.out.size);refine⟨?_,(h7.alloc hle _).alloc (by simp;omega) _⟩;have hl:=HLR.out;cases ho1:o1 with
  | none =>
   rw[ho1] at hl;obtain⟨p',r',he⟩:=hl;obtain⟨_,_,e2⟩:=three he;injection e2 with e2;subst e2;exact aB.no (by rw[HO.out,ho1];rfl) ⟨_,_,rfl⟩
  | some y =>
   rw[ho1] at hl;obtain⟨b',he,hlv⟩:=hl;obtain⟨e0,e1,e2⟩:=three he;injection e0 with e0;injection e1 with e1;injection e2 with e2;subst e0 e1 e2;refine aB.yes (v:=.mk 63 [] 0 [y.1]) (r:=y.2) (by rw[HO.out,ho1];rfl) ⟨w7.heap.size+1,rfl,LV.opt1 (kb:=w7.heap.size) (u:=b') (KT:=KT) (by omega) hle (by first|(simp;done)|(simp;omega)) (by first|(simp;done)|(simp;omega)) HKH.out ?_ ?_ ?_ ?_ ?_ ?_ (LV.mono (LV.below (LV.below hlv ((zaB).alloc (zaA) _)) ((zaB).alloc (zaA) _)) fun z hz _=>by have:=B3.out.size;have:W3.drew.heap.size=W3.heap.size:=rfl;omega)⟩;all_goals (simp[go_sem];done))
theorem get_flag_no (hE:S.toList.isEmpty=false) (h0:0<S.size) (hD:decide (D<1)=false) (b0:Nat) (e1:∀ h,(S[0]'h).toNat=b0) (m0:(1:Int)<(b0:Int)) (ho:o=none):Calls Tryz.prog 110 #[.agg #[v],.string S,tx [102],.int .i64 D] w fun e w'=>aB o w e w'/\Below w.heap.size w w':=by
 have HO:=hid ho;clear ho;go_enter Tryz.func110,Tryz.ntmps110;go_wp2_with fail
 all_goals exact zbD (v:=.tuple #[.pointer none,.string S,.bool false]) (by simp[results,Tryz.results110,go_sem, *]) rfl ⟨aB.no HO.out ⟨_,_,rfl⟩,(zaB).alloc (zaA) _⟩
theorem get_flag (hE:S.toList.isEmpty=false) (h0:0<S.size) (h1:1<=S.size) (R:ByteArray) (hR:S.extract 1 S.size=R) (hD:decide (D<1)=false) (b0:Nat) (e1:∀ h,(S[0]'h).toNat=b0) (t:List UInt8) (hb:(b0=0/\t=[110,111])\/(b0=1/\t=[121,101,115])) (ho:o=some (.mk 102 t 0 [],R.data.toList)):Calls Tryz.prog 110 #[.agg #[v],.string S,tx [102],.int .i64 D] w fun e w'=>aB o w e w'/\Below w.heap.size w w':=by
 have HO:=hid ho;have kx:∀ wz,(Instr.slice 9 (.string S) (some (.int .i64 1)) none none).run Tryz.prog wz=.ok (.string R) wz:=fun wz=>by
  have h:=bD S 1 h1 wz;rw[hR] at h;exact h
 clear ho hR;rcases hb with⟨rfl,rfl⟩|⟨rfl,rfl⟩;all_goals
  go_enter Tryz.func110,Tryz.ntmps110;go_wp2_with fail
  go_region
  all_goals (go_wp2_with fail)
  all_goals exact zbD (v:=.tuple #[ptr (w.heap.size+1+1),.string R,.bool true]) (by simp[results,Tryz.results110,go_sem, *]) rfl (by
   have hR:∀ (W3:World) (t:List UInt8),W3.heap.size=w.heap.size+1+1->Below w.heap.size w W3->o=some (.mk 102 t 0 [],R.data.toList)->(aB o w (.returned (.tuple #[ptr (w.heap.size+1+1),.string R,.bool true])) (W3.alloc (.cells #[.string ⟨#[102]⟩,tx t,.slice none 0 0,.slice none 0 0] 103))/\Below w.heap.size w (W3.alloc (.cells #[.string ⟨#[102]⟩,tx t,.slice none 0 0,.slice none 0 0] 103))):=fun W3 t h1 h2 ho=>by
    refine⟨aB.yes ho ⟨w.heap.size+1+1,rfl,?_⟩,h2.alloc h2.size _⟩;rw[<-h1];exact LV.new (kd:=[102]) (t:=t) (by decide) ⟨rfl,rfl⟩ rfl h2.size (by simp) (by simp[go_sem]) (by simp[go_sem]) (by simp[go_sem]) (by simp[go_sem])
   have hb:=(Below.refl w.heap.size w).alloc (zaA) (.cells #[v] 99);have hS:∀ (W1:World) ob,W1.heap.size=w.heap.size+1->Below w.heap.size w W1->(W1.alloc ob).heap.size=w.heap.size+1+1/\Below w.heap.size w (W1.alloc ob):=fun W1 ob g1 g2=>⟨by simp[g1],g2.alloc g2.size _⟩;first
   | exact hR _ [110,111] (hS _ _ (by simp) hb).1 (hS _ _ (by simp) hb).2 HO.out
   | exact hR _ [110,111] (hS _ _ (by simp) hb.drew).1 (hS _ _ (by simp) hb.drew).2 HO.out
   | exact hR _ [110,111] (hS _ _ (by simp) hb).1 (hS _ _ (by simp) hb).2.drew HO.out
   | exact hR _ [121,101,115] (hS _ _ (by simp) hb).1 (hS _ _ (by simp) hb).2 HO.out
   | exact hR _ [121,101,115] (hS _ _ (by simp) hb.drew).1 (hS _ _ (by simp) hb.drew).2 HO.out
   | exact hR _ [121,101,115] (hS _ _ (by simp) hb).1 (hS _ _ (by simp) hb).2.drew HO.out)
theorem get_list (hS:S.size<=100000) (hE:S.toList.isEmpty=false) (h0:0<S.size) (hD:decide (D<1)=false) (hk0:0<KT.size) (ek:∀ h,(KT[0]'h).toNat=91)
  (hno:Wf.getN S.data.toList=none->o=none)
  (hp:∀ m R wz,Wf.getN S.data.toList=some (m,R.data.toList)->R.size<=100000->m<=999999->Below w.heap.size w wz->Calls Tryz.prog 142 #[.agg #[v],.string R,.string KT,.int .i64 m,.int .i64 D] wz fun e w'=>aB o wz e w'/\Below wz.heap.size wz w') :
  Calls Tryz.prog 110 #[.agg #[v],.string S,.string KT,.int .i64 D] w fun e w'=>aB o w e w'/\Below w.heap.size w w':=by
 have HG:=hid fun wz=>getN_spec S wz hS;cases hn:Wf.getN S.data.toList with
 | none =>
  have HO:=hid (hno hn);rw[hn] at HG;have HG2:=hid (show ∀ wz,Calls Tryz.prog 140 #[.string S] wz fun e w'=>e=.returned (.tuple #[.int .i64 0,.string ⟨#[]⟩,.bool false])/\Below wz.heap.size wz w' from HG.out);clear hn HG hp hno;go_enter Tryz.func110,Tryz.ntmps110;go_wp2_with (go_at_call 140;refine(HG2.out _).mono ?_;rintro e w2 ⟨rfl,hb2⟩;have B2:=hid (aC ((Below.refl w.heap.size w).alloc (zaA) _) hb2);clear hb2)
  all_goals exact zbD (v:=.tuple #[.pointer none,.string S,.bool false]) (by simp[results,Tryz.results110,go_sem, *]) rfl ⟨aB.no HO.out ⟨_,_,rfl⟩,B2.out⟩
 | some y =>
  obtain⟨m,r⟩:=y;obtain⟨hm,hr,_⟩:=Wf.getN_len hn;rw[aE] at hr;rw[hn] at HG;obtain⟨R,hR⟩:∃ R:ByteArray,(⟨r.toArray⟩:ByteArray)=R:=⟨_,rfl⟩;have HG2:=hid (show ∀ wz,Calls Tryz.prog 140 #[.string S] wz fun e w'=>e=.returned (.tuple #[.int .i64 m,.string R,.bool true])/\Below wz.heap.size wz w' by rw[<-hR];exact HG.out);have HP:=hid fun wz h=>hp m R wz (by rw[hn,<-hR]) (by rw[<-hR,aR];omega) hm h;clear hn HG hp hno hR hr;go_enter Tryz.func110,Tryz.ntmps110;go_wp2_with (first|(go_at_call 142;have _u:=B2;refine(HP.out _ B2.out).mono ?_;rintro e w7 ⟨ho,hb7⟩;obtain⟨p,r',b,rfl,hlr⟩:=ho.form;have HLR:=hid (hlr.mono B2.out.size);have HB7:=hid (B2.out.trans (hb7.mono B2.out.size));clear ho hb7 hlr)|(go_at_call 140;refine(HG2.out _).mono ?_;rintro e w2 ⟨rfl,hb2⟩;have B2:=hid (aC ((Below.refl w.heap.size w).alloc (zaA) _) hb2);have c2:w2.cell? ⟨w.heap.size,0,none⟩=some v:=(hb2.cell (p:=⟨w.heap.size,0,none⟩) (by simp)).trans (by simp[go_sem]);clear hb2))
  all_goals exact zbD (v:=.tuple #[.pointer p,.string r',.bool b]) (by simp[results,Tryz.results110,go_sem, *]) rfl ⟨HLR.out,HB7.out⟩
end
