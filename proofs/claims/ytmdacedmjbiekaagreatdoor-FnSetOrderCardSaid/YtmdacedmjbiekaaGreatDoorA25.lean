/- Packed. -/
import Derived.Test.YtmdacedmjbiekaaGreatDoorA24
import Derived.Test.YtmdacedmjbiekaaGreatDoorA7
import Derived.Maps.AppendAt
set_option maxRecDepth 99999
set_option maxHeartbeats 40000000
set_option linter.all false
namespace Go.Proofs.YtmdacedmjbiekaaGreatDoor
open Go.ChangeShapes Go.WideShapes Go.ChangeAt Go.RowKit Go.Lib
theorem a4T (v:Value) (G:Int) (N K S O:ByteArray) (w:World) (h:(S.toList.isEmpty=true/\Calls Tryz.prog 85 #[v,.string K] (w.alloc (.cells #[.int .i64 G,.string N,.string K,.string S] 86)) fun e w'=>e=.returned (.string O)/\Below (w.heap.size+1) (w.alloc (.cells #[.int .i64 G,.string N,.string K,.string S] 86)) w')\/(S.toList.isEmpty=false/\O=S)) :
  Calls Tryz.prog 51 #[v,.agg #[.int .i64 G,.string N,.string K,.string S]] w fun e w'=>e=.returned (.string O)/\Below w.heap.size w w':=by
 rcases h with⟨he,hc⟩|⟨he,rfl⟩
 ·have HC:=hid hc
  clear hc;go_enter Tryz.func51,Tryz.ntmps51;go_wp2_with (go_at_call 85;refine HC.out.mono ?_;rintro e w2 ⟨rfl,hb2⟩;have HB2:=hid hb2;clear hb2)
  go_ret
  exact⟨rfl,((Below.refl _ _).alloc (Nat.le_refl _) _).trans (HB2.out.mono (Nat.le_succ _))⟩
 ·go_enter Tryz.func51,Tryz.ntmps51
  go_wp2_with fail
  go_ret
  exact⟨rfl,(Below.refl _ _).alloc (Nat.le_refl _) _⟩
theorem kL (x:Wf.Sc) (hx:Wf.ScOk x) (lo b:Nat) (v:Value) (f:Wf.Fd) (W w:World) (hW:Below W.heap.size W w) (H:ScSp W lo b v x) (hk:f.kind.text.length<=12) (hr:Wf.aO x f.kind=true) :
  Calls Tryz.prog 51 #[v,.agg #[.int .i64 f.tag,tx f.name,tx f.kind.text,tx f.given]] w fun e w'=>e=.returned (tx (Wf.aH x f))/\Below w.heap.size w w':=by
 refine a4T v f.tag ⟨f.name.toArray⟩ ⟨f.kind.text.toArray⟩ ⟨f.given.toArray⟩ ⟨(Wf.aH x f).toArray⟩ w ?_;unfold Wf.aH;by_cases hg:f.given=[]
 ·left
  refine⟨by rw[ByteArray.toList_eq,hg];rfl,?_⟩;rw[if_pos hg];refine(a7Y x hx lo b v f.kind W _ (hW.alloc hW.size _) H hk hr).mono fun e w' ⟨h1,h2⟩=>⟨h1,?_⟩;have:(w.alloc (.cells #[.int .i64 f.tag,.string ⟨f.name.toArray⟩,.string ⟨f.kind.text.toArray⟩,.string ⟨f.given.toArray⟩] 86)).heap.size=w.heap.size+1:=by simp
  rw[<-this];exact h2
 ·right
  refine⟨by rw[ByteArray.toList_eq];cases hh:f.given with|nil=>exact absurd hh hg|cons a r=>rfl,by rw[if_neg hg]⟩
def bA (l kt:List UInt8):Option (Wf.Sc × Wf.K):=match Wf.schemaOf l with
 | none=>none
 | some x=>match Wf.aN kt with
  | none=>none
  | some k=>if Wf.aO x k=true then some (x,k) else none
def cK (l kt:List UInt8) (lo:Nat) (e:Ending) (w':World):Prop:=match bA l kt with
 | some y=>∃ b a c,e=.returned (.tuple #[.slice a y.1.length c,.bool true])/\ScSp w' lo b (.slice a y.1.length c) y.1
 | none=>∃ a n c,e=.returned (.tuple #[.slice a n c,.bool false])
theorem gQ {l kt:List UInt8} {y:Wf.Sc × Wf.K} (h:bA l kt=some y):Wf.schemaOf l=some y.1/\Wf.aN kt=some y.2/\Wf.aO y.1 y.2=true/\y.2.text=kt/\kt.length<=12:=by
 unfold bA at h;cases hs:Wf.schemaOf l with
 | none=>rw[hs] at h;cases h
 | some x =>
  rw[hs] at h;cases hk:Wf.aN kt with
  | none=>rw[hk] at h;cases h
  | some k =>
   rw[hk] at h;dsimp only at h;split at h
   ·rename_i hr
    simp only[Option.some.injEq] at h;subst h;have hl:=iR hk;unfold Wf.aN at hk;split at hk
    ·exact⟨rfl,rfl,hr,Wf.gZ hk,by assumption⟩
    ·cases hk
   ·cases h
theorem rT {l kt:List UInt8} {x:Wf.Sc} {k:Wf.K} {is ok:Bool} {n lo b c:Nat} {a:Option Addr} {w':World} (h:bA l kt=if (!is || ok)=true then some (x,k) else none) (hn:x.length=n) (hs:ScSp w' lo b (.slice a n c) x) {r:Bool} (hr:r=(!is || ok)):cK l kt lo (.returned (.tuple #[.slice a n c,.bool r])) w':=by
 subst hr;unfold cK;rw[h];cases hb:(!is || ok) with
 | true=>rw[if_pos rfl];exact⟨b,a,c,by rw[hn],by rw[hn];exact hs⟩
 | false=>rw[if_neg (by decide)];exact⟨_,_,_,rfl⟩
theorem mK (s kt:ByteArray) (w:World) (hs:s.size<=1048576):Calls Tryz.prog 35 #[.string s,.string kt] w fun e w'=>cK s.data.toList kt.data.toList w.heap.size e w'/\Below w.heap.size w w':=by
 have HOF:=hid fun wz=>l3Of s wz hs;have HOK:=hid fun wz=>uD kt.size kt wz (Nat.le_refl _);cases hsc:Wf.schemaOf s.data.toList with
 | none =>
  have HO:=hid fun e lo wz (h:cM s.data.toList lo e wz)=>(by unfold cM at h;rw[hsc] at h;exact h:∃ a n c,e=.returned (.tuple #[.slice a n c,.bool false]));have HF:=hid (show bA s.data.toList kt.data.toList=none by unfold bA;rw[hsc]);clear hsc;go_enter Tryz.func35,Tryz.ntmps35;go_wp2_with (go_at_call 71;refine(HOF.out _).mono ?_;rintro e w2 ⟨ho,hb2⟩;obtain⟨a,n,c,rfl⟩:=HO.out _ _ _ ho;have HB2:=hid hb2;clear ho hb2)
  go_ret2
  exact⟨by unfold cK;rw[HF.out];exact⟨_,_,_,rfl⟩,HB2.out⟩
 | some x =>
  have hx8:=(Wf.iX hsc).len;have HO:=hid fun e lo wz (h:cM s.data.toList lo e wz)=>(by unfold cM at h;rw[hsc] at h;obtain⟨b,v,he,hsp⟩:=h;obtain⟨a,c,rfl,_⟩:=hsp.slice;exact⟨b,a,c,he,hsp⟩:∃ b a c,e=.returned (.tuple #[.slice a x.length c,.bool true])/\ScSp wz lo b (.slice a x.length c) x);obtain⟨n,hn⟩:∃ n,x.length=n:=⟨_,rfl⟩;rw[hn] at HO;have HN:=hid hn;cases hk:Wf.aN kt.data.toList with
  | none =>
   rw[ok_none hk] at HOK;have HF:=hid (show bA s.data.toList kt.data.toList=none by unfold bA;rw[hsc];dsimp only;rw[hk]);clear hsc hk hn;go_enter Tryz.func35,Tryz.ntmps35;go_wp2_with (first|(go_at_call 72;refine(HOK.out _).mono ?_;rintro e w3 ⟨rfl,rfl⟩)|(go_at_call 71;refine(HOF.out _).mono ?_;rintro e w2 ⟨ho,hb2⟩;obtain⟨b,a,c,rfl,hs2⟩:=HO.out _ _ _ ho;have HB2:=hid hb2;clear ho hb2 hs2))
   go_ret2
   exact⟨by unfold cK;rw[HF.out];exact⟨_,_,_,rfl⟩,HB2.out⟩
  | some k =>
   rw[vO hk] at HOK;have hkl:=iR hk;have hkt:tx k.text=.string kt:=by
    unfold Wf.aN at hk;split at hk
    ·rw[Wf.gZ hk]
    ·cases hk
   have HCORE:=hid fun wz=>tU k (by omega) wz;have hcl:=uY k;have HREF:=hid fun wz=>jT k.core (by omega) wz;obtain⟨NM,is,hri,hhas⟩:=vU x k;rw[hri] at HREF;have HFIND:=hid fun wz lo b v (h:ScSp wz lo b v x)=>(tQ x lo b v NM wz wz (Below.refl _ _) (by omega) h);obtain⟨CT,hCT⟩:∃ CT:ByteArray,(⟨k.core.text.toArray⟩:ByteArray)=CT:=⟨_,rfl⟩;rw[hkt] at HCORE;simp only[tx,hCT] at HCORE HREF;obtain⟨ok,hokk⟩:∃ ok,(x.find NM.data.toList).isSome=ok:=⟨_,rfl⟩;rw[hokk] at hhas HFIND;have HF:=hid (show bA s.data.toList kt.data.toList=if (!is || ok)=true then some (x,k) else none by unfold bA;rw[hsc];dsimp only;rw[hk];dsimp only;rw[hhas]);clear hsc hk hn hhas hokk hCT hri hcl hkl hkt;have hcs:(is=false)\/(is=true/\ok=true)\/(is=true/\ok=false):=(by cases is <;> cases ok <;> simp);go_enter Tryz.func35,Tryz.ntmps35;go_wp2_with (first|(go_at_call 75;refine(HFIND.out _ _ _ _ HS.out).mono ?_;rintro e w5 ⟨⟨fq,fN,fA,fM,fC,rfl⟩,hb5⟩;have HB5:=hid hb5;clear hb5)|(go_at_call 73;refine(HREF.out _).mono ?_;rintro e w4 ⟨rfl,rfl⟩)|(go_at_call 74;refine(HCORE.out _).mono ?_;rintro e w3 ⟨rfl,rfl⟩)|(go_at_call 72;refine(HOK.out _).mono ?_;rintro e w3 ⟨rfl,rfl⟩)|(go_at_call 71;refine(HOF.out _).mono ?_;rintro e w2 ⟨ho,hb2⟩;obtain⟨b,a,c,rfl,hs2⟩:=HO.out _ _ _ ho;have HS:=hid hs2;have HB2:=hid hb2;clear ho hb2 hs2))
   all_goals go_ret2
   ·exact⟨rT (is:=is) (ok:=ok) HF.out HN.out (HS.out.below HB5.out |>.below ((Below.refl _ _).alloc (Nat.le_refl _) _)) (by simp[*]),(HB2.out.trans (HB5.out.mono HB2.out.size)).alloc (Nat.le_trans HB2.out.size HB5.out.size) _⟩
   ·exact⟨rT (is:=is) (ok:=ok) HF.out HN.out (HS.out.below HB5.out |>.below ((Below.refl _ _).alloc (Nat.le_refl _) _)) (by simp[*]),(HB2.out.trans (HB5.out.mono HB2.out.size)).alloc (Nat.le_trans HB2.out.size HB5.out.size) _⟩
def okL (l:List UInt8):Bool:=(Wf.schemaOf l).isSome
def eL (l nm:List UInt8) (g:Int):Value:=match cZ l nm with
 | some y=>(match aZ y.2 g with
  | some f=>if y.2.sort=69 then .tuple #[tx f.name,tx [],tx [],.bool true] else .tuple #[tx f.name,tx f.kind.text,tx (Wf.aH y.1 f),.bool true]
  | none=>.tuple #[tx [],tx [],tx [],.bool false])
 | none=>.tuple #[tx [],tx [],tx [],.bool false]
theorem a4A {l:List UInt8} {lo:Nat} {e:Ending} {w':World} (h:cM l lo e w'):∃ a n c,e=.returned (.tuple #[.slice a n c,.bool (okL l)]):=by
 unfold cM at h;unfold okL;cases hs:Wf.schemaOf l with
 | none=>rw[hs] at h;exact h
 | some x =>
  rw[hs] at h;obtain⟨b,v,he,hsp⟩:=h;obtain⟨a,c,rfl,_⟩:=hsp.slice;exact⟨_,_,_,he⟩
theorem a4F (s:ByteArray) (w:World) (hs:s.size<=1048576):Calls Tryz.prog 83 #[.string s] w fun e w'=>e=.returned (.bool (okL s.data.toList))/\Below w.heap.size w w':=by
 have HOF:=hid fun wz=>l3Of s wz hs;go_enter Tryz.func83,Tryz.ntmps83;go_wp2_with (go_at_call 71;refine(HOF.out _).mono ?_;rintro e w2 ⟨ho,hb2⟩;obtain⟨a,n,c,rfl⟩:=a4A ho;have HB2:=hid hb2;clear ho hb2)
 go_ret
 exact⟨rfl,HB2.out⟩
theorem eY {v v':Value} {wx w':World} (hg:wx.grownBy w' v.ownBlock) (hl:v'.ownBlock=v.ownBlock\/v'.ownBlock=some wx.heap.size) {b:Nat} (hb:b<wx.heap.size) (ha:some b≠v.ownBlock):w'.heap[b]? = wx.heap[b]? /\ some b≠v'.ownBlock:=by
 refine⟨hg.block b hb ha,?_⟩;rcases hl with h|h
 ·rw[h];exact ha
 ·rw[h];intro e;have:=Option.some.inj e;omega
theorem nY:(Tryz.prog.info? 3).map (fun i=>(i.zero,i.size,i.bytes))=some (some (.int .i64 0),1,8):=by kernel_rfl
theorem nL {l nm:List UInt8} {x:Wf.Sc} {t:Wf.Ty} (h:cZ l nm=some (x,t)):Wf.schemaOf l=some x/\Wf.ScOk x/\x.find nm=some t/\t∈x:=by
 unfold cZ at h;cases hsc:Wf.schemaOf l with
 | none=>rw[hsc] at h;cases h
 | some x' =>
  rw[hsc] at h;dsimp only at h;cases hf:x'.find nm with
  | none=>rw[hf] at h;cases h
  | some t' =>
   rw[hf] at h;simp only[Option.map_some,Option.some.injEq,Prod.mk.injEq] at h;obtain⟨rfl,rfl⟩:=h;exact⟨rfl,Wf.iX hsc,hf,(Wf.aY hf).1⟩
theorem oF {t:Wf.Ty} {g:Int} {f:Wf.Fd} (h:aZ t g=some f):f∈t.fields/\(f.tag:Int)=g:=by
 refine⟨List.mem_of_find?_eq_some h,?_⟩;have:=List.find?_some h;simpa using this
theorem a6J (s nm:ByteArray) (g:Int) (w:World) (hs:s.size<=1048576):Calls Tryz.prog 21 #[.string s,.string nm,.int .i64 g] w fun e w'=>e=.returned (eL s.data.toList nm.data.toList g)/\Below w.heap.size w w':=by
 have HLF:=hid fun wz=>a9C s nm wz hs;cases hty:cZ s.data.toList nm.data.toList with
 | none =>
  have HO:=hid fun lo e wz (h:fE s.data.toList nm.data.toList lo e wz)=>(by unfold fE at h;rw[hty] at h;exact h:∃ a n c,e=.returned (.tuple #[.slice a n c,.agg #[.int .u8 0,tx [],.slice none 0 0],.bool false]));have HF:=hid (show eL s.data.toList nm.data.toList g=.tuple #[tx [],tx [],tx [],.bool false] by unfold eL;rw[hty]);clear hty;go_enter Tryz.func21,Tryz.ntmps21;go_wp2_with (go_at_call 49;refine(HLF.out _).mono ?_;rintro e w2 ⟨ho,hb2⟩;obtain⟨a,n,c,rfl⟩:=HO.out _ _ _ ho;have HB2:=hid hb2;clear ho hb2)
  exact bodyPost_ret (v:=.tuple #[tx [],tx [],tx [],.bool false]) (by simp[results,Tryz.results21,go_sem, *]) rfl ⟨by rw[HF.out],HB2.out.alloc HB2.out.size _⟩
 | some y =>
  obtain⟨x,t⟩:=y;obtain⟨_,hx,_,htm⟩:=nL hty;have htok:=hx.tys t htm;have HO:=hid fun lo e wz (h:fE s.data.toList nm.data.toList lo e wz)=>(by unfold fE at h;rw[hty] at h;exact h:∃ b a c fb fa fc,e=.returned (.tuple #[.slice a x.length c,.agg #[.int .u8 t.sort.toNat,tx t.name,.slice fa t.fields.length fc],.bool true])/\ScSp wz lo b (.slice a x.length c) x/\lo<=fb/\RowK wz fb (.slice fa t.fields.length fc) 4 (t.fields.map (fdS t.sort)));obtain⟨q,hq⟩:∃ q,t.sort.toNat=q:=⟨_,rfl⟩;obtain⟨n,hn⟩:∃ n,t.fields.length=n:=⟨_,rfl⟩;obtain⟨N,hN⟩:∃ N:ByteArray,(⟨t.name.toArray⟩:ByteArray)=N:=⟨_,rfl⟩;have HFD:=hid fun wz wy fb fa fc (hW:Below wz.heap.size wz wy) (h:RowK wz fb (.slice fa n fc) 4 (t.fields.map (fdS t.sort)))=>(by rw[<-hn] at h ⊢;exact nP t (by have:=htok.len;omega) g q N fb fa fc wz wy hW h:Calls Tryz.prog 50 #[.agg #[.int .u8 q,.string N,.slice fa n fc],.int .i64 g] wy fun e w'=>e=.returned (fldV t.sort (aZ t g))/\Below wy.heap.size wy w');simp only[hq,hn,tx,hN] at HO;have HF0:=hid (show eL s.data.toList nm.data.toList g=match aZ t g with
   | some f=>if t.sort=69 then .tuple #[tx f.name,tx [],tx [],.bool true] else .tuple #[tx f.name,tx f.kind.text,tx (Wf.aH x f),.bool true]
   | none=>.tuple #[tx [],tx [],tx [],.bool false] by unfold eL;rw[hty])
  clear hty hN;cases hf:aZ t g with
  | none =>
   rw[hf] at HF0 HFD;simp only[fldV,tx] at HFD;clear hq hn hx htok htm hf;go_enter Tryz.func21,Tryz.ntmps21;go_wp2_with (first|(go_at_call 50;refine(HFD.out _ _ _ _ _ (by first|exact(Below.refl _ _).alloc (Nat.le_refl _) _) HROW.out).mono ?_;rintro e w3 ⟨rfl,hb3⟩;have HB3:=hid hb3;clear hb3)|(go_at_call 49;refine(HLF.out _).mono ?_;rintro e w2 ⟨ho,hb2⟩;obtain⟨b,a,c,fb,fa,fc,rfl,hsp,hlo,hrow⟩:=HO.out _ _ _ ho;have HROW:=hid hrow;have HB2:=hid hb2;clear ho hb2 hsp hlo hrow))
   exact bodyPost_ret (v:=.tuple #[tx [],tx [],tx [],.bool false]) (by simp[results,Tryz.results21,go_sem, *]) rfl ⟨by rw[HF0.out],by have B:=aC (HB2.out.alloc HB2.out.size _) HB3.out;exact B.alloc B.size _⟩
  | some f =>
   rw[hf] at HF0 HFD;have hfm:=(oF hf).1;have hfd:=htok.fds f hfm;obtain⟨NN,hNN⟩:∃ NN:ByteArray,(⟨f.name.toArray⟩:ByteArray)=NN:=⟨_,rfl⟩;obtain⟨SS,hSS⟩:∃ SS:ByteArray,(⟨f.given.toArray⟩:ByteArray)=SS:=⟨_,rfl⟩;by_cases h69:t.sort=69
   ·have h69q:q=69:=by rw[<-hq,h69];rfl
    subst h69q;have e1:fldV t.sort (some f)=.tuple #[.agg #[.int .i64 f.tag,.string NN,.string ⟨#[]⟩,.string SS],.bool true]:=(by simp only[fldV,h69,if_true,tx,hNN,hSS]);rw[e1] at HFD;simp only[h69,if_true,tx,hNN] at HF0;clear hq hn hx htok htm hf hfm hfd hNN hSS h69 e1;go_enter Tryz.func21,Tryz.ntmps21;go_wp2_with (first|(go_at_call 50;refine(HFD.out _ _ _ _ _ (by first|exact(Below.refl _ _).alloc (Nat.le_refl _) _) HROW.out).mono ?_;rintro e w3 ⟨rfl,hb3⟩;obtain⟨hc3,hc4⟩:=bcell hb3;have hz3:w2.heap.size<w3.heap.size:=(by have:=hb3.size;simp at this;omega);have HB3:=hid hb3;clear hb3)|(go_at_call 49;refine(HLF.out _).mono ?_;rintro e w2 ⟨ho,hb2⟩;obtain⟨b,a,c,fb,fa,fc,rfl,hsp,hlo,hrow⟩:=HO.out _ _ _ ho;have HROW:=hid hrow;have HB2:=hid hb2;clear ho hb2 hsp hlo hrow))
    exact bodyPost_ret (v:=.tuple #[.string NN,tx [],tx [],.bool true]) (by simp[results,Tryz.results21,go_sem, *]) rfl ⟨by rw[HF0.out],by have B:=aC (HB2.out.alloc HB2.out.size _) HB3.out;exact B.alloc B.size _⟩
   ·have h69q:((q:Int)==69)=false:=by rw[beq_eq_false_iff_ne];intro e;exact h69 (UInt8.toNat_inj.1 (by rw[hq];show q=69;omega))
    have hk12:=dQ hfd;have hhas:=hx.refs t htm h69 f hfm;obtain⟨KK,hKK⟩:∃ KK:ByteArray,(⟨f.kind.text.toArray⟩:ByteArray)=KK:=⟨_,rfl⟩;obtain⟨OO,hOO⟩:∃ OO:ByteArray,(⟨(Wf.aH x f).toArray⟩:ByteArray)=OO:=⟨_,rfl⟩;have HST:=hid fun wz wy lo b v (hW:Below wz.heap.size wz wy) (h:ScSp wz lo b v x)=>(by
     have h1:=kL x hx lo b v f wz wy hW h hk12 hhas;simp only[tx,hNN,hSS,hKK,hOO] at h1;exact h1:Calls Tryz.prog 51 #[v,.agg #[.int .i64 f.tag,.string NN,.string KK,.string SS]] wy fun e w'=>e=.returned (.string OO)/\Below wy.heap.size wy w')
    have e1:fldV t.sort (some f)=.tuple #[.agg #[.int .i64 f.tag,.string NN,.string KK,.string SS],.bool true]:=(by simp only[fldV,h69,if_false,tx,hNN,hSS,hKK]);rw[e1] at HFD;simp only[h69,if_false,tx,hNN,hKK,hOO] at HF0;clear hq hn hx htok htm hf hfm hfd hNN hSS h69 hKK hOO hk12 hhas e1;go_enter Tryz.func21,Tryz.ntmps21;go_wp2_with (first|(go_at_call 50;refine(HFD.out _ _ _ _ _ (by first|exact(Below.refl _ _).alloc (Nat.le_refl _) _) HROW.out).mono ?_;rintro e w3 ⟨rfl,hb3⟩;obtain⟨hc3,hc4⟩:=bcell hb3;have hz3:w2.heap.size<w3.heap.size:=(by have:=hb3.size;simp at this;omega);have HB3:=hid hb3;clear hb3)|(go_at_call 49;refine(HLF.out _).mono ?_;rintro e w2 ⟨ho,hb2⟩;obtain⟨b,a,c,fb,fa,fc,rfl,hsp,hlo,hrow⟩:=HO.out _ _ _ ho;have HROW:=hid hrow;have HSP:=hid hsp;have HB2:=hid hb2;clear ho hb2 hsp hlo hrow))
    have B3:=hid (aC (HB2.out.alloc HB2.out.size _) HB3.out);have B23:=hid (aC ((Below.refl w2.heap.size w2).alloc (Nat.le_refl _) _) HB3.out);have F:=hid fun(wz:World) (hz:Below (w3.heap.size+1) (w3.alloc (.cells #[.int .i64 f.tag,.string NN,.string KK,.string SS] 86)) wz)=>(show wz.cell? ⟨w3.heap.size,0,none⟩=some (.int .i64 f.tag)/\wz.cell? ⟨w3.heap.size,1,none⟩=some (.string NN)/\wz.cell? ⟨w3.heap.size,2,none⟩=some (.string KK)/\wz.cell? ⟨w3.heap.size,3,none⟩=some (.string SS) from⟨(hz.cell (p:=⟨w3.heap.size,0,none⟩) (by simp)).trans (by simp),(hz.cell (p:=⟨w3.heap.size,1,none⟩) (by simp)).trans (by simp),(hz.cell (p:=⟨w3.heap.size,2,none⟩) (by simp)).trans (by simp),(hz.cell (p:=⟨w3.heap.size,3,none⟩) (by simp)).trans (by simp)⟩);clear hc3 hc4;go_region_held3 (fun w'=>w'.cell? ⟨w3.heap.size,0,none⟩=some (.int .i64 f.tag)/\w'.cell? ⟨w3.heap.size,1,none⟩=some (.string NN)/\w'.cell? ⟨w3.heap.size,2,none⟩=some (.string KK)/\w'.cell? ⟨w3.heap.size,3,none⟩=some (.string SS)) (first|exact⟨k0,k1,k2,k3⟩|go_keep) (first|(go_at_call 51;refine(HST.out _ _ _ _ _ (by exact(B23.out.alloc B23.out.size _).drew) HSP.out).mono ?_;rintro e w4 ⟨rfl,hb4⟩;have TS:=Lib.hid (show Below (w3.heap.size+1) (w3.alloc (.cells #[.int .i64 f.tag,.string NN,.string KK,.string SS] 86)) w4 by exact Below.trans ((Below.refl _ _).drew) (hb4.mono (by show _<=(World.alloc _ _).heap.size;simp)));obtain⟨k0,k1,k2,k3⟩:=F.out _ TS.out;clear hb4))
    all_goals go_wp2
    all_goals exact bodyPost_ret (v:=.tuple #[.string NN,.string KK,.string OO,.bool true]) (by simp[results,Tryz.results21,go_sem, *]) rfl ⟨by rw[HF0.out],(B3.out.alloc B3.out.size _).trans (TS.out.mono (by have:=B3.out.size;omega))⟩

structure KOk (x:Wf.Sc) (k:Wf.K):Prop where
 len:k.text.length<=12
 ref:Wf.aO x k=true
def aS (o:Option (Wf.V × List UInt8)) (s:List UInt8) (rb sb:Nat) (w:World) (e:Ending) (w':World):Prop :=
 ∃ cs v r,e=.returned (.agg cs.toArray)/\VC w' (fun b=>w.heap.size<=b) v cs/\aA rb w w'/\((o=some (v,r)/\Sn w' rb sb r false)\/(o=none/\Wf.Badv s r v/\Sn w' rb sb r true))
structure Bld (w wr:World) (rb vb base:Nat) (q:Nat) (a:Option Addr) (c:Nat) (l:List Wf.V) (es:List (List Value)):Prop where
 fr:aA rb w wr
 vw:w.heap.size<=vb
 vlt:vb<base
 sz:base<=wr.heap.size
 v0:wr.cell? ⟨vb,0,none⟩=some (.int .u8 q)
 v1:wr.cell? ⟨vb,1,none⟩=some (tx [])
 v2:wr.cell? ⟨vb,2,none⟩=some (.int .i64 0)
 v3:wr.cell? ⟨vb,3,none⟩=some (.slice a es.length c)
 f3:wr.frozen? ⟨vb,3,none⟩=false
 own:wr.ownsRow base 92 4 (.slice a es.length c) es.length es.flatten
 he:∀ e∈es,e.length=4
 hl:es.length=l.length
 vals:∀ i (h1:i<es.length) (h2:i<l.length),VC wr (fun b=>base<=b/\some b≠(Value.slice a es.length c).ownBlock) l[i] es[i]
section
variable {w wr:World} {rb vb base q:Nat} {a:Option Addr} {c:Nat} {l:List Wf.V} {es:List (List Value)}
theorem gX {w w':World} {b rb:Nat} {e:TypeId} {size:Nat} {v:Value} {n:Nat} {xs:List Value} (h:w.ownsRow b e size v n xs) (hb:aA rb w w') (hr:rb<b):w'.ownsRow b e size v n xs:=by
 obtain⟨h1,h2|⟨g,cap,cur,h3,h4,h5,h6⟩⟩:=h
 ·exact⟨h1,.inl h2⟩
 ·refine⟨h1,.inr ⟨g,cap,cur,h3,h4,?_,h6⟩⟩
  rw[hb.block g (Array.getElem?_eq_some_iff.1 h5).1 (by omega)];exact h5
theorem aA.frozen {rb:Nat} {w w':World} (h:aA rb w w') {p:Addr} (hp:p.block<w.heap.size) (hr:p.block≠rb):w'.frozen? p=w.frozen? p:=World.frozen?_of_block (w:=w) (h.block p.block hp hr)
theorem Bld.step (h:Bld w wr rb vb base q a c l es) (hr:rb<w.heap.size) {w2:World} (hb:aA rb wr w2):Bld w w2 rb vb base q a c l es:=by
 have h1:=h.vw;have h2:=h.vlt;have h3:=h.sz;have hv:vb<wr.heap.size:=by omega
 have hn:vb≠rb:=by omega
 exact⟨h.fr.trans hb,h1,h2,Nat.le_trans h3 hb.size,(hb.cell (p:=⟨vb,0,none⟩) hv hn).trans h.v0,(hb.cell (p:=⟨vb,1,none⟩) hv hn).trans h.v1,(hb.cell (p:=⟨vb,2,none⟩) hv hn).trans h.v2,(hb.cell (p:=⟨vb,3,none⟩) hv hn).trans h.v3,(hb.frozen (p:=⟨vb,3,none⟩) hv hn).trans h.f3,gX h.own hb (by omega),h.he,h.hl,
  fun i g1 g2=>VC.keep (fun b hp hlt=>⟨hp,hb.block b hlt (by omega)⟩) hb.size _ _ (h.vals i g1 g2)⟩
theorem Bld.put (h:Bld w wr rb vb base q a c l es) (hr:rb<w.heap.size) {wx w4:World} (hx:aA rb wr wx) (hg:wx.grownBy w4 (Value.slice a es.length c).ownBlock) {a':Option Addr} {c':Nat} {cs:List Value} {v:Wf.V}
  (hvc:VC wx (fun b=>wr.heap.size<=b) v cs) (ho:w4.ownsRow base 92 4 (.slice a' (es.length+1) c') (es.length+1) (es.flatten++cs))
  (hloc:(Value.slice a' (es.length+1) c').ownBlock=(Value.slice a es.length c).ownBlock\/(Value.slice a' (es.length+1) c').ownBlock=some wx.heap.size) :
  Bld w (w4.setCell ⟨vb,3,none⟩ (.slice a' (es.length+1) c')) rb vb base q a' c' (l++[v]) (es++[cs]):=by
 have hs:=h.step hr hx;have h1:=h.vw;have h2:=h.vlt;have h3:=hs.sz;have hlen:(es++[cs]).length=es.length+1:=by simp
 have hlo:=aL hs.own;have hown:∀ g,(Value.slice a es.length c).ownBlock=some g->base<=g/\g<wr.heap.size:=fun g hg=>aL h.own g hg;have hB:Below base wx w4:=aU hg (fun g hgk=>(hlo g hgk).1) h3;have hvB:vb<base:=h2;have hss:(w4.setCell ⟨vb,3,none⟩ (.slice a' (es.length+1) c')).heap.size=w4.heap.size:=by simp
 have c3:w4.cell? ⟨vb,3,none⟩=some (.slice a es.length c):=(hB.cell (p:=⟨vb,3,none⟩) hvB).trans hs.v3
 -- a block that is not the row's is as it was
 have hkeep:∀ b,base<=b->b<wx.heap.size->some b≠(Value.slice a es.length c).ownBlock->some b≠(Value.slice a' (es.length+1) c').ownBlock/\(w4.setCell ⟨vb,3,none⟩ (.slice a' (es.length+1) c')).heap[b]? = wx.heap[b]?:=fun b hb1 hb2 hb3=>by
  obtain⟨e1,e2⟩:=eY hg hloc hb2 hb3;refine⟨e2,?_⟩;rw[Below.heap_setCell w4 ⟨vb,3,none⟩ _ _ (by show b≠vb;omega)];exact e1
 refine⟨?_,h1,h2,by rw[hss];exact Nat.le_trans h3 hB.size,?_,?_,?_,?_,?_,?_,?_,?_,?_⟩
 ·have hS:=Below.setCell (B:=vb) (Below.refl vb w4) (p:=⟨vb,3,none⟩) (Nat.le_refl _) (.slice a' (es.length+1) c')
  exact⟨hS.os.trans (hB.os.trans hs.fr.os),hS.tape.trans (hB.tape.trans hs.fr.tape),hS.output.trans (hB.output.trans hs.fr.output),by rw[hss];exact Nat.le_trans hs.fr.size hB.size,fun k hk hkr=>(Below.heap_setCell w4 ⟨vb,3,none⟩ _ k (by show k≠vb;omega)).trans ((hB.block k (by omega)).trans (hs.fr.block k hk hkr))⟩
 ·exact(World.cell?_setCell_other w4 _ _ _ (by simp)).trans ((hB.cell (p:=⟨vb,0,none⟩) hvB).trans hs.v0)
 ·exact(World.cell?_setCell_other w4 _ _ _ (by simp)).trans ((hB.cell (p:=⟨vb,1,none⟩) hvB).trans hs.v1)
 ·exact(World.cell?_setCell_other w4 _ _ _ (by simp)).trans ((hB.cell (p:=⟨vb,2,none⟩) hvB).trans hs.v2)
 ·rw[hlen];exact World.cell?_setCell_same w4 _ _ c3
 ·have:=(hB.frozen (p:=⟨vb,3,none⟩) hvB).trans hs.f3
  simpa using this
 ·rw[hlen,List.flatten_append,List.flatten_cons,List.flatten_nil,List.append_nil]
  exact ownsRow_setCell_below ho hvB _
 ·intro e he
  rcases List.mem_append.1 he with he|he
  ·exact h.he e he
  ·rw[List.mem_singleton.1 he];exact hvc.len
 ·rw[hlen,List.length_append,h.hl];rfl
 ·intro i g1 g2
  rw[hlen];by_cases hi:i<es.length
  ·have hil:i<l.length:=by have:=h.hl;omega
   rw[List.getElem_append_left hi,List.getElem_append_left hil];exact VC.keep (fun b hp hlt=>by
    obtain⟨e1,e2⟩:=hkeep b hp.1 hlt hp.2;exact⟨⟨hp.1,e1⟩,e2⟩) (by rw[hss];exact hB.size) _ _ (hs.vals i hi hil)
  ·have hie:i=es.length:=by simp at g1;omega
   subst hie;rw[List.getElem_append_right (Nat.le_refl _)];have e2:(l++[v])[es.length]'g2=v:=by
    rw[List.getElem_append_right (by rw[h.hl];exact Nat.le_refl _)];simp[h.hl]
   rw[e2];simp only[Nat.sub_self,List.getElem_cons_zero];exact VC.keep (fun b hp hlt=>by
    have hb3:some b≠(Value.slice a es.length c).ownBlock:=fun he=>by
     have:=(hown b he.symm).2;omega
    have hb1:base<=b:=Nat.le_trans h.sz hp;obtain⟨e1,e2⟩:=hkeep b hb1 hlt hb3;exact⟨⟨hb1,e1⟩,e2⟩) (by rw[hss];exact hB.size) _ _ hvc
end
end Go.Proofs.YtmdacedmjbiekaaGreatDoor

namespace Wf
def bI (c:UInt8):Bool:=c != 39
theorem a1J {c:UInt8} (h:aG c=true):bI c=true:=by
 unfold bI;rw[bne_iff_ne];intro e;rw[e,kN] at h;cases h
theorem tR {p q:UInt8->Bool} (hpq:∀ c,p c=true->q c=true):∀ (b:Bs) (c:UInt8) (r:Bs),b.all p=true->q c=false->(b++c::r).takeWhile q=b/\(b++c::r).dropWhile q=c::r:=by
 intro b;induction b with
 | nil=>intro c r _ hc;simp[hc]
 | cons a b ih =>
  intro c r hb hc;simp only[List.all_cons,Bool.and_eq_true] at hb;obtain⟨h1,h2⟩:=ih c r hb.2 hc;simp[hpq a hb.1,h1,h2]
def cX (s:Bs):Nat:=min (1+(s.tail.takeWhile bI).length+1) s.length
theorem a9E (s:Bs):cX s<=s.length:=Nat.min_le_right _ _
theorem a0V (x:Sc) (n:Nat) (c0:UInt8) (r:Bs):parse x (n+1) .txt (c0::r)=if quoted ((c0::r).take (cX (c0::r)))=true then some (.mk 116 ((c0::r).take (cX (c0::r))).tail.dropLast 0 [],(c0::r).drop (cX (c0::r))) else none:=by
 have hsp:=List.takeWhile_append_dropWhile (p:=bI) (l:=r);cases hd:r.dropWhile bI with
 | nil =>
  rw[hd,List.append_nil] at hsp;have hno:(39:UInt8) ∉ r:=by
   intro hm;rw[<-hsp] at hm;have hall:(r.takeWhile bI).all bI=true:=List.all_takeWhile;have:=List.all_eq_true.1 hall 39 hm;simp[bI] at this
  have he:cX (c0::r)=(c0::r).length:=by
   unfold cX;rw[List.tail_cons,hsp];simp
  rw[he,List.take_length,if_neg]
  ·by_cases h0:c0=39
   ·subst h0
    refine lU x n rfl ?_;intro h;have hm:(39:UInt8)∈r.dropWhile aG:=List.mem_of_head? h;exact hno ((List.dropWhile_sublist _).subset hm)
   ·exact nI x n (by simpa using h0)
  ·intro hq
   obtain⟨b,hb,_,_⟩:=eM.1 hq;simp only[List.cons.injEq] at hb;exact hno (by rw[hb.2];simp)
 | cons d q =>
  have hd39:d=39:=by
   have:=List.head?_dropWhile_not (p:=bI) (l:=r);rw[hd] at this;simpa[bI] using this
  subst hd39;rw[hd] at hsp;obtain⟨b,hbdef⟩:∃ b,r.takeWhile bI=b:=⟨_,rfl⟩;rw[hbdef] at hsp;have he:cX (c0::r)=b.length+2:=by
   unfold cX;rw[List.tail_cons,hbdef,<-hsp];simp;omega
  have ht:(c0::r).take (b.length+2)=c0::(b++[39]):=by
   rw[<-hsp,List.take_succ_cons,List.take_append,List.take_of_length_le (by omega)];simp
  have hdr:(c0::r).drop (b.length+2)=q:=by
   rw[<-hsp,List.drop_succ_cons,List.drop_append,List.drop_of_length_le (by omega)];simp
  rw[he,ht,hdr];have htl:(c0::(b++[39])).tail.dropLast=b:=by simp
  rw[htl];have hb39:b.all bI=true:=by rw[<-hbdef];exact List.all_takeWhile
  by_cases h0:c0=39
  ·subst h0
   by_cases hall:b.all aG=true
   ·obtain⟨e1,e2⟩:=tR (p:=aG) (q:=aG) (fun _ h=>h) b 39 q hall kN
    rw[hsp] at e1 e2;by_cases hl:b.length<=12
    ·rw[if_pos (eM.2 ⟨b,rfl,hall,hl⟩),nK x n rfl e2 (by rw[e1];exact hl),e1]
    ·rw[if_neg,vD x n rfl (by rw[e1];exact hl)]
     intro hq;obtain⟨b',hb',_,h12⟩:=eM.1 hq;simp only[List.cons.injEq,true_and] at hb';have:=congrArg List.length hb';simp at this;omega
   ·rw[if_neg]
    ·refine lU x n rfl ?_
     intro h;cases hdd:r.dropWhile aG with
     | nil=>rw[hdd] at h;simp at h
     | cons d2 q2 =>
      rw[hdd] at h;simp only[List.head?_cons,Option.some.injEq] at h;subst h;have hs2:=List.takeWhile_append_dropWhile (p:=aG) (l:=r);rw[hdd] at hs2;have ha2:(r.takeWhile aG).all aG=true:=List.all_takeWhile;obtain⟨e1,_⟩:=tR (p:=aG) (q:=bI) (fun _ h=>a1J h) (r.takeWhile aG) 39 q2 ha2 (by decide);rw[hs2,hbdef] at e1;rw[e1] at hall;exact hall ha2
    ·intro hq
     obtain⟨b',hb',ha,_⟩:=eM.1 hq;simp only[List.cons.injEq,true_and] at hb';have:=List.append_inj_left' hb' rfl;rw[this] at hall;exact hall ha
  ·rw[if_neg,nI x n (by simpa using h0)]
   intro hq;obtain⟨b',hb',_,_⟩:=eM.1 hq;simp only[List.cons.injEq] at hb';exact h0 hb'.1
end Wf

namespace Wf
theorem rW (x:Sc) (n:Nat) (q:Bs):parse x (n+1) .flag (121::101::115::q)=some (.mk 102 [121,101,115] 0 [],q):=by simp only[parse]
theorem oS (x:Sc) (n:Nat) (q:Bs):parse x (n+1) .flag (110::111::q)=some (.mk 102 [110,111] 0 [],q):=by simp only[parse]
theorem oG (x:Sc) (n:Nat) {s:Bs} (h1:¬ [121,101,115] <+: s) (h2:¬ [110,111] <+: s):parse x (n+1) .flag s=none:=by
 simp only[parse];split
 ·rename_i q;exact absurd ⟨q,rfl⟩ h1
 ·rename_i q;exact absurd ⟨q,rfl⟩ h2
 ·rfl
theorem tW (x:Sc) (n:Nat) (k:K):parse x n k []=none:=by
 cases hp:parse x n k [] with
 | none=>rfl
 | some y=>have:=dV (v:=y.1) (r:=y.2) hp;simp at this
theorem zX (x:Sc) (k:K) (s:Bs):parse x 0 k s=none:=rfl
def itemsL (p:Reads) (acc:List V) (s:Bs):Option (List V × Bs):=match items p s with
 | some (l,q)=>if acc.length+l.length<=20 then some (acc++l,q) else none
 | none=>none
theorem itemsL_step {p:Reads} (hp:∀ s v r,p s=some (v,r)->r.length<s.length) (acc:List V) (s:Bs):itemsL p acc s=match p s with
  | none=>none
  | some (v,rest) =>
   match rest with
   | 44::r=>itemsL p (acc++[v]) r
   | 93::r=>if acc.length+1<=20 then some (acc++[v],r) else none
   | _=>none:=by
 unfold itemsL;rw[items_step hp];cases hq:p s with
 | none=>rfl
 | some y =>
  obtain⟨v,rest⟩:=y;dsimp only;split
  ·rename_i l q hl
   split at hl
   ·rename_i r
    rw[Option.map_eq_some_iff] at hl;obtain⟨z,hz,hz2⟩:=hl;simp only[Prod.mk.injEq] at hz2;obtain⟨rfl,rfl⟩:=hz2;simp only[hz];simp only[List.length_cons,List.length_append,List.length_nil,List.append_assoc,List.cons_append,List.nil_append];by_cases h20:acc.length+(z.1.length+1)<=20
    ·rw[if_pos h20,if_pos (by omega)]
    ·rw[if_neg h20,if_neg (by omega)]
   ·simp only[Option.some.injEq,Prod.mk.injEq] at hl
    obtain⟨rfl,rfl⟩:=hl;rfl
   ·cases hl
  ·rename_i hl
   split at hl
   ·rename_i r
    rw[Option.map_eq_none_iff] at hl;simp only[hl]
   ·cases hl
   ·rename_i h1 h2
    split
    ·exact(h1 _ rfl).elim
    ·exact(h2 _ rfl).elim
    ·rfl
theorem a0Z {p:Reads} (hp:∀ s v r,p s=some (v,r)->r.length<s.length) {acc:List V} (h:20<=acc.length) (s:Bs):itemsL p acc s=none:=by
 unfold itemsL;cases hi:items p s with
 | none=>rfl
 | some y =>
  have:=List.length_pos_iff.2 (a4B hp (l:=y.1) (q:=y.2) hi);dsimp only;rw[if_neg (by omega)]
theorem a7I {p:Reads} (s:Bs):itemsL p [] s=match items p s with
  | none=>none
  | some (l,q)=>if l.length<=20 then some (l,q) else none:=by
 unfold itemsL;cases items p s with
 | none=>rfl
 | some y=>simp
theorem qH (x:Sc) (n:Nat) (k:K) {s:Bs} (h:s.head? ≠ some 91):parse x (n+1) (.list k) s=none:=by
 rw[parse_list];split
 ·simp at h
 ·rfl
theorem vE (x:Sc) (n:Nat) (k:K) (q:Bs):parse x (n+1) (.list k) (91::93::q)=some (.mk 91 [] 0 [],q):=by simp only[parse_list]
theorem uB (x:Sc) (n:Nat) (k:K) {r:Bs} (h:r.head? ≠ some 93):parse x (n+1) (.list k) (91::r)=(itemsL (parse x n k) [] r).map fun y=>(.mk 91 [] 0 y.1,y.2):=by
 simp only[parse_list];split
 ·simp at h
 ·rw[a7I]
  cases items (parse x n k) r with
  | none=>rfl
  | some y=>simp only[];split <;> rfl
theorem qY (x:Sc) (n:Nat) (k:K) (q:Bs):parse x (n+1) (.opt k) (45::q)=some (.mk 63 [] 0 [],q):=by simp only[parse_opt]
theorem uN (x:Sc) (n:Nat) (k:K) (r:Bs):parse x (n+1) (.opt k) (43::r)=(parse x n k r).map fun y=>(.mk 63 [] 0 [y.1],y.2):=by simp only[parse_opt]
theorem rP (x:Sc) (n:Nat) (k:K) {s:Bs} (h1:s.head? ≠ some 45) (h2:s.head? ≠ some 43):parse x (n+1) (.opt k) s=none:=by
 rw[parse_opt];split
 ·simp at h1
 ·simp at h2
 ·rfl
def bZ (x:Sc) (t:Ty) (p:K->Reads) (acc:List V) (last:Nat) (s:Bs):Option (List V × Bs):=(flds x t p last s).map fun y=>(acc++y.1,y.2)
theorem fldsL_step {x:Sc} {t:Ty} {p:K->Reads} (hp:∀ k s v r,p k s=some (v,r)->r.length<s.length) (acc:List V) (last:Nat) (s:Bs):bZ x t p acc last s=match fieldTok t p s with
  | none=>none
  | some (f,v,rest) =>
   if f.tag<=last\/v.print=aH x f then none else
   match rest with
   | 44::r=>bZ x t p (acc++[.mk 61 [] f.tag [v]]) f.tag r
   | 125::r=>some (acc++[.mk 61 [] f.tag [v]],r)
   | _=>none:=by
 unfold bZ;rw[flds_step hp];cases hq:fieldTok t p s with
 | none=>rfl
 | some y =>
  obtain⟨f,v,rest⟩:=y;dsimp only;split
  ·rfl
  ·split
   ·rw[Option.map_map]
    congr 1
    funext y
    simp
   ·rfl
   ·rename_i h1 h2
    split
    ·exact(h1 _ rfl).elim
    ·exact(h2 _ rfl).elim
    ·rfl
theorem sE (x:Sc) (n:Nat) {nm:Bs} {t:Ty} (h:x.find nm=some t) (h82:t.sort=82) {s:Bs} (hs:s.head? ≠ some 123):parse x (n+1) (.ref nm) s=none:=by
 rw[dY x n nm t h,parseTy_rec _ _ _ _ h82];split
 ·simp at hs
 ·rfl
theorem sM (x:Sc) (n:Nat) {nm:Bs} {t:Ty} (h:x.find nm=some t) (h82:t.sort=82) (q:Bs):parse x (n+1) (.ref nm) (123::125::q)=some (.mk 82 [] 0 [],q):=by
 simp only[dY x n nm t h,parseTy_rec _ _ _ _ h82]
theorem qQ (x:Sc) (n:Nat) {nm:Bs} {t:Ty} (h:x.find nm=some t) (h82:t.sort=82) {r:Bs} (hr:r.head? ≠ some 125):parse x (n+1) (.ref nm) (123::r)=(bZ x t (fun k' s'=>parse x n k' s') [] 0 r).map fun y=>(.mk 82 [] 0 y.1,y.2):=by
 simp only[dY x n nm t h,parseTy_rec _ _ _ _ h82];split
 ·simp at hr
 ·unfold bZ
  rw[Option.map_map];congr 1
theorem pW (x:Sc) (n:Nat) {nm:Bs} {t:Ty} (h:x.find nm=some t) (h85:t.sort=85) {s:Bs} (hs:s.head? ≠ some 60):parse x (n+1) (.ref nm) s=none:=by
 rw[dY x n nm t h,parseTy_uni _ _ _ _ h85];split
 ·simp at hs
 ·rfl
theorem qO (x:Sc) (n:Nat) {nm:Bs} {t:Ty} (h:x.find nm=some t) (h85:t.sort=85) {r q:Bs} {f:Fd} {v:V} (hf:fieldTok t (fun k' s'=>parse x n k' s') r=some (f,v,62::q)):parse x (n+1) (.ref nm) (60::r)=some (.mk 85 [] f.tag [v],q):=by
 simp only[dY x n nm t h,parseTy_uni _ _ _ _ h85,hf];rfl
theorem sN (x:Sc) (n:Nat) {nm:Bs} {t:Ty} (h:x.find nm=some t) (h85:t.sort=85) {r q:Bs} {f:Fd} {v:V} (hf:fieldTok t (fun k' s'=>parse x n k' s') r=some (f,v,q)) (hq:q.head? ≠ some 62):parse x (n+1) (.ref nm) (60::r)=none:=by
 simp only[dY x n nm t h,parseTy_uni _ _ _ _ h85,hf];unfold closeU;split
 ·simp at hq
 ·rfl
theorem mA (x:Sc) (n:Nat) {nm:Bs} {t:Ty} (h:x.find nm=some t) (h85:t.sort=85) {r:Bs} (hf:fieldTok t (fun k' s'=>parse x n k' s') r=none):parse x (n+1) (.ref nm) (60::r)=none:=by
 simp only[dY x n nm t h,parseTy_uni _ _ _ _ h85,hf]
theorem oP (x:Sc) (n:Nat) {nm:Bs} {t:Ty} (h:x.find nm=some t) (h69:t.sort=69) {s:Bs} (hs:s.head? ≠ some 35):parse x (n+1) (.ref nm) s=none:=by
 rw[dY x n nm t h,parseTy_enm _ _ _ _ h69];split
 ·simp at hs
 ·rfl
theorem pM (x:Sc) (n:Nat) {nm:Bs} {t:Ty} (h:x.find nm=some t) (h69:t.sort=69) {r:Bs} (hr:aQ 200 r=none):parse x (n+1) (.ref nm) (35::r)=none:=by
 simp only[dY x n nm t h,parseTy_enm _ _ _ _ h69,hr]
theorem oD (x:Sc) (n:Nat) {nm:Bs} {t:Ty} (h:x.find nm=some t) (h69:t.sort=69) {r q:Bs} {g:Nat} (hr:aQ 200 r=some (g,q)):parse x (n+1) (.ref nm) (35::r)=if (t.field g).isSome then some (.mk 69 [] g [],q) else none:=by
 simp only[dY x n nm t h,parseTy_enm _ _ _ _ h69,hr]
theorem kW (t:Ty) (p:K->Reads) {s:Bs} (h:aQ 200 s=none):fieldTok t p s=none:=by
 unfold fieldTok;rw[h]
theorem rX (t:Ty) (p:K->Reads) {s r:Bs} {g:Nat} (h:aQ 200 s=some (g,r)) (hr:r.head? ≠ some 61):fieldTok t p s=none:=by
 unfold fieldTok;rw[h];dsimp only;split
 ·simp at hr
 ·rfl
theorem sR (t:Ty) (p:K->Reads) {s r:Bs} {g:Nat} (h:aQ 200 s=some (g,r)) (hf:t.field g=none):fieldTok t p s=none:=by
 unfold fieldTok;simp only[h,hf]
theorem qB (t:Ty) (p:K->Reads) {s r:Bs} {g:Nat} {f:Fd} (h:aQ 200 s=some (g,61::r)) (hf:t.field g=some f):fieldTok t p s=(p f.kind r).map fun y=>(f,y.1,y.2):=by
 unfold fieldTok;simp only[h,hf]
end Wf
