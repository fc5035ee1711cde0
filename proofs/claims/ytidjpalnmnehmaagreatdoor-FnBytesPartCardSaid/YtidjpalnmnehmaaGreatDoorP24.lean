/- Packed. -/
import Derived.Test.YtidjpalnmnehmaaGreatDoorP23
set_option maxRecDepth 99999
set_option maxHeartbeats 40000000
set_option linter.all false
namespace Go.Proofs.YtidjpalnmnehmaaGreatDoor
open Go.ChangeShapes Go.WideShapes Go.ChangeAt Go.RowKit Go.Lib
def bC (l nm:List UInt8):Option (Wf.Sc × Wf.Ty):=match Wf.schemaOf l with
 | none=>none
 | some x=>(x.find nm).map fun t=>(x,t)
def bB (t:Wf.Ty) (g:Int):Option Wf.Fd:=t.fields.find? fun f=>(f.tag:Int)==g
theorem eW (t:Wf.Ty) (g:Nat):bB t g=t.field g:=by
 unfold bB Wf.Ty.field;congr 1
 funext f
 rw[Bool.eq_iff_iff,beq_iff_eq,beq_iff_eq];omega
theorem mE {t:Wf.Ty} {g:Int} {k:Nat} (hk:k<t.fields.length) (h0:∀ j (hj:j<t.fields.length),j<k->((t.fields[j]).tag:Int)≠g) (h1:((t.fields[k]).tag:Int)=g):bB t g=some t.fields[k]:=by
 unfold bB;rw[List.find?_eq_some_iff_getElem];refine⟨by simp[h1],k,hk,rfl,fun j hj=>?_⟩;simpa using h0 j (by omega) hj
theorem kK {t:Wf.Ty} {g:Int} (h0:∀ j (hj:j<t.fields.length),((t.fields[j]).tag:Int)≠g):bB t g=none:=by
 unfold bB;rw[List.find?_eq_none];intro f hf;obtain⟨j,hj,rfl⟩:=List.mem_iff_getElem.1 hf;simpa using h0 j hj
def fldV (sort:UInt8):Option Wf.Fd->Value
 | some f=>.tuple #[.agg #[.int .i64 f.tag,tx f.name,tx (if sort=69 then [] else f.kind.text),tx f.given],.bool true]
 | none=>.tuple #[.agg #[.int .i64 0,tx [],tx [],tx []],.bool false]
theorem vH (t:Wf.Ty) (ht:t.fields.length<=1000) (g:Int) (q:Int) (N:ByteArray) (fb:Nat) (fa:Option Addr) (fc:Nat) (W w:World) (hW:Below W.heap.size W w) (H:RowK W fb (.slice fa t.fields.length fc) 4 (t.fields.map (fdS t.sort))) :
  Calls Tryz.prog 150 #[.agg #[.int .u8 q,.string N,.slice fa t.fields.length fc],.int .i64 g] w fun e w'=>e=.returned (fldV t.sort (bB t g))/\Below w.heap.size w w':=by
 have HX:=hid H;obtain⟨n,hn⟩:∃ n,t.fields.length=n:=⟨_,rfl⟩;have HN:=hid hn;rw[hn] at HX ht ⊢;have HW:=hid hW;clear H hn hW;go_enter Tryz.func150,Tryz.ntmps150;go_wp2;go_loop [6] (fun i=>∃ k:Nat,k<=n/\i=.int .i64 k/\Hid (∀ j (hj:j<t.fields.length),j<k->((t.fields[j]).tag:Int)≠g)) (fun i=>n-(RowKit.intOf i).toNat)
 case atStart=>exact⟨0,Nat.zero_le _,rfl,hid fun j hj h=>by omega⟩
 case round =>
  obtain⟨k,hk,rfl,hno⟩:=hrel;by_cases hlt:k<n
  ·have hkx:k<t.fields.length:=by rw[HN.out];exact hlt
   obtain⟨o,rfl,hbW,h1,h2,hcell⟩:=RowK.get HX.out (i:=k) (by rw[List.length_map];exact hkx);have hbw:fb<w.heap.size:=Nat.lt_of_lt_of_le hbW HW.out.size;obtain⟨F,hF⟩:∃ F,t.fields[k]=F:=⟨_,rfl⟩;have e0:(t.fields.map (fdS t.sort))[k]'(by rw[List.length_map];exact hkx)=fdS t.sort F:=(by rw[List.getElem_map,hF]);have g0:=(HW.out.cell (p:=⟨fb,o+k*4+0,none⟩) hbW).trans (hcell 0 (.int .i64 F.tag) (by decide) (by rw[e0];rfl));have g1:=(HW.out.cell (p:=⟨fb,o+k*4+1,none⟩) hbW).trans (hcell 1 (tx F.name) (by decide) (by rw[e0];rfl));have g2:=(HW.out.cell (p:=⟨fb,o+k*4+2,none⟩) hbW).trans (hcell 2 (tx (if t.sort=69 then [] else F.kind.text)) (by decide) (by rw[e0];rfl));have g3:=(HW.out.cell (p:=⟨fb,o+k*4+3,none⟩) hbW).trans (hcell 3 (tx F.given) (by decide) (by rw[e0];rfl));rw[Nat.add_zero] at g0;have HFF:=hid hF;clear hcell e0;by_cases hg:(F.tag:Int)=g
   ·have HR:=hid (show bB t g=some F by rw[<-hF];exact mE hkx hno.out (by rw[hF];exact hg))
    have tg:((F.tag:Int)==g)=true:=beq_iff_eq.2 hg;obtain⟨K,hK⟩:∃ K,(if t.sort=69 then [] else F.kind.text)=K:=⟨_,rfl⟩;rw[hK] at g2;have HK:=hid hK;clear hF hg hK;go_wp2;exact bodyPost_ret (v:=.tuple #[.agg #[.int .i64 F.tag,tx F.name,tx K,tx F.given],.bool true]) (by simp[results,Tryz.results150,go_sem, *]) rfl ⟨by rw[HR.out,fldV,HK.out],by repeat (first|with_reducible exact Below.refl _ _|with_reducible refine Below.drew ?_|with_reducible refine Below.setCell ?_ (by simp) _|with_reducible refine Below.alloc ?_ (by first|exact Nat.le_refl _|simp) _)⟩
   ·have tg:((F.tag:Int)==g)=false:=beq_eq_false_iff_ne.2 hg
    have HG:=hid hg;clear hF hg;go_wp2;go_round
    case rel=>exact⟨k+1,by omega,by go_num,hid fun j hj hjk=>by
     by_cases hj2:j=k
     ·subst hj2;rw[HFF.out];exact HG.out
     ·exact hno.out j hj (by omega)⟩
    case measure=>simp[RowKit.intOf];omega
  ·have hkn:k=n:=by omega
   subst hkn;have HR:=hid (show bB t g=none from kK fun j hj=>hno.out j hj (by rw[<-HN.out];exact hj));go_wp2;exact bodyPost_ret (v:=.tuple #[.agg #[.int .i64 0,tx [],tx [],tx []],.bool false]) (by simp[results,Tryz.results150,go_sem, *]) rfl ⟨by rw[HR.out,fldV],by repeat (first|with_reducible exact Below.refl _ _|with_reducible refine Below.drew ?_|with_reducible refine Below.setCell ?_ (by simp) _|with_reducible refine Below.alloc ?_ (by first|exact Nat.le_refl _|simp) _)⟩

theorem uQ {x:Wf.Sc} (hx:Wf.ScOk x) {t:Wf.Ty} (ht:t∈x):Wf.endsIn x 8 t=true:=Wf.iB _ _ (Wf.uD ht (hx.ends t ht)) _ hx.len
theorem oC {x:Wf.Sc} (hx:Wf.ScOk x) (k:Wf.K):Wf.stands x 9 k=Wf.stands x 8 k:=by
 cases k with
 | ref nm =>
  cases hf:x.find nm with
  | none=>simp[Wf.stands,hf]
  | some t=>exact Wf.vM hx.tys 8 9 t nm hf (uQ hx (Wf.bI hf).1) (by decide)
 | _=>rfl
theorem qW {x:Wf.Sc} (hx:Wf.ScOk x):∀ (n:Nat) (k:Wf.K),(Wf.stands x n k).length<=7+9*n:=by
 intro n;induction n with
 | zero=>intro k;cases k <;> simp[Wf.stands]
 | succ n ih =>
  intro k;cases k with
  | ref nm =>
   simp only[Wf.stands];cases hf:x.find nm with
   | none=>simp
   | some t =>
    dsimp only;by_cases h82:t.sort=82
    ·rw[if_pos h82];simp;omega
    ·rw[if_neg h82]
     cases hfs:t.fields with
     | nil=>simp
     | cons f fs =>
      have htag:f.tag<=999999:=(by have:=((hx.tys t (Wf.bI hf).1).fds f (by rw[hfs];exact List.mem_cons_self ..)).tag2;omega);have hd:=Wf.bW htag;have hi:=ih f.kind;by_cases h69:t.sort=69
      ·simp only[h69,if_true,List.length_cons];omega
      ·simp only[h69,if_false,List.length_cons,List.length_append,List.length_nil];omega
  | num=>simp[Wf.stands];omega
  | txt=>simp[Wf.stands];omega
  | flag=>simp[Wf.stands];omega
  | list k=>simp[Wf.stands];omega
  | opt k=>simp[Wf.stands];omega
theorem stands_ref {x:Wf.Sc} {nm:List UInt8} {t:Wf.Ty} (hf:x.find nm=some t):Wf.stands x 9 (.ref nm)=if t.sort=82 then [123,125] else match t.fields with | []=>[]|f::_=>if t.sort=69 then 35::Wf.dec f.tag else 60::(Wf.dec f.tag++61::(Wf.stands x 8 f.kind++[62])):=by
 simp only[Wf.stands,hf];cases t.fields <;> rfl
theorem a3B (k:Wf.K) (h:k=.num\/k=.txt\/k=.flag) (x:Wf.Sc) (w:World):Calls Tryz.prog 171 #[tx k.text] w fun e w'=>e=.returned (tx (Wf.stands x 9 k))/\w=w':=by
 rcases h with rfl|rfl|rfl;all_goals
  simp only[Wf.K.text,Wf.stands,tx];go_enter Tryz.func171,Tryz.ntmps171;go_wp2;go_ret
  exact⟨rfl,rfl⟩
theorem get0 {s:ByteArray} {c:UInt8} {r:List UInt8} (h:s.data.toList=c::r):0<s.size/\∀ h,(s[0]'h).toNat=c.toNat:=by
 have hl:=aD s;rw[h,List.length_cons] at hl;have h0:0<s.size:=by omega
 refine⟨h0,?_⟩;obtain⟨c',hc',e0⟩:=byte_at s 0 h0;rw[h] at hc';have:c'=c:=by simpa using hc'.symm
 rw[this] at e0;exact e0
theorem jV (v:Value) (c:UInt8) (hc:c=91\/c=63) (r:List UInt8) (w:World):Calls Tryz.prog 158 #[v,tx (c::r)] w fun e w'=>e=.returned (tx (if c=91 then [91,93] else [45]))/\Below w.heap.size w w':=by
 obtain⟨S,hS⟩:∃ S:ByteArray,(⟨(c::r).toArray⟩:ByteArray)=S:=⟨_,rfl⟩;obtain⟨h0,e0⟩:=get0 (s:=S) (c:=c) (r:=r) (by rw[<-hS]);rw[tx,hS];clear hS;rcases hc with rfl|rfl;all_goals
  have e1:=e0 h0;clear e0;go_enter Tryz.func158,Tryz.ntmps158;go_wp2_with fail
  go_ret
  exact⟨rfl,Below.refl _ _⟩
theorem fS (x:Wf.Sc) (lo b:Nat) (v:Value) (k:Wf.K) (hk:k=.num\/k=.txt\/k=.flag) (W w:World) (hW:Below W.heap.size W w) (hx8:x.length<=1000) (H:ScSp W lo b v x):Calls Tryz.prog 158 #[v,tx k.text] w fun e w'=>e=.returned (tx (Wf.stands x 9 k))/\Below w.heap.size w w':=by
 have HR:=hid (show Calls Tryz.prog 122 #[v,tx k.text] w fun e w'=>e=.returned (.tuple #[.agg #[.int .u8 0,tx [],.slice none 0 0],.bool false])/\Below w.heap.size w w' by
  refine(fX x lo b v k (by rcases hk with rfl|rfl|rfl <;> decide) W w hW hx8 H).mono fun e w' ⟨h1,h2⟩=>⟨?_,h2⟩;have:refT x k=none:=by rcases hk with rfl|rfl|rfl <;> rfl
  unfold dZ at h1;rw[this] at h1;exact h1)
 have HP:=hid fun wz=>a3B k hk x wz;obtain⟨O,hO⟩:∃ O:ByteArray,(⟨(Wf.stands x 9 k).toArray⟩:ByteArray)=O:=⟨_,rfl⟩;simp only[tx,hO] at HP;rw[tx,tx,hO];obtain⟨S,hS⟩:∃ S:ByteArray,(⟨k.text.toArray⟩:ByteArray)=S:=⟨_,rfl⟩;simp only[tx,hS] at HP HR;rw[hS];have hx:(0<S.size/\∀ h,(S[0]'h).toNat=110)\/(0<S.size/\∀ h,(S[0]'h).toNat=116)\/(0<S.size/\∀ h,(S[0]'h).toNat=102):=by
  rcases hk with rfl|rfl|rfl
  ·exact .inl (get0 (c:=110) (r:=[]) (by rw[<-hS];rfl))
  ·exact .inr (.inl (get0 (c:=116) (r:=[]) (by rw[<-hS];rfl)))
  ·exact .inr (.inr (get0 (c:=102) (r:=[]) (by rw[<-hS];rfl)))
 clear hS hO hk H hW;rcases hx with⟨h0,e0⟩|⟨h0,e0⟩|⟨h0,e0⟩;all_goals
  have e1:=e0 h0;clear e0;go_enter Tryz.func158,Tryz.ntmps158;go_wp2_with (first|(go_at_call 171;refine(HP.out _).mono ?_;rintro e w3 ⟨rfl,rfl⟩)|(go_at_call 122;refine HR.out.mono ?_;rintro e w2 ⟨rfl,hb2⟩;have HB2:=hid hb2;clear hb2))
  go_ret
  exact⟨rfl,by have B:=HB2.out;repeat (first|with_reducible exact B|with_reducible refine Below.alloc ?_ (by first|exact B.size|(simp;omega)) _)⟩
theorem tT {W w w2:World} {fb n:Nat} {fa:Option Addr} {fc:Nat} {cells:List (List Value)} (hrow:RowK W fb (.slice fa n fc) 4 cells) (hc0:0<cells.length) (hW:Below W.heap.size W w) (hb2:Below w.heap.size w w2) :
  ∃ go,fa=some ⟨fb,go,none⟩/\n<=fc/\fc<=maxLen/\fb<w2.heap.size/\∀ j u,j<4->(cells[0]'hc0)[j]? = some u->w2.cell? ⟨fb,go+j,none⟩=some u:=by
 obtain⟨go,h1,hgw,hgm,hgc,hcell⟩:=RowK.get hrow (i:=0) hc0;have B:=hW.trans (hb2.mono hW.size);refine⟨go,h1,hgm,hgc,Nat.lt_of_lt_of_le hgw B.size,fun j u hj hu=>?_⟩;have:=(B.cell (p:=⟨fb,go+0*4+j,none⟩) hgw).trans (hcell j u hj hu);simpa using this
theorem a1X (v:Value) (KT:ByteArray) (h0:0<KT.size) (e0:∀ h,(KT[0]'h).toNat=64) (N:ByteArray) (n:Nat) (w:World)
  (href:Calls Tryz.prog 122 #[v,.string KT] w fun e w'=>(∃ fa fc,e=.returned (.tuple #[.agg #[.int .u8 82,.string N,.slice fa n fc],.bool true]))/\Below w.heap.size w w') :
  Calls Tryz.prog 158 #[v,.string KT] w fun e w'=>e=.returned (.string ⟨#[123,125]⟩)/\Below w.heap.size w w':=by
 have HR:=hid href;have e1:=e0 h0;clear e0 href;go_enter Tryz.func158,Tryz.ntmps158;go_wp2_with (go_at_call 122;refine HR.out.mono ?_;rintro e w2 ⟨⟨fa,fc,rfl⟩,hb2⟩;have HB2:=hid hb2;clear hb2)
 go_ret
 exact⟨rfl,by have B:=HB2.out;repeat (first|with_reducible exact B|with_reducible refine Below.alloc ?_ (by first|exact B.size|(simp;omega)) _)⟩
theorem yF (v:Value) (KT:ByteArray) (h0:0<KT.size) (e0:∀ h,(KT[0]'h).toNat=64) (N:ByteArray) (n:Nat) (W w:World) (hW:Below W.heap.size W w) (G:Nat) (hG:G<=999999) (O:ByteArray) (cells:List (List Value))
  (href:Calls Tryz.prog 122 #[v,.string KT] w fun e w'=>(∃ fb fa fc,e=.returned (.tuple #[.agg #[.int .u8 69,.string N,.slice fa n fc],.bool true])/\RowK W fb (.slice fa n fc) 4 cells)/\Below w.heap.size w w')
  (hn:0<n) (hc0:0<cells.length) (hc:cells[0][0]? = some (.int .i64 G)) (ho:O.data.toList=35::Wf.dec G) :
  Calls Tryz.prog 158 #[v,.string KT] w fun e w'=>e=.returned (.string O)/\Below w.heap.size w w':=by
 have HR:=hid href;have e1:=e0 h0;have HF:=hid fun fb fa fc w2 (hrow:RowK W fb (.slice fa n fc) 4 cells) (hb2:Below w.heap.size w w2)=>tT hrow hc0 hW hb2;have HC:=hid hc;have HD:=hid fun wz=>eL G G wz (Nat.le_refl _) (by omega);have ld:=Wf.bW hG;obtain⟨D,hD⟩:∃ D:ByteArray,(⟨(Wf.dec G).toArray⟩:ByteArray)=D:=⟨_,rfl⟩;simp only[tx,hD] at HD;have hds:D.size<=6:=by rw[<-hD,<-aD];simpa using ld
 have HO:=hid (show(⟨#[35]⟩:ByteArray)++D=O by rw[aR,ho,<-hD];simp);clear e0 href ho hD ld hc;go_enter Tryz.func158,Tryz.ntmps158;go_wp2_with (first|(go_at_call 89;refine(HD.out _).mono ?_;rintro e w3 ⟨rfl,hb3⟩;have HB3:=hid hb3;clear hb3)|(go_at_call 122;refine HR.out.mono ?_;rintro e w2 ⟨⟨fb,fa,fc,rfl,hrow⟩,hb2⟩;obtain⟨go,rfl,hm,hmx,hz2,hcell⟩:=HF.out _ _ _ _ hrow hb2;have g0:=hcell 0 _ (by decide) HC.out;rw[Nat.add_zero] at g0;have HB2:=hid hb2;clear hb2 hrow hcell))
 go_ret
 exact⟨aV HO.out,by have B:=aC (HB2.out.alloc HB2.out.size _) HB3.out;repeat (first|with_reducible exact B|with_reducible refine Below.alloc ?_ (by first|exact B.size|(simp;omega)) _)⟩
theorem xI (v:Value) (KT K2:ByteArray) (h0:0<KT.size) (e0:∀ h,(KT[0]'h).toNat=64) (N:ByteArray) (n:Nat) (W w:World) (hW:Below W.heap.size W w) (G:Nat) (hG:G<=999999) (S2 O:ByteArray) (hS2:S2.size<=200) (cells:List (List Value))
  (href:Calls Tryz.prog 122 #[v,.string KT] w fun e w'=>(∃ fb fa fc,e=.returned (.tuple #[.agg #[.int .u8 85,.string N,.slice fa n fc],.bool true])/\RowK W fb (.slice fa n fc) 4 cells)/\Below w.heap.size w w')
  (hn:0<n) (hc0:0<cells.length) (hc:cells[0][0]? = some (.int .i64 G)) (hc2:cells[0][2]? = some (.string K2)) (ho:O.data.toList=60::(Wf.dec G++61::(S2.data.toList++[62])))
  (hrec:∀ wz,Below w.heap.size w wz->Calls Tryz.prog 158 #[v,.string K2] wz fun e w'=>e=.returned (.string S2)/\Below wz.heap.size wz w') :
  Calls Tryz.prog 158 #[v,.string KT] w fun e w'=>e=.returned (.string O)/\Below w.heap.size w w':=by
 have HR:=hid href;have e1:=e0 h0;clear e0 href;have HF:=hid fun fb fa fc w2 (hrow:RowK W fb (.slice fa n fc) 4 cells) (hb2:Below w.heap.size w w2)=>tT hrow hc0 hW hb2;have HC:=hid hc;have HC2:=hid hc2;have HD:=hid fun wz=>eL G G wz (Nat.le_refl _) (by omega);have ld:=Wf.bW hG;obtain⟨D,hD⟩:∃ D:ByteArray,(⟨(Wf.dec G).toArray⟩:ByteArray)=D:=⟨_,rfl⟩;simp only[tx,hD] at HD;have hds:D.size<=6:=by rw[<-hD,<-aD];simpa using ld
 have HO:=hid (show(⟨#[60]⟩:ByteArray)++D++⟨#[61]⟩++S2++⟨#[62]⟩=O by rw[aR,ho,<-hD];simp);have HREC:=hid hrec;have a1:=fun wz=>run_string_add_sum (P:=Tryz.prog) (w:=wz) ⟨#[60]⟩ D (by show 1+D.size<=_;omega);have a2:=fun wz=>run_string_add_sum (P:=Tryz.prog) (w:=wz) (⟨#[60]⟩++D) ⟨#[61]⟩ (by rw[ByteArray.size_append];show 1+D.size+1<=_;omega);have a3:=fun wz=>run_string_add_sum (P:=Tryz.prog) (w:=wz) (⟨#[60]⟩++D++⟨#[61]⟩) S2 (by rw[ByteArray.size_append,ByteArray.size_append];show 1+D.size+1+S2.size<=_;omega);have a4:=fun wz=>run_string_add_sum (P:=Tryz.prog) (w:=wz) (⟨#[60]⟩++D++⟨#[61]⟩++S2) ⟨#[62]⟩ (by rw[ByteArray.size_append,ByteArray.size_append,ByteArray.size_append];show 1+D.size+1+S2.size+1<=_;omega);clear ho hD ld hc hc2 hrec;go_enter Tryz.func158,Tryz.ntmps158;go_wp2_with (go_at_call 122;refine HR.out.mono ?_;rintro e w2 ⟨⟨fb,fa,fc,rfl,hrow⟩,hb2⟩;obtain⟨go,rfl,hm,hmx,hz2,hcell⟩:=HF.out _ _ _ _ hrow hb2;have g0:=hcell 0 _ (by decide) HC.out;rw[Nat.add_zero] at g0;have g2:=hcell 2 _ (by decide) HC2.out;have HB2:=hid hb2;have F:=Lib.hid fun(wz:World) (hz:Below (w2.heap.size+1) (w2.alloc (.cells #[.int .u8 85,.string N,.slice (some ⟨fb,go,none⟩) n fc] 143)) wz)=>(show wz.cell? ⟨w2.heap.size,2,none⟩=some (.slice (some ⟨fb,go,none⟩) n fc)/\wz.cell? ⟨fb,go,none⟩=some (.int .i64 G)/\wz.cell? ⟨fb,go+2,none⟩=some (.string K2) from⟨(hz.cell (p:=⟨w2.heap.size,2,none⟩) (by simp)).trans (by simp),(hz.cell (p:=⟨fb,go,none⟩) (by simp;omega)).trans ((World.cell?_alloc_lt w2 _ _ hz2).trans g0),(hz.cell (p:=⟨fb,go+2,none⟩) (by simp;omega)).trans ((World.cell?_alloc_lt w2 _ _ hz2).trans g2)⟩);clear hb2 hrow hcell)
 go_region_held3 (fun w'=>w'.cell? ⟨w2.heap.size,2,none⟩=some (.slice (some ⟨fb,go,none⟩) n fc)/\w'.cell? ⟨fb,go,none⟩=some (.int .i64 G)/\w'.cell? ⟨fb,go+2,none⟩=some (.string K2)) (first|exact⟨k1,k2,k3⟩|exact⟨d1,d2,d3⟩|go_keep) (first|(go_at_call 89;refine(HD.out _).mono ?_;rintro e w3 ⟨rfl,hb3⟩;have TD:=Lib.hid (show Below (w2.heap.size+1) (w2.alloc (.cells #[.int .u8 85,.string N,.slice (some ⟨fb,go,none⟩) n fc] 143)) w3 by first|exact TS.out.trans (hb3.mono (by have:=TS.out.size;simp at this;omega))|exact Below.trans ((Below.refl _ _).drew) (hb3.mono (by show _<=(World.alloc _ _).heap.size;simp)));obtain⟨d1,d2,d3⟩:=F.out _ TD.out;clear hb3)|(go_at_call 158;refine(HREC.out _ (by first|exact(HB2.out.alloc HB2.out.size _).trans (TD.out.mono (by have:=HB2.out.size;omega))|exact(HB2.out.alloc HB2.out.size _).drew)).mono ?_;rintro e w4 ⟨rfl,hb4⟩;have TS:=Lib.hid (show Below (w2.heap.size+1) (w2.alloc (.cells #[.int .u8 85,.string N,.slice (some ⟨fb,go,none⟩) n fc] 143)) w4 by first|exact TD.out.trans (hb4.mono (by have:=TD.out.size;simp at this;omega))|exact Below.trans ((Below.refl _ _).drew) (hb4.mono (by show _<=(World.alloc _ _).heap.size;simp)));obtain⟨k1,k2,k3⟩:=F.out _ TS.out;clear hb4))
 all_goals go_wp2
 all_goals go_ret
 all_goals exact⟨aV HO.out,by first|exact(HB2.out.alloc HB2.out.size _).trans (TS.out.mono (by have:=HB2.out.size;omega))|exact(HB2.out.alloc HB2.out.size _).trans (TD.out.mono (by have:=HB2.out.size;omega))⟩
theorem wD (x:Wf.Sc) (hx:Wf.ScOk x) (lo b:Nat) (v:Value) (W:World) (H:ScSp W lo b v x):∀ (n:Nat) (k:Wf.K) (w:World),Below W.heap.size W w->k.text.length<=12->Wf.aN x k=true->(∀ t,refT x k=some t->Wf.endsIn x n t=true) ->
  Calls Tryz.prog 158 #[v,tx k.text] w fun e w'=>e=.returned (tx (Wf.stands x 9 k))/\Below w.heap.size w w':=by
 have hx8:=hx.len;intro n;induction n with
 | zero =>
  intro k w hW hk hr he;cases k with
  | ref nm =>
   obtain⟨t,ht⟩:=Option.isSome_iff_exists.1 (show(x.find nm).isSome=true by simpa[Wf.aN,Wf.K.base,Wf.K.name] using hr);have:=he t ht;simp[Wf.endsIn] at this
  | num=>exact fS x lo b v _ (.inl rfl) W w hW (by omega) H
  | txt=>exact fS x lo b v _ (.inr (.inl rfl)) W w hW (by omega) H
  | flag=>exact fS x lo b v _ (.inr (.inr rfl)) W w hW (by omega) H
  | list k=>exact jV v 91 (.inl rfl) k.text w
  | opt k=>exact jV v 63 (.inr rfl) k.text w
 | succ n ih =>
  intro k w hW hk hr he;cases k with
  | num=>exact fS x lo b v _ (.inl rfl) W w hW (by omega) H
  | txt=>exact fS x lo b v _ (.inr (.inl rfl)) W w hW (by omega) H
  | flag=>exact fS x lo b v _ (.inr (.inr rfl)) W w hW (by omega) H
  | list k=>exact jV v 91 (.inl rfl) k.text w
  | opt k=>exact jV v 63 (.inr rfl) k.text w
  | ref nm =>
   obtain⟨t,ht⟩:=Option.isSome_iff_exists.1 (show(x.find nm).isSome=true by simpa[Wf.aN,Wf.K.base,Wf.K.name] using hr);have hm:=(Wf.bI ht).1;have hok:=hx.tys t hm;have hend:=he t ht;have hs:=stands_ref ht;obtain⟨g0,g1⟩:=get0 (s:=⟨(Wf.K.ref nm).text.toArray⟩) (c:=64) (r:=nm++[59]) rfl;have href:=fX x lo b v (.ref nm) (by omega) W w hW (by omega) H;have href2:Calls Tryz.prog 122 #[v,tx (Wf.K.ref nm).text] w fun e w'=>(∃ fb a c,e=.returned (.tuple #[.agg #[.int .u8 t.sort.toNat,tx t.name,.slice a t.fields.length c],.bool true])/\lo<=fb/\RowK W fb (.slice a t.fields.length c) 4 (t.fields.map (fdS t.sort)))/\Below w.heap.size w w':=by
    refine href.mono fun e w' ⟨h1,h2⟩=>⟨?_,h2⟩;unfold dZ at h1;rw[show refT x (.ref nm)=some t from ht] at h1;exact h1
   by_cases h82:t.sort=82
   ·rw[hs,if_pos h82]
    refine a1X v ⟨(Wf.K.ref nm).text.toArray⟩ g0 g1 ⟨t.name.toArray⟩ t.fields.length w (href2.mono fun e w' ⟨⟨fb,a,c,h1,_,_⟩,h2⟩=>⟨⟨a,c,?_⟩,h2⟩);rw[h1,h82];rfl
   ·rw[if_neg h82] at hs
    obtain⟨f,fs,hfs⟩:∃ f fs,t.fields=f::fs:=List.exists_cons_of_ne_nil (hok.some h82);have hfd:=hok.fds f (by rw[hfs];exact List.mem_cons_self ..);have htag:f.tag<=999999:=(by have:=hfd.tag2;omega);rw[hfs] at hs;dsimp only at hs;have hlen:0<(t.fields.map (fdS t.sort)).length:=(by rw[hfs];simp);have e0:(t.fields.map (fdS t.sort))[0]'hlen=fdS t.sort f:=(by simp[hfs]);by_cases h69:t.sort=69
    ·rw[if_pos h69] at hs
     rw[hs];refine yF v ⟨(Wf.K.ref nm).text.toArray⟩ g0 g1 ⟨t.name.toArray⟩ t.fields.length W w hW f.tag htag ⟨(35::Wf.dec f.tag).toArray⟩ _ (href2.mono fun e w' ⟨⟨fb,a,c,h1,_,h3⟩,h2⟩=>⟨⟨fb,a,c,?_,h3⟩,h2⟩) (by rw[hfs];simp) hlen (by rw[e0];rfl) rfl;rw[h1,h69];rfl
    ·rw[if_neg h69] at hs
     have h85:t.sort=85:=by
      rcases hok.sort with h|h|h
      ·exact absurd h h82
      ·exact h
      ·exact absurd h h69
     have hk2:=eI hfd;have hr2:=hx.refs t hm h69 f (by rw[hfs];exact List.mem_cons_self ..);have hL:=qW hx 9 f.kind;rw[<-oC hx] at hs;rw[hs];refine xI v ⟨(Wf.K.ref nm).text.toArray⟩ ⟨f.kind.text.toArray⟩ g0 g1 ⟨t.name.toArray⟩ t.fields.length W w hW f.tag htag ⟨(Wf.stands x 9 f.kind).toArray⟩ _ (by rw[<-aD];simpa using Nat.le_trans hL (by decide)) _ (href2.mono fun e w' ⟨⟨fb,a,c,h1,_,h3⟩,h2⟩=>⟨⟨fb,a,c,?_,h3⟩,h2⟩) (by rw[hfs];simp) hlen (by rw[e0];rfl) (by rw[e0,fdS,if_neg h69];rfl) rfl (fun wz hz=>ih f.kind wz (hW.trans (hz.mono hW.size)) hk2 hr2 fun u hu=>?_)
     ·rw[h1,h85];rfl
     ·have:=ends_step (x:=x) (m:=n) h85 hfs
      rw[hend,hu] at this;exact this.symm
theorem a1V (x:Wf.Sc) (hx:Wf.ScOk x) (lo b:Nat) (v:Value) (k:Wf.K) (W w:World) (hW:Below W.heap.size W w) (H:ScSp W lo b v x) (hk:k.text.length<=12) (hr:Wf.aN x k=true) :
  Calls Tryz.prog 158 #[v,tx k.text] w fun e w'=>e=.returned (tx (Wf.stands x 9 k))/\Below w.heap.size w w' :=
 wD x hx lo b v W H 9 k w hW hk hr fun t ht=>hx.ends t (kU ht)

def gG:Wf.K->Nat
 | .list _=>91
 | .opt _=>63
 | _=>0
theorem jJ (SG BS NM:ByteArray) (q:Nat) (h:(SG.toList.isEmpty=true/\q=0)\/(SG.toList.isEmpty=false/\0<SG.size/\∀ h,(SG[0]'h).toNat=q)) (w:World):Calls Tryz.prog 95 #[.agg #[.string SG,.string BS,.string NM]] w fun e w'=>e=.returned (.int .u8 q)/\Below w.heap.size w w':=by
 rcases h with⟨h1,rfl⟩|⟨h1,h0,h2⟩
 ·go_enter Tryz.func95,Tryz.ntmps95
  go_wp2_with fail
  go_ret
  exact⟨rfl,(Below.refl _ _).alloc (Nat.le_refl _) _⟩
 ·have h3:=h2 h0
  clear h2;go_enter Tryz.func95,Tryz.ntmps95;go_wp2_with fail
  go_ret
  exact⟨by simp[h3],(Below.refl _ _).alloc (Nat.le_refl _) _⟩
theorem sign (k:Wf.K) (w:World):Calls Tryz.prog 95 #[kV k] w fun e w'=>e=.returned (.int .u8 (gG k))/\Below w.heap.size w w':=by
 refine jJ _ _ _ _ ?_ w;cases k with
 | list k=>exact .inr ⟨by rw[ByteArray.toList_eq];rfl,(get0 (s:=⟨(Wf.K.list k).signs.toArray⟩) (c:=91) (r:=k.signs) rfl)⟩
 | opt k=>exact .inr ⟨by rw[ByteArray.toList_eq];rfl,(get0 (s:=⟨(Wf.K.opt k).signs.toArray⟩) (c:=63) (r:=k.signs) rfl)⟩
 | _=>exact .inl ⟨by rw[ByteArray.toList_eq];rfl,rfl⟩
theorem a7C (k:Wf.K):k.text=if k.base=[64] then k.signs++[64]++k.name++[59] else k.signs++k.base:=by
 induction k with
 | list k ih=>simp only[Wf.K.text,Wf.K.base,Wf.K.signs,Wf.K.name,ih];by_cases h:k.base=[64] <;> simp[h]
 | opt k ih=>simp only[Wf.K.text,Wf.K.base,Wf.K.signs,Wf.K.name,ih];by_cases h:k.base=[64] <;> simp[h]
 | _=>rfl
theorem xZ (SG BS NM O:ByteArray) (h6:SG.size<=1000000/\BS.size<=1000000/\NM.size<=1000000) (h:((BS.toList==[64])=true/\SG++⟨#[64]⟩++NM++⟨#[59]⟩=O)\/((BS.toList==[64])=false/\SG++BS=O)) (w:World):Calls Tryz.prog 41 #[.agg #[.string SG,.string BS,.string NM]] w fun e w'=>e=.returned (.string O)/\Below w.heap.size w w':=by
 obtain⟨s1,s2,s3⟩:=h6;rcases h with⟨h1,h2⟩|⟨h1,h2⟩
 ·have H2:=hid h2
  have a1:=fun wz=>run_string_add_sum (P:=Tryz.prog) (w:=wz) SG ⟨#[64]⟩ (by show SG.size+1<=_;omega);have a2:=fun wz=>run_string_add_sum (P:=Tryz.prog) (w:=wz) (SG++⟨#[64]⟩) NM (by rw[ByteArray.size_append];show SG.size+1+NM.size<=_;omega);have a3:=fun wz=>run_string_add_sum (P:=Tryz.prog) (w:=wz) (SG++⟨#[64]⟩++NM) ⟨#[59]⟩ (by rw[ByteArray.size_append,ByteArray.size_append];show SG.size+1+NM.size+1<=_;omega);clear h2;go_enter Tryz.func41,Tryz.ntmps41;go_wp2_with fail
  go_ret
  exact⟨aV H2.out,(Below.refl _ _).alloc (Nat.le_refl _) _⟩
 ·have H2:=hid h2
  have a1:=fun wz=>run_string_add_sum (P:=Tryz.prog) (w:=wz) SG BS (by omega);clear h2;go_enter Tryz.func41,Tryz.ntmps41;go_wp2_with fail
  go_ret
  exact⟨aV H2.out,(Below.refl _ _).alloc (Nat.le_refl _) _⟩
theorem a6S (k:Wf.K) (hk:k.text.length<=1000) (w:World):Calls Tryz.prog 41 #[kV k] w fun e w'=>e=.returned (tx k.text)/\Below w.heap.size w w':=by
 have hn:=fJ k;have ht:=a7C k;have hb:k.base.length=1:=by rcases a0T k with h|h|h|h <;> rw[h] <;> rfl
 have hs:k.signs.length<=k.text.length:=by rw[ht];split <;> simp
 refine xZ ⟨k.signs.toArray⟩ ⟨k.base.toArray⟩ ⟨k.name.toArray⟩ ⟨k.text.toArray⟩ ⟨by rw[aU];omega,by rw[aU];omega,by rw[aU];omega⟩ ?_ w;by_cases h:k.base=[64]
 ·left
  refine⟨by rw[ByteArray.toList_eq,h];rfl,?_⟩;rw[aR,ht,if_pos h];simp
 ·right
  refine⟨by rw[ByteArray.toList_eq];exact beq_eq_false_iff_ne.2 h,?_⟩;rw[aR,ht,if_neg h];simp

def FdAt (w:World) (fb o:Nat) (sort:UInt8) (f:Wf.Fd):Prop:=fb<w.heap.size/\∀ j u,(fdC sort f)[j]? = some u->w.cell? ⟨fb,o+j,none⟩=some u
theorem FdAt.below {w w':World} {fb o:Nat} {sort:UInt8} {f:Wf.Fd} (h:FdAt w fb o sort f) (hb:Below w.heap.size w w'):FdAt w' fb o sort f:=⟨Nat.lt_of_lt_of_le h.1 hb.size,fun j u hu=>(hb.cell (p:=⟨fb,o+j,none⟩) h.1).trans (h.2 j u hu)⟩
theorem TyL.row {w:World} {lo b:Nat} {t:Wf.Ty} (h:TyL w lo b t):∃ fb a c,b<w.heap.size/\w.cell? ⟨b,2,none⟩=some (.slice a t.fields.length c)/\t.fields.length<=c/\c<=maxLen/\∀ i (hi:i<t.fields.length),∃ o,a=some ⟨fb,o,none⟩/\FdAt w fb (o+i*6) t.sort t.fields[i]:=by
 obtain⟨fb,a,c,line,_,_,hb,_,_,c2,_,hr⟩:=h;have hl:t.fields.length<=c/\c<=maxLen:=by
  obtain⟨a',cap',e1,e2,e3,_⟩:=hr;simp only[Value.slice.injEq] at e1;rw[List.length_map] at e2;omega
 refine⟨fb,a,c,hb,c2,hl.1,hl.2,fun i hi=>?_⟩;obtain⟨o,ha,hfb,_,_,hcell⟩:=hr.get (i:=i) (by rw[List.length_map];exact hi);have e0:(t.fields.map (fdC t.sort))[i]'(by rw[List.length_map];exact hi)=fdC t.sort t.fields[i]:=by rw[List.getElem_map]
 rw[e0] at hcell;refine⟨o,ha,hfb,fun j u hu=>hcell j u ?_ hu⟩;have:=(List.getElem?_eq_some_iff.1 hu).1;rw[oE] at this;exact this
def bO (W:World) (t:Wf.Ty) (g:Int) (e:Ending):Prop:=match bB t g with
 | some f=>∃ fb o,e=.returned (.pointer (some ⟨fb,o,none⟩))/\FdAt W fb o t.sort f
 | none=>e=.returned (.pointer none)
theorem field (t:Wf.Ty) (ht:t.fields.length<=1000) (g:Int) (lo tb:Nat) (W w:World) (hW:Below W.heap.size W w) (hT:TyL W lo tb t):Calls Tryz.prog 40 #[ptr tb,.int .i64 g] w fun e w'=>bO W t g e/\w=w':=by
 obtain⟨fb,a,c,hb,c2,hnc,hcm,hrow⟩:=hT.row;have HROW:=hid hrow;obtain⟨n,hn⟩:∃ n,t.fields.length=n:=⟨_,rfl⟩;have HN:=hid hn;rw[hn] at ht c2 hnc;have y2:=(hW.cell (p:=⟨tb,2,none⟩) hb).trans c2;have HW:=hid hW;clear hrow hn c2 hT;go_enter Tryz.func40,Tryz.ntmps40;go_wp2_with fail
 go_loop [11] (fun v=>∃ k:Nat,k<=n/\v=.int .i64 k/\Hid (∀ j (hj:j<t.fields.length),j<k->((t.fields[j]).tag:Int)≠g)) (fun v=>n-(RowKit.intOf v).toNat)
 case atStart=>exact⟨0,Nat.zero_le _,rfl,hid fun j hj h=>by omega⟩
 case round =>
  obtain⟨k,hk,rfl,hno⟩:=hrel;by_cases hlt:k<n
  ·have hkx:k<t.fields.length:=by rw[HN.out];exact hlt
   obtain⟨o,rfl,hfd⟩:=HROW.out k hkx;have HFD:=hid hfd;have e0:(fdC t.sort t.fields[k])[0]? = some (.int .i64 (t.fields[k]).tag):=by
    obtain⟨_,_,_,_,h⟩:=dW t.sort t.fields[k];rw[h];rfl
   have z0:w.cell? ⟨fb,o+k*6,none⟩=some (.int .i64 (t.fields[k]).tag):=(HW.out.cell (p:=⟨fb,o+k*6,none⟩) hfd.1).trans (hfd.2 0 _ e0);obtain⟨G,hG⟩:∃ G,(t.fields[k]).tag=G:=⟨_,rfl⟩;rw[hG] at z0;have HG:=hid hG;clear hfd e0 hG;cases hq:((G:Int)==g) with
   | true =>
    have HF:=hid (show bB t g=some t.fields[k] from mE hkx hno.out (by rw[HG.out];simpa using hq));have hge:(G:Int)=g:=(by simpa using hq);subst hge;clear hq;go_wp2_with fail
    go_ret
    exact⟨by unfold bO;rw[HF.out];exact⟨fb,o+k*6,rfl,HFD.out⟩,rfl⟩
   | false =>
    have hne:Hid ((G:Int)≠g):=hid (by simpa using hq);go_wp2_with fail
    go_round
    case rel=>exact⟨k+1,by omega,by go_num,hid fun j hj hjk=>by
     by_cases hj2:j=k
     ·subst hj2;rw[HG.out];exact hne.out
     ·exact hno.out j hj (by omega)⟩
    case measure=>simp[RowKit.intOf];omega
  ·have hkn:k=n:=by omega
   subst hkn;have HF:=hid (show bB t g=none from kK fun j hj=>hno.out j hj (by rw[<-HN.out];exact hj));go_wp2_with fail
   go_ret
   exact⟨by unfold bO;rw[HF.out];rfl,rfl⟩

section
variable (sb:Nat) (SG BS NM:ByteArray) (w:World)
theorem rE (q:Nat) (hq:q=91\/q=63) (hs:∀ wz,Calls Tryz.prog 95 #[.agg #[.string SG,.string BS,.string NM]] wz fun e w'=>e=.returned (.int .u8 q)/\Below wz.heap.size wz w'):Calls Tryz.prog 67 #[ptr sb,.agg #[.string SG,.string BS,.string NM]] w fun e w'=>e=.returned (if q=91 then tx [91,93] else tx [45])/\Below w.heap.size w w':=by
 have HS:=hid hs;clear hs;rcases hq with rfl|rfl;all_goals
  go_enter Tryz.func67,Tryz.ntmps67;go_wp2_with (go_at_call 95;refine(HS.out _).mono ?_;rintro e w2 ⟨rfl,hb2⟩;have HB2:=hid hb2;clear hb2)
  go_ret
  exact⟨rfl,((Below.refl _ _).alloc (Nat.le_refl _) _).trans (HB2.out.mono (by simp))⟩
theorem kE (hs:∀ wz,Calls Tryz.prog 95 #[.agg #[.string SG,.string BS,.string NM]] wz fun e w'=>e=.returned (.int .u8 (0:Nat))/\Below wz.heap.size wz w') (O:ByteArray) (h:BS=⟨#[110]⟩/\O=⟨#[48]⟩\/BS=⟨#[116]⟩/\O=⟨#[39,39]⟩\/BS=⟨#[102]⟩/\O=⟨#[110,111]⟩):Calls Tryz.prog 67 #[ptr sb,.agg #[.string SG,.string BS,.string NM]] w fun e w'=>e=.returned (.string O)/\Below w.heap.size w w':=by
 have HS:=hid hs;clear hs;rcases h with⟨rfl,rfl⟩|⟨rfl,rfl⟩|⟨rfl,rfl⟩;all_goals
  go_enter Tryz.func67,Tryz.ntmps67;go_wp2_with (go_at_call 95;refine(HS.out _).mono ?_;rintro e w2 ⟨rfl,hb2⟩;obtain⟨hc3,hc4⟩:=bcell hb2;have hz:w.heap.size<w2.heap.size:=(by have:=hb2.size;simp at this;omega);have HB2:=hid hb2;clear hb2)
  go_ret
  exact⟨rfl,((Below.refl _ _).alloc (Nat.le_refl _) _).trans (HB2.out.mono (by simp))⟩
end
structure At (W:World) (lo sb:Nat) (NM:ByteArray) (t:Wf.Ty) (mb b:Nat):Prop where
 sz:sb<W.heap.size
 c1:W.cell? ⟨sb,1,none⟩=some (.map (some mb))
 ty:TyL W lo b t
 look:∀ wz,Below W.heap.size W wz->(Instr.lookup 114 (.map (some mb)) (.string NM) false).run Tryz.prog wz=.ok (ptr b) wz
section
variable (W:World) (lo sb:Nat) (SG NM:ByteArray) (t:Wf.Ty) (mb b:Nat) (HA:At W lo sb NM t mb b) (w:World) (hW:Below W.heap.size W w)
 (hs:∀ wz,Calls Tryz.prog 95 #[.agg #[.string SG,.string ⟨#[64]⟩,.string NM]] wz fun e w'=>e=.returned (.int .u8 (0:Nat))/\Below wz.heap.size wz w')
include HA hW hs
theorem a5R (h82:t.sort=82):Calls Tryz.prog 67 #[ptr sb,.agg #[.string SG,.string ⟨#[64]⟩,.string NM]] w fun e w'=>e=.returned (tx [123,125])/\Below w.heap.size w w':=by
 have HS:=hid hs;have HW:=hid hW;have HAT:=hid HA;obtain⟨hbW,s0⟩:=HA.ty.sort;rw[h82] at s0;have hsw:sb<w.heap.size:=Nat.lt_of_lt_of_le HA.sz hW.size;have hbw:b<w.heap.size:=Nat.lt_of_lt_of_le hbW hW.size;have y1:=(hW.cell (p:=⟨sb,1,none⟩) HA.sz).trans HA.c1;have y0:=(hW.cell (p:=⟨b,0,none⟩) hbW).trans s0;clear hs s0 HA hW;go_enter Tryz.func67,Tryz.ntmps67;go_wp2_with (go_at_call 95;refine(HS.out _).mono ?_;rintro e w2 ⟨rfl,hb2⟩;obtain⟨hc3,hc4⟩:=bcell hb2;have hz:w.heap.size<w2.heap.size:=(by have:=hb2.size;simp at this;omega);have HB2:=hid (((Below.refl w.heap.size w).alloc (Nat.le_refl _) (.cells #[.string SG,.string ⟨#[64]⟩,.string NM] 48)).trans (hb2.mono (by simp)));have z1:=(HB2.out.cell (p:=⟨sb,1,none⟩) hsw).trans y1;have z0:=(HB2.out.cell (p:=⟨b,0,none⟩) hbw).trans y0;have hbw2:=Nat.lt_of_lt_of_le hbw HB2.out.size;have l0:=HAT.out.look w2 (HW.out.trans (HB2.out.mono HW.out.size));have l1:=HAT.out.look w2.drew (HW.out.trans (HB2.out.mono HW.out.size)).drew;clear hb2)
 go_region
 all_goals go_wp2_with fail
 all_goals go_ret
 all_goals exact⟨rfl,by have B:=HB2.out;repeat (first|with_reducible exact B|with_reducible refine Below.drew ?_|with_reducible refine Below.alloc ?_ (by first|exact B.size|(simp;done)|(simp;omega)|omega) _)⟩
theorem a6G (h69:t.sort=69) (f:Wf.Fd) (fs:List Wf.Fd) (hf:t.fields=f::fs) (hG:f.tag<=999999) (O:ByteArray) (ho:O.data.toList=35::Wf.dec f.tag):Calls Tryz.prog 67 #[ptr sb,.agg #[.string SG,.string ⟨#[64]⟩,.string NM]] w fun e w'=>e=.returned (.string O)/\Below w.heap.size w w':=by
 have HS:=hid hs;have HW:=hid hW;have HAT:=hid HA;obtain⟨hbW,s0⟩:=HA.ty.sort;rw[h69] at s0;obtain⟨fb,a,c,_,c2,hnc,hcm,hrow⟩:=HA.ty.row;obtain⟨o,rfl,hfd⟩:=hrow 0 (by rw[hf];simp);have ef:t.fields[0]'(by rw[hf];simp)=f:=by simp[hf]
 rw[ef,Nat.zero_mul,Nat.add_zero] at hfd;have e0:(fdC t.sort f)[0]? = some (.int .i64 f.tag):=by
  obtain⟨_,_,_,_,h⟩:=dW t.sort f;rw[h];rfl
 have f0:=hfd.2 0 _ e0;rw[Nat.add_zero] at f0;have hfb:=hfd.1;obtain⟨n,hn⟩:∃ n,t.fields.length=n:=⟨_,rfl⟩;have h0n:0<n:=by rw[<-hn,hf];simp
 rw[hn] at c2 hnc;obtain⟨G,hGG⟩:∃ G,f.tag=G:=⟨_,rfl⟩;rw[hGG] at f0 hG ho;have hsw:sb<w.heap.size:=Nat.lt_of_lt_of_le HA.sz hW.size;have hbw:b<w.heap.size:=Nat.lt_of_lt_of_le hbW hW.size;have hfw:fb<w.heap.size:=Nat.lt_of_lt_of_le hfb hW.size;have y1:=(hW.cell (p:=⟨sb,1,none⟩) HA.sz).trans HA.c1;have y0:=(hW.cell (p:=⟨b,0,none⟩) hbW).trans s0;have y2:=(hW.cell (p:=⟨b,2,none⟩) hbW).trans c2;have yf:=(hW.cell (p:=⟨fb,o,none⟩) hfb).trans f0;have HD:=hid fun wz=>iW G G wz (Nat.le_refl _) hG;have ld:=Wf.bW hG;obtain⟨D,hD⟩:∃ D:ByteArray,(⟨(Wf.dec G).toArray⟩:ByteArray)=D:=⟨_,rfl⟩;simp only[tx,hD] at HD;have hds:D.size<=6:=by rw[<-hD,<-aD];simpa using ld
 have HO:=hid (show(⟨#[35]⟩:ByteArray)++D=O by rw[aR,ho,<-hD];simp);have a1:=fun wz=>run_string_add_sum (P:=Tryz.prog) (w:=wz) ⟨#[35]⟩ D (by show 1+D.size<=_;omega);clear hs s0 HA hW ho hD ld c2 f0 e0 hfd ef hrow hf hGG;go_enter Tryz.func67,Tryz.ntmps67;go_wp2_with (go_at_call 95;refine(HS.out _).mono ?_;rintro e w2 ⟨rfl,hb2⟩;obtain⟨hc3,hc4⟩:=bcell hb2;have hz:w.heap.size<w2.heap.size:=(by have:=hb2.size;simp at this;omega);have HB2:=hid (((Below.refl w.heap.size w).alloc (Nat.le_refl _) (.cells #[.string SG,.string ⟨#[64]⟩,.string NM] 48)).trans (hb2.mono (by simp)));have z1:=(HB2.out.cell (p:=⟨sb,1,none⟩) hsw).trans y1;have z0:=(HB2.out.cell (p:=⟨b,0,none⟩) hbw).trans y0;have z2:=(HB2.out.cell (p:=⟨b,2,none⟩) hbw).trans y2;have zf:=(HB2.out.cell (p:=⟨fb,o,none⟩) hfw).trans yf;have hbw2:=Nat.lt_of_lt_of_le hbw HB2.out.size;have l0:=HAT.out.look w2 (HW.out.trans (HB2.out.mono HW.out.size));have l1:=HAT.out.look w2.drew (HW.out.trans (HB2.out.mono HW.out.size)).drew;clear hb2)
 go_region
 all_goals go_wp2_with (go_at_call 60;refine(HD.out _).mono ?_;rintro e w3 ⟨rfl,hb3⟩;have HB3:=hid hb3;clear hb3)
 all_goals go_ret
 all_goals exact⟨aV HO.out,by have B:=HB2.out.drew.trans (HB3.out.mono HB2.out.size);repeat (first|with_reducible exact B|with_reducible refine Below.drew ?_|with_reducible refine Below.alloc ?_ (by first|exact B.size|(simp;done)|(simp;omega)|omega) _)⟩
theorem a0S (h85:t.sort=85) (f:Wf.Fd) (fs:List Wf.Fd) (hf:t.fields=f::fs) (hG:f.tag<=999999) (S2 O:ByteArray) (hS2:S2.size<=200) (ho:O.data.toList=60::(Wf.dec f.tag++61::(S2.data.toList++[62])))
  (hrec:∀ wz,Below w.heap.size w wz->Calls Tryz.prog 67 #[ptr sb,kV f.kind] wz fun e w'=>e=.returned (.string S2)/\Below wz.heap.size wz w'):Calls Tryz.prog 67 #[ptr sb,.agg #[.string SG,.string ⟨#[64]⟩,.string NM]] w fun e w'=>e=.returned (.string O)/\Below w.heap.size w w':=by
 have HS:=hid hs;have HW:=hid hW;have HAT:=hid HA;obtain⟨hbW,s0⟩:=HA.ty.sort;rw[h85] at s0;obtain⟨fb,a,c,_,c2,hnc,hcm,hrow⟩:=HA.ty.row;obtain⟨o,rfl,hfd⟩:=hrow 0 (by rw[hf];simp);have ef:t.fields[0]'(by rw[hf];simp)=f:=by simp[hf]
 rw[ef,Nat.zero_mul,Nat.add_zero] at hfd;have e0:fdC t.sort f=[.int .i64 f.tag,tx f.name,tx f.kind.signs,tx f.kind.base,tx f.kind.name,tx f.given]:=by unfold fdC;rw[if_neg (by rw[h85];decide)]
 have hfb:=hfd.1;have hf2:=hfd.2;rw[e0] at hf2;obtain⟨S1,hS1⟩:∃ S1:ByteArray,(⟨f.kind.signs.toArray⟩:ByteArray)=S1:=⟨_,rfl⟩;obtain⟨B1,hB1⟩:∃ B1:ByteArray,(⟨f.kind.base.toArray⟩:ByteArray)=B1:=⟨_,rfl⟩;obtain⟨N1,hN1⟩:∃ N1:ByteArray,(⟨f.kind.name.toArray⟩:ByteArray)=N1:=⟨_,rfl⟩;simp only[kV,tx,hS1,hB1,hN1] at hrec;simp only[tx,hS1,hB1,hN1] at hf2;have f0:W.cell? ⟨fb,o,none⟩=some (.int .i64 f.tag):=hf2 0 _ rfl;have f1:=hf2 2 _ rfl;have f2:=hf2 3 _ rfl;have f3:=hf2 4 _ rfl;obtain⟨n,hn⟩:∃ n,t.fields.length=n:=⟨_,rfl⟩;have h0n:0<n:=by rw[<-hn,hf];simp
 rw[hn] at c2 hnc;obtain⟨G,hGG⟩:∃ G,f.tag=G:=⟨_,rfl⟩;rw[hGG] at f0 hG ho;have hsw:sb<w.heap.size:=Nat.lt_of_lt_of_le HA.sz hW.size;have hbw:b<w.heap.size:=Nat.lt_of_lt_of_le hbW hW.size;have hfw:fb<w.heap.size:=Nat.lt_of_lt_of_le hfb hW.size;have y1:=(hW.cell (p:=⟨sb,1,none⟩) HA.sz).trans HA.c1;have y0:=(hW.cell (p:=⟨b,0,none⟩) hbW).trans s0;have y2:=(hW.cell (p:=⟨b,2,none⟩) hbW).trans c2;have yf:=(hW.cell (p:=⟨fb,o,none⟩) hfb).trans f0;have x1:=(hW.cell (p:=⟨fb,o+2,none⟩) hfb).trans f1;have x2:=(hW.cell (p:=⟨fb,o+3,none⟩) hfb).trans f2;have x3:=(hW.cell (p:=⟨fb,o+4,none⟩) hfb).trans f3;have HD:=hid fun wz=>iW G G wz (Nat.le_refl _) hG;have ld:=Wf.bW hG;obtain⟨D,hD⟩:∃ D:ByteArray,(⟨(Wf.dec G).toArray⟩:ByteArray)=D:=⟨_,rfl⟩;simp only[tx,hD] at HD;have hds:D.size<=6:=by rw[<-hD,<-aD];simpa using ld
 have HO:=hid (show(⟨#[60]⟩:ByteArray)++D++⟨#[61]⟩++S2++⟨#[62]⟩=O by rw[aR,ho,<-hD];simp);have HREC:=hid hrec;have a1:=fun wz=>run_string_add_sum (P:=Tryz.prog) (w:=wz) ⟨#[60]⟩ D (by show 1+D.size<=_;omega);have a2:=fun wz=>run_string_add_sum (P:=Tryz.prog) (w:=wz) (⟨#[60]⟩++D) ⟨#[61]⟩ (by rw[ByteArray.size_append];show 1+D.size+1<=_;omega);have a3:=fun wz=>run_string_add_sum (P:=Tryz.prog) (w:=wz) (⟨#[60]⟩++D++⟨#[61]⟩) S2 (by rw[ByteArray.size_append,ByteArray.size_append];show 1+D.size+1+S2.size<=_;omega);have a4:=fun wz=>run_string_add_sum (P:=Tryz.prog) (w:=wz) (⟨#[60]⟩++D++⟨#[61]⟩++S2) ⟨#[62]⟩ (by rw[ByteArray.size_append,ByteArray.size_append,ByteArray.size_append];show 1+D.size+1+S2.size+1<=_;omega);clear hs s0 HA hW ho hD ld c2 f0 f1 f2 f3 hf2 e0 hfd ef hrow hf hGG hrec hS1 hB1 hN1;go_enter Tryz.func67,Tryz.ntmps67;go_wp2_with (go_at_call 95;refine(HS.out _).mono ?_;rintro e w2 ⟨rfl,hb2⟩;obtain⟨hc3,hc4⟩:=bcell hb2;have hz:w.heap.size<w2.heap.size:=(by have:=hb2.size;simp at this;omega);have HB2:=hid (((Below.refl w.heap.size w).alloc (Nat.le_refl _) (.cells #[.string SG,.string ⟨#[64]⟩,.string NM] 48)).trans (hb2.mono (by simp)));have z1:=(HB2.out.cell (p:=⟨sb,1,none⟩) hsw).trans y1;have z0:=(HB2.out.cell (p:=⟨b,0,none⟩) hbw).trans y0;have z2:=(HB2.out.cell (p:=⟨b,2,none⟩) hbw).trans y2;have zf:=(HB2.out.cell (p:=⟨fb,o,none⟩) hfw).trans yf;have hbw2:=Nat.lt_of_lt_of_le hbw HB2.out.size;have l0:=HAT.out.look w2 (HW.out.trans (HB2.out.mono HW.out.size));have l1:=HAT.out.look w2.drew (HW.out.trans (HB2.out.mono HW.out.size)).drew;have w1:=(HB2.out.cell (p:=⟨fb,o+2,none⟩) hfw).trans x1;have w12:=(HB2.out.cell (p:=⟨fb,o+3,none⟩) hfw).trans x2;have w13:=(HB2.out.cell (p:=⟨fb,o+4,none⟩) hfw).trans x3;have hfw2:=Nat.lt_of_lt_of_le hfw HB2.out.size;have F:=hid fun(wz:World) (hz:Below w2.heap.size w2 wz)=>(show wz.cell? ⟨b,2,none⟩=some (.slice (some ⟨fb,o,none⟩) n c)/\wz.cell? ⟨fb,o,none⟩=some (.int .i64 G)/\wz.cell? ⟨fb,o+2,none⟩=some (.string S1)/\wz.cell? ⟨fb,o+3,none⟩=some (.string B1)/\wz.cell? ⟨fb,o+4,none⟩=some (.string N1) from⟨(hz.cell (p:=⟨b,2,none⟩) hbw2).trans z2,(hz.cell (p:=⟨fb,o,none⟩) hfw2).trans zf,(hz.cell (p:=⟨fb,o+2,none⟩) hfw2).trans w1,(hz.cell (p:=⟨fb,o+3,none⟩) hfw2).trans w12,(hz.cell (p:=⟨fb,o+4,none⟩) hfw2).trans w13⟩);clear hb2)
 go_region
 go_wp2_with fail
 go_region_held3 (fun w'=>w'.cell? ⟨b,2,none⟩=some (.slice (some ⟨fb,o,none⟩) n c)/\w'.cell? ⟨fb,o,none⟩=some (.int .i64 G)/\w'.cell? ⟨fb,o+2,none⟩=some (.string S1)/\w'.cell? ⟨fb,o+3,none⟩=some (.string B1)/\w'.cell? ⟨fb,o+4,none⟩=some (.string N1)) (first|exact⟨k1,k2,k3,k4,k5⟩|exact⟨d1,d2,d3,d4,d5⟩|go_keep) (first|(go_at_call 60;refine(HD.out _).mono ?_;rintro e w3 ⟨rfl,hb3⟩;have TD:=Lib.hid (show Below w2.heap.size w2 w3 by first|exact TS.out.trans (hb3.mono TS.out.size)|(refine Below.trans (b:=_) ?_ hb3;repeat (first|with_reducible exact Below.refl _ _|with_reducible refine Below.drew ?_)));obtain⟨d1,d2,d3,d4,d5⟩:=F.out _ TD.out;clear hb3)|(go_at_call 67;refine(HREC.out _ (by first|exact HB2.out.trans (TD.out.mono HB2.out.size)|(refine Below.trans (b:=w2) HB2.out ?_;repeat (first|with_reducible exact Below.refl _ _|with_reducible refine Below.drew ?_)))).mono ?_;rintro e w4 ⟨rfl,hb4⟩;have TS:=Lib.hid (show Below w2.heap.size w2 w4 by first|exact TD.out.trans (hb4.mono TD.out.size)|(refine Below.trans (b:=_) ?_ hb4;repeat (first|with_reducible exact Below.refl _ _|with_reducible refine Below.drew ?_)));obtain⟨k1,k2,k3,k4,k5⟩:=F.out _ TS.out;clear hb4))
 all_goals go_wp2_with fail
 all_goals go_ret
 all_goals exact⟨aV HO.out,by first|exact HB2.out.trans (TS.out.mono HB2.out.size)|exact HB2.out.trans (TD.out.mono HB2.out.size)⟩
end

theorem jS (sb:Nat) (k:Wf.K) (x:Wf.Sc) (w:World) (h:(∃ k',k=.list k')\/∃ k',k=.opt k'):Calls Tryz.prog 67 #[ptr sb,kV k] w fun e w'=>e=.returned (tx (Wf.stands x 9 k))/\Below w.heap.size w w':=by
 have hs:=fun wz=>sign k wz;rcases h with⟨k',rfl⟩|⟨k',rfl⟩
 ·exact(rE sb _ _ _ w 91 (.inl rfl) hs).mono fun e w' ⟨h1,h2⟩=>⟨by rw[h1];rfl,h2⟩
 ·exact(rE sb _ _ _ w 63 (.inr rfl) hs).mono fun e w' ⟨h1,h2⟩=>⟨by rw[h1];rfl,h2⟩
theorem gN (sb:Nat) (k:Wf.K) (x:Wf.Sc) (w:World) (h:k=.num\/k=.txt\/k=.flag):Calls Tryz.prog 67 #[ptr sb,kV k] w fun e w'=>e=.returned (tx (Wf.stands x 9 k))/\Below w.heap.size w w':=by
 have hs:=fun wz=>sign k wz;rcases h with rfl|rfl|rfl
 ·exact kE sb _ _ _ w hs ⟨#[48]⟩ (.inl ⟨rfl,rfl⟩)
 ·exact kE sb _ _ _ w hs ⟨#[39,39]⟩ (.inr (.inl ⟨rfl,rfl⟩))
 ·exact kE sb _ _ _ w hs ⟨#[110,111]⟩ (.inr (.inr ⟨rfl,rfl⟩))
theorem vS (x:Wf.Sc) (hx:Wf.ScOk x) (lo sb:Nat) (W:World) (H:ScL W lo sb x):∀ (n:Nat) (k:Wf.K) (w:World),Below W.heap.size W w->k.text.length<=12->Wf.aN x k=true->(∀ t,refT x k=some t->Wf.endsIn x n t=true) ->
  Calls Tryz.prog 67 #[ptr sb,kV k] w fun e w'=>e=.returned (tx (Wf.stands x 9 k))/\Below w.heap.size w w':=by
 intro n;induction n with
 | zero =>
  intro k w hW hk hr he;cases k with
  | ref nm =>
   obtain⟨t,ht⟩:=Option.isSome_iff_exists.1 (show(x.find nm).isSome=true by simpa[Wf.aN,Wf.K.base,Wf.K.name] using hr);have:=he t ht;simp[Wf.endsIn] at this
  | num=>exact gN sb _ x w (.inl rfl)
  | txt=>exact gN sb _ x w (.inr (.inl rfl))
  | flag=>exact gN sb _ x w (.inr (.inr rfl))
  | list k=>exact jS sb _ x w (.inl ⟨_,rfl⟩)
  | opt k=>exact jS sb _ x w (.inr ⟨_,rfl⟩)
 | succ n ih =>
  intro k w hW hk hr he;cases k with
  | num=>exact gN sb _ x w (.inl rfl)
  | txt=>exact gN sb _ x w (.inr (.inl rfl))
  | flag=>exact gN sb _ x w (.inr (.inr rfl))
  | list k=>exact jS sb _ x w (.inl ⟨_,rfl⟩)
  | opt k=>exact jS sb _ x w (.inr ⟨_,rfl⟩)
  | ref nm =>
   have hs:=fun wz=>sign (.ref nm) wz;obtain⟨mb,hsz,hc1,hnm⟩:=H.named;obtain⟨t,ht⟩:=Option.isSome_iff_exists.1 (show(x.find nm).isSome=true by simpa[Wf.aN,Wf.K.base,Wf.K.name] using hr);have hnl:nm.length<=12:=(by have:=fJ (.ref nm);simp only[Wf.K.name] at this;omega);have hm:=(Wf.bI ht).1;have hok:=hx.tys t hm;have hend:=he t ht;have hst:=stands_ref ht;rcases hnm ⟨nm.toArray⟩ (by rw[aU];omega) with⟨h0,_⟩|⟨t',b,h1,hT,hl⟩
   ·rw[show(⟨nm.toArray⟩:ByteArray).data.toList=nm from rfl,ht] at h0;cases h0
   rw[show(⟨nm.toArray⟩:ByteArray).data.toList=nm from rfl,ht] at h1;obtain rfl:t=t':=Option.some.inj h1;have HA:At W lo sb ⟨nm.toArray⟩ t mb b:=⟨hsz,hc1,hT,hl⟩;by_cases h82:t.sort=82
   ·rw[hst,if_pos h82]
    exact a5R W lo sb _ _ t mb b HA w hW hs h82
   ·rw[if_neg h82] at hst
    obtain⟨f,fs,hfs⟩:∃ f fs,t.fields=f::fs:=List.exists_cons_of_ne_nil (hok.some h82);have hfd:=hok.fds f (by rw[hfs];exact List.mem_cons_self ..);have htag:f.tag<=999999:=(by have:=hfd.tag2;omega);rw[hfs] at hst;dsimp only at hst;by_cases h69:t.sort=69
    ·rw[hst,if_pos h69]
     exact a6G W lo sb _ _ t mb b HA w hW hs h69 f fs hfs htag ⟨(35::Wf.dec f.tag).toArray⟩ rfl
    ·rw[if_neg h69] at hst
     have h85:t.sort=85:=by
      rcases hok.sort with h|h|h
      ·exact absurd h h82
      ·exact h
      ·exact absurd h h69
     obtain⟨s0,hs0⟩:=hfd.kind h69;have hfl:f.kind.text.length<=12:=fU hs0;have hfr:Wf.aN x f.kind=true:=by
      have:=hx.refs t hm h69 f (by rw[hfs];exact List.mem_cons_self ..);exact this
     have hs2:=qW hx 9 f.kind;rw[hst,<-oC hx f.kind];refine a0S W lo sb _ _ t mb b HA w hW hs h85 f fs hfs htag ⟨(Wf.stands x 9 f.kind).toArray⟩ ⟨(60::(Wf.dec f.tag++61::(Wf.stands x 9 f.kind++[62]))).toArray⟩ (by rw[aU];omega) rfl fun wz hz=>ih f.kind wz (hW.trans (hz.mono hW.size)) hfl hfr fun t' ht'=>?_;have:=ends_step (x:=x) (m:=n) h85 hfs;rw[ht',hend] at this;exact this.symm
theorem stands (x:Wf.Sc) (hx:Wf.ScOk x) (lo sb:Nat) (k:Wf.K) (W w:World) (hW:Below W.heap.size W w) (H:ScL W lo sb x) (hk:k.text.length<=12) (hr:Wf.aN x k=true) :
  Calls Tryz.prog 67 #[ptr sb,kV k] w fun e w'=>e=.returned (tx (Wf.stands x 9 k))/\Below w.heap.size w w' :=
 vS x hx lo sb W H 9 k w hW hk hr fun t ht=>hx.ends t (kU ht)
theorem of_w (sb fb o:Nat) (SG BS NM GV O:ByteArray) (w:World) (k0:w.cell? ⟨fb,o+2,none⟩=some (.string SG)) (k1:w.cell? ⟨fb,o+3,none⟩=some (.string BS)) (k2:w.cell? ⟨fb,o+4,none⟩=some (.string NM)) (k3:w.cell? ⟨fb,o+5,none⟩=some (.string GV))
  (h:(GV.toList.isEmpty=false/\O=GV)\/(GV.toList.isEmpty=true/\∀ wz,Below w.heap.size w wz->Calls Tryz.prog 67 #[ptr sb,.agg #[.string SG,.string BS,.string NM]] wz fun e w'=>e=.returned (.string O)/\Below wz.heap.size wz w')) :
  Calls Tryz.prog 42 #[ptr sb,.pointer (some ⟨fb,o,none⟩)] w fun e w'=>e=.returned (.string O)/\Below w.heap.size w w':=by
 rcases h with⟨h1,rfl⟩|⟨h1,h2⟩
 ·go_enter Tryz.func42,Tryz.ntmps42
  go_wp2_with fail
  go_ret
  exact⟨rfl,Below.refl _ _⟩
 ·have H2:=hid h2
  clear h2;go_enter Tryz.func42,Tryz.ntmps42;go_wp2_with (go_at_call 67;refine(H2.out _ (Below.refl _ _)).mono ?_;rintro e w2 ⟨rfl,hb2⟩;have HB2:=hid hb2;clear hb2)
  go_ret
  exact⟨rfl,HB2.out⟩
theorem of (x:Wf.Sc) (hx:Wf.ScOk x) (lo sb fb o:Nat) (sort:UInt8) (f:Wf.Fd) (W w:World) (hW:Below W.heap.size W w) (H:ScL W lo sb x) (h69:sort≠69) (hf:FdAt W fb o sort f) (hk:f.kind.text.length<=12) (hr:Wf.aN x f.kind=true) :
  Calls Tryz.prog 42 #[ptr sb,.pointer (some ⟨fb,o,none⟩)] w fun e w'=>e=.returned (tx (Wf.aL x f))/\Below w.heap.size w w':=by
 have hf':=hf.2;have e0:fdC sort f=[.int .i64 f.tag,tx f.name,tx f.kind.signs,tx f.kind.base,tx f.kind.name,tx f.given]:=by unfold fdC;rw[if_neg h69]
 rw[e0] at hf';have cc:=fun j u hu=>(hW.cell (p:=⟨fb,o+j,none⟩) hf.1).trans (hf' j u hu);refine of_w sb fb o ⟨f.kind.signs.toArray⟩ ⟨f.kind.base.toArray⟩ ⟨f.kind.name.toArray⟩ ⟨f.given.toArray⟩ ⟨(Wf.aL x f).toArray⟩ w (cc 2 _ rfl) (cc 3 _ rfl) (cc 4 _ rfl) (cc 5 _ rfl) ?_;unfold Wf.aL;by_cases hg:f.given=[]
 ·right
  refine⟨by rw[ByteArray.toList_eq,hg];rfl,fun wz hz=>?_⟩;rw[if_pos hg];exact stands x hx lo sb f.kind W wz (hW.trans (hz.mono hW.size)) H hk hr
 ·left
  refine⟨by rw[ByteArray.toList_eq];cases hh:f.given with|nil=>exact absurd hh hg|cons a r=>rfl,by rw[if_neg hg]⟩
