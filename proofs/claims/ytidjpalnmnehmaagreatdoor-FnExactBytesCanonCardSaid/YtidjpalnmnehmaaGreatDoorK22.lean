/- Packed. -/
import Derived.Test.YtidjpalnmnehmaaGreatDoorK21
set_option maxRecDepth 99999
set_option maxHeartbeats 40000000
set_option linter.all false
namespace Go.Proofs.YtidjpalnmnehmaaGreatDoor
open Go.ChangeShapes Go.WideShapes Go.ChangeAt Go.RowKit Go.Lib
def eA (l nm:List UInt8):Option (Wf.Sc × Wf.Ty):=match Wf.schemaOf l with
 | none=>none
 | some x=>(x.find nm).map fun t=>(x,t)
def bJ (t:Wf.Ty) (g:Int):Option Wf.Fd:=t.fields.find? fun f=>(f.tag:Int)==g
theorem cJ (t:Wf.Ty) (g:Nat):bJ t g=t.field g:=by
 unfold bJ Wf.Ty.field;congr 1
 funext f
 rw[Bool.eq_iff_iff,beq_iff_eq,beq_iff_eq];omega
theorem lS {t:Wf.Ty} {g:Int} {k:Nat} (hk:k<t.fields.length) (h0:∀ j (hj:j<t.fields.length),j<k->((t.fields[j]).tag:Int)≠g) (h1:((t.fields[k]).tag:Int)=g):bJ t g=some t.fields[k]:=by
 unfold bJ;rw[List.find?_eq_some_iff_getElem];refine⟨by simp[h1],k,hk,rfl,fun j hj=>?_⟩;simpa using h0 j (by omega) hj
theorem lB {t:Wf.Ty} {g:Int} (h0:∀ j (hj:j<t.fields.length),((t.fields[j]).tag:Int)≠g):bJ t g=none:=by
 unfold bJ;rw[List.find?_eq_none];intro f hf;obtain⟨j,hj,rfl⟩:=List.mem_iff_getElem.1 hf;simpa using h0 j hj
def fldV (sort:UInt8):Option Wf.Fd->Value
 | some f=>.tuple #[.agg #[.int .i64 f.tag,tx f.name,tx (if sort=69 then [] else f.kind.text),tx f.given],.bool true]
 | none=>.tuple #[.agg #[.int .i64 0,tx [],tx [],tx []],.bool false]
theorem kI (t:Wf.Ty) (ht:t.fields.length<=1000) (g:Int) (q:Int) (N:ByteArray) (fb:Nat) (fa:Option Addr) (fc:Nat) (W w:World) (hW:Below W.heap.size W w) (H:RowK W fb (.slice fa t.fields.length fc) 4 (t.fields.map (fdS t.sort))) :
  Calls Tryz.prog 150 #[.agg #[.int .u8 q,.string N,.slice fa t.fields.length fc],.int .i64 g] w fun e w'=>e=.returned (fldV t.sort (bJ t g))/\Below w.heap.size w w':=by
 have HX:=hid H;obtain⟨n,hn⟩:∃ n,t.fields.length=n:=⟨_,rfl⟩;have HN:=hid hn;rw[hn] at HX ht ⊢;have HW:=hid hW;clear H hn hW;go_enter Tryz.func150,Tryz.ntmps150;go_wp2;go_loop [6] (fun i=>∃ k:Nat,k<=n/\i=.int .i64 k/\Hid (∀ j (hj:j<t.fields.length),j<k->((t.fields[j]).tag:Int)≠g)) (fun i=>n-(RowKit.intOf i).toNat)
 case atStart=>exact⟨0,Nat.zero_le _,rfl,hid fun j hj h=>by omega⟩
 case round =>
  obtain⟨k,hk,rfl,hno⟩:=hrel;by_cases hlt:k<n
  ·have hkx:k<t.fields.length:=by rw[HN.out];exact hlt
   obtain⟨o,rfl,hbW,h1,h2,hcell⟩:=RowK.get HX.out (i:=k) (by rw[zaG];exact hkx);have hbw:fb<w.heap.size:=zaC hbW HW.out.size;obtain⟨F,hF⟩:∃ F,t.fields[k]=F:=⟨_,rfl⟩;have e0:(t.fields.map (fdS t.sort))[k]'(by rw[zaG];exact hkx)=fdS t.sort F:=(by rw[zaR,hF]);have g0:=(HW.out.cell (p:=⟨fb,o+k*4+0,none⟩) hbW).trans (hcell 0 (.int .i64 F.tag) (by decide) (by rw[e0];rfl));have g1:=(HW.out.cell (p:=⟨fb,o+k*4+1,none⟩) hbW).trans (hcell 1 (tx F.name) (by decide) (by rw[e0];rfl));have g2:=(HW.out.cell (p:=⟨fb,o+k*4+2,none⟩) hbW).trans (hcell 2 (tx (if t.sort=69 then [] else F.kind.text)) (by decide) (by rw[e0];rfl));have g3:=(HW.out.cell (p:=⟨fb,o+k*4+3,none⟩) hbW).trans (hcell 3 (tx F.given) (by decide) (by rw[e0];rfl));rw[Nat.add_zero] at g0;have HFF:=hid hF;clear hcell e0;by_cases hg:(F.tag:Int)=g
   ·have HR:=hid (show bJ t g=some F by rw[<-hF];exact lS hkx hno.out (by rw[hF];exact hg))
    have tg:((F.tag:Int)==g)=true:=beq_iff_eq.2 hg;obtain⟨K,hK⟩:∃ K,(if t.sort=69 then [] else F.kind.text)=K:=⟨_,rfl⟩;rw[hK] at g2;have HK:=hid hK;clear hF hg hK;go_wp2;exact zbD (v:=.tuple #[.agg #[.int .i64 F.tag,tx F.name,tx K,tx F.given],.bool true]) (by simp[results,Tryz.results150,go_sem, *]) rfl ⟨by rw[HR.out,fldV,HK.out],by repeat (first|with_reducible exact zaB|with_reducible refine zbE ?_|with_reducible refine zbF ?_ (by simp) _|with_reducible refine zbG ?_ (by first|exact zaA|simp) _)⟩
   ·have tg:((F.tag:Int)==g)=false:=beq_eq_false_iff_ne.2 hg
    have HG:=hid hg;clear hF hg;go_wp2;go_round
    case rel=>exact⟨k+1,by omega,by go_num,hid fun j hj hjk=>by
     by_cases hj2:j=k
     ·subst hj2;rw[HFF.out];exact HG.out
     ·exact hno.out j hj (by omega)⟩
    case measure=>simp[RowKit.intOf];omega
  ·have hkn:k=n:=by omega
   subst hkn;have HR:=hid (show bJ t g=none from lB fun j hj=>hno.out j hj (by rw[<-HN.out];exact hj));go_wp2;exact zbD (v:=.tuple #[.agg #[.int .i64 0,tx [],tx [],tx []],.bool false]) (by simp[results,Tryz.results150,go_sem, *]) rfl ⟨by rw[HR.out,fldV],by repeat (first|with_reducible exact zaB|with_reducible refine zbE ?_|with_reducible refine zbF ?_ (by simp) _|with_reducible refine zbG ?_ (by first|exact zaA|simp) _)⟩

theorem yK {x:Wf.Sc} (hx:Wf.ScOk x) {t:Wf.Ty} (ht:t∈x):Wf.endsIn x 8 t=true:=Wf.gS _ _ (Wf.oA ht (hx.ends t ht)) _ hx.len
theorem rG {x:Wf.Sc} (hx:Wf.ScOk x) (k:Wf.K):Wf.stands x 9 k=Wf.stands x 8 k:=by
 cases k with
 | ref nm =>
  cases hf:x.find nm with
  | none=>simp[Wf.stands,hf]
  | some t=>exact Wf.yM hx.tys 8 9 t nm hf (yK hx (Wf.cE hf).1) (by decide)
 | _=>rfl
theorem rN {x:Wf.Sc} (hx:Wf.ScOk x):∀ (n:Nat) (k:Wf.K),(Wf.stands x n k).length<=7+9*n:=by
 intro n;induction n with
 | zero=>intro k;cases k <;> simp[Wf.stands]
 | succ n ih =>
  intro k;cases k with
  | ref nm =>
   simp only[Wf.stands];cases hf:x.find nm with
   | none=>simp
   | some t =>
    dsimp only;by_cases h82:t.sort=82
    ·rw[if_pos h82];simp;omega
    ·rw[if_neg h82]
     cases hfs:t.fields with
     | nil=>simp
     | cons f fs =>
      have htag:f.tag<=999999:=(by have:=((hx.tys t (Wf.cE hf).1).fds f (by rw[hfs];exact List.mem_cons_self ..)).tag2;omega);have hd:=Wf.cA htag;have hi:=ih f.kind;by_cases h69:t.sort=69
      ·simp only[h69,if_true,zaF];omega
      ·simp only[h69,if_false,zaF,zaD,zaM];omega
  | num=>simp[Wf.stands];omega
  | txt=>simp[Wf.stands];omega
  | flag=>simp[Wf.stands];omega
  | list k=>simp[Wf.stands];omega
  | opt k=>simp[Wf.stands];omega
theorem stands_ref {x:Wf.Sc} {nm:List UInt8} {t:Wf.Ty} (hf:x.find nm=some t):Wf.stands x 9 (.ref nm)=if t.sort=82 then [123,125] else match t.fields with | []=>[]|f::_=>if t.sort=69 then 35::Wf.dec f.tag else 60::(Wf.dec f.tag++61::(Wf.stands x 8 f.kind++[62])):=by
 simp only[Wf.stands,hf];cases t.fields <;> rfl
theorem uN (k:Wf.K) (h:k=.num\/k=.txt\/k=.flag) (x:Wf.Sc) (w:World):Calls Tryz.prog 171 #[tx k.text] w fun e w'=>e=.returned (tx (Wf.stands x 9 k))/\w=w':=by
 rcases h with rfl|rfl|rfl;all_goals
  simp only[Wf.K.text,Wf.stands,tx];go_enter Tryz.func171,Tryz.ntmps171;go_wp2;go_ret
  exact⟨rfl,rfl⟩
theorem get0 {s:ByteArray} {c:UInt8} {r:List UInt8} (h:s.data.toList=c::r):0<s.size/\∀ h,(s[0]'h).toNat=c.toNat:=by
 have hl:=aE s;rw[h,zaF] at hl;have h0:0<s.size:=by omega
 refine⟨h0,?_⟩;obtain⟨c',hc',e0⟩:=byte_at s 0 h0;rw[h] at hc';have:c'=c:=by simpa using hc'.symm
 rw[this] at e0;exact e0
theorem iL (v:Value) (c:UInt8) (hc:c=91\/c=63) (r:List UInt8) (w:World):Calls Tryz.prog 158 #[v,tx (c::r)] w fun e w'=>e=.returned (tx (if c=91 then [91,93] else [45]))/\Below w.heap.size w w':=by
 obtain⟨S,hS⟩:∃ S:ByteArray,(⟨(c::r).toArray⟩:ByteArray)=S:=⟨_,rfl⟩;obtain⟨h0,e0⟩:=get0 (s:=S) (c:=c) (r:=r) (by rw[<-hS]);rw[tx,hS];clear hS;rcases hc with rfl|rfl;all_goals
  have e1:=e0 h0;clear e0;go_enter Tryz.func158,Tryz.ntmps158;go_wp2_with fail
  go_ret
  exact⟨rfl,zaB⟩
theorem fW (x:Wf.Sc) (lo b:Nat) (v:Value) (k:Wf.K) (hk:k=.num\/k=.txt\/k=.flag) (W w:World) (hW:Below W.heap.size W w) (hx8:x.length<=1000) (H:ScSp W lo b v x):Calls Tryz.prog 158 #[v,tx k.text] w fun e w'=>e=.returned (tx (Wf.stands x 9 k))/\Below w.heap.size w w':=by
 have HR:=hid (show Calls Tryz.prog 122 #[v,tx k.text] w fun e w'=>e=.returned (.tuple #[.agg #[.int .u8 0,tx [],.slice none 0 0],.bool false])/\Below w.heap.size w w' by
  refine(iH x lo b v k (by rcases hk with rfl|rfl|rfl <;> decide) W w hW hx8 H).mono fun e w' ⟨h1,h2⟩=>⟨?_,h2⟩;have:refT x k=none:=by rcases hk with rfl|rfl|rfl <;> rfl
  unfold eC at h1;rw[this] at h1;exact h1)
 have HP:=hid fun wz=>uN k hk x wz;obtain⟨O,hO⟩:∃ O:ByteArray,(⟨(Wf.stands x 9 k).toArray⟩:ByteArray)=O:=⟨_,rfl⟩;simp only[tx,hO] at HP;rw[tx,tx,hO];obtain⟨S,hS⟩:∃ S:ByteArray,(⟨k.text.toArray⟩:ByteArray)=S:=⟨_,rfl⟩;simp only[tx,hS] at HP HR;rw[hS];have hx:(0<S.size/\∀ h,(S[0]'h).toNat=110)\/(0<S.size/\∀ h,(S[0]'h).toNat=116)\/(0<S.size/\∀ h,(S[0]'h).toNat=102):=by
  rcases hk with rfl|rfl|rfl
  ·exact .inl (get0 (c:=110) (r:=[]) (by rw[<-hS];rfl))
  ·exact .inr (.inl (get0 (c:=116) (r:=[]) (by rw[<-hS];rfl)))
  ·exact .inr (.inr (get0 (c:=102) (r:=[]) (by rw[<-hS];rfl)))
 clear hS hO hk H hW;rcases hx with⟨h0,e0⟩|⟨h0,e0⟩|⟨h0,e0⟩;all_goals
  have e1:=e0 h0;clear e0;go_enter Tryz.func158,Tryz.ntmps158;go_wp2_with (first|(go_at_call 171;refine(HP.out _).mono ?_;rintro e w3 ⟨rfl,rfl⟩)|(go_at_call 122;refine HR.out.mono ?_;rintro e w2 ⟨rfl,hb2⟩;have HB2:=hid hb2;clear hb2))
  go_ret
  exact⟨rfl,by have B:=HB2.out;repeat (first|with_reducible exact B|with_reducible refine zbG ?_ (by first|exact B.size|(simp;omega)) _)⟩
theorem rK {W w w2:World} {fb n:Nat} {fa:Option Addr} {fc:Nat} {cells:List (List Value)} (hrow:RowK W fb (.slice fa n fc) 4 cells) (hc0:0<cells.length) (hW:Below W.heap.size W w) (hb2:Below w.heap.size w w2) :
  ∃ go,fa=some ⟨fb,go,none⟩/\n<=fc/\fc<=maxLen/\fb<w2.heap.size/\∀ j u,j<4->(cells[0]'hc0)[j]? = some u->w2.cell? ⟨fb,go+j,none⟩=some u:=by
 obtain⟨go,h1,hgw,hgm,hgc,hcell⟩:=RowK.get hrow (i:=0) hc0;have B:=hW.trans (hb2.mono hW.size);refine⟨go,h1,hgm,hgc,zaC hgw B.size,fun j u hj hu=>?_⟩;have:=(B.cell (p:=⟨fb,go+0*4+j,none⟩) hgw).trans (hcell j u hj hu);simpa using this
theorem a1D (v:Value) (KT:ByteArray) (h0:0<KT.size) (e0:∀ h,(KT[0]'h).toNat=64) (N:ByteArray) (n:Nat) (w:World)
  (href:Calls Tryz.prog 122 #[v,.string KT] w fun e w'=>(∃ fa fc,e=.returned (.tuple #[.agg #[.int .u8 82,.string N,.slice fa n fc],.bool true]))/\Below w.heap.size w w') :
  Calls Tryz.prog 158 #[v,.string KT] w fun e w'=>e=.returned (.string ⟨#[123,125]⟩)/\Below w.heap.size w w':=by
 have HR:=hid href;have e1:=e0 h0;clear e0 href;go_enter Tryz.func158,Tryz.ntmps158;go_wp2_with (go_at_call 122;refine HR.out.mono ?_;rintro e w2 ⟨⟨fa,fc,rfl⟩,hb2⟩;have HB2:=hid hb2;clear hb2)
 go_ret
 exact⟨rfl,by have B:=HB2.out;repeat (first|with_reducible exact B|with_reducible refine zbG ?_ (by first|exact B.size|(simp;omega)) _)⟩
theorem zL (v:Value) (KT:ByteArray) (h0:0<KT.size) (e0:∀ h,(KT[0]'h).toNat=64) (N:ByteArray) (n:Nat) (W w:World) (hW:Below W.heap.size W w) (G:Nat) (hG:G<=999999) (O:ByteArray) (cells:List (List Value))
  (href:Calls Tryz.prog 122 #[v,.string KT] w fun e w'=>(∃ fb fa fc,e=.returned (.tuple #[.agg #[.int .u8 69,.string N,.slice fa n fc],.bool true])/\RowK W fb (.slice fa n fc) 4 cells)/\Below w.heap.size w w')
  (hn:0<n) (hc0:0<cells.length) (hc:cells[0][0]? = some (.int .i64 G)) (ho:O.data.toList=35::Wf.dec G) :
  Calls Tryz.prog 158 #[v,.string KT] w fun e w'=>e=.returned (.string O)/\Below w.heap.size w w':=by
 have HR:=hid href;have e1:=e0 h0;have HF:=hid fun fb fa fc w2 (hrow:RowK W fb (.slice fa n fc) 4 cells) (hb2:Below w.heap.size w w2)=>rK hrow hc0 hW hb2;have HC:=hid hc;have HD:=hid fun wz=>eF G G wz (zaA) (by omega);have ld:=Wf.cA hG;obtain⟨D,hD⟩:∃ D:ByteArray,(⟨(Wf.dec G).toArray⟩:ByteArray)=D:=⟨_,rfl⟩;simp only[tx,hD] at HD;have hds:D.size<=6:=by rw[<-hD,<-aE];simpa using ld
 have HO:=hid (show(⟨#[35]⟩:ByteArray)++D=O by rw[aQ,ho,<-hD];simp);clear e0 href ho hD ld hc;go_enter Tryz.func158,Tryz.ntmps158;go_wp2_with (first|(go_at_call 89;refine(HD.out _).mono ?_;rintro e w3 ⟨rfl,hb3⟩;have HB3:=hid hb3;clear hb3)|(go_at_call 122;refine HR.out.mono ?_;rintro e w2 ⟨⟨fb,fa,fc,rfl,hrow⟩,hb2⟩;obtain⟨go,rfl,hm,hmx,hz2,hcell⟩:=HF.out _ _ _ _ hrow hb2;have g0:=hcell 0 _ (by decide) HC.out;rw[Nat.add_zero] at g0;have HB2:=hid hb2;clear hb2 hrow hcell))
 go_ret
 exact⟨aX HO.out,by have B:=aC (HB2.out.alloc HB2.out.size _) HB3.out;repeat (first|with_reducible exact B|with_reducible refine zbG ?_ (by first|exact B.size|(simp;omega)) _)⟩
theorem a1H (v:Value) (KT K2:ByteArray) (h0:0<KT.size) (e0:∀ h,(KT[0]'h).toNat=64) (N:ByteArray) (n:Nat) (W w:World) (hW:Below W.heap.size W w) (G:Nat) (hG:G<=999999) (S2 O:ByteArray) (hS2:S2.size<=200) (cells:List (List Value))
  (href:Calls Tryz.prog 122 #[v,.string KT] w fun e w'=>(∃ fb fa fc,e=.returned (.tuple #[.agg #[.int .u8 85,.string N,.slice fa n fc],.bool true])/\RowK W fb (.slice fa n fc) 4 cells)/\Below w.heap.size w w')
  (hn:0<n) (hc0:0<cells.length) (hc:cells[0][0]? = some (.int .i64 G)) (hc2:cells[0][2]? = some (.string K2)) (ho:O.data.toList=60::(Wf.dec G++61::(S2.data.toList++[62])))
  (hrec:∀ wz,Below w.heap.size w wz->Calls Tryz.prog 158 #[v,.string K2] wz fun e w'=>e=.returned (.string S2)/\Below wz.heap.size wz w') :
  Calls Tryz.prog 158 #[v,.string KT] w fun e w'=>e=.returned (.string O)/\Below w.heap.size w w':=by
 have HR:=hid href;have e1:=e0 h0;clear e0 href;have HF:=hid fun fb fa fc w2 (hrow:RowK W fb (.slice fa n fc) 4 cells) (hb2:Below w.heap.size w w2)=>rK hrow hc0 hW hb2;have HC:=hid hc;have HC2:=hid hc2;have HD:=hid fun wz=>eF G G wz (zaA) (by omega);have ld:=Wf.cA hG;obtain⟨D,hD⟩:∃ D:ByteArray,(⟨(Wf.dec G).toArray⟩:ByteArray)=D:=⟨_,rfl⟩;simp only[tx,hD] at HD;have hds:D.size<=6:=by rw[<-hD,<-aE];simpa using ld
 have HO:=hid (show(⟨#[60]⟩:ByteArray)++D++⟨#[61]⟩++S2++⟨#[62]⟩=O by rw[aQ,ho,<-hD];simp);have HREC:=hid hrec;have a1:=fun wz=>zbH (P:=Tryz.prog) (w:=wz) ⟨#[60]⟩ D (by show 1+D.size<=_;omega);have a2:=fun wz=>zbH (P:=Tryz.prog) (w:=wz) (⟨#[60]⟩++D) ⟨#[61]⟩ (by rw[zaO];show 1+D.size+1<=_;omega);have a3:=fun wz=>zbH (P:=Tryz.prog) (w:=wz) (⟨#[60]⟩++D++⟨#[61]⟩) S2 (by rw[zaO,zaO];show 1+D.size+1+S2.size<=_;omega);have a4:=fun wz=>zbH (P:=Tryz.prog) (w:=wz) (⟨#[60]⟩++D++⟨#[61]⟩++S2) ⟨#[62]⟩ (by rw[zaO,zaO,zaO];show 1+D.size+1+S2.size+1<=_;omega);clear ho hD ld hc hc2 hrec;go_enter Tryz.func158,Tryz.ntmps158;go_wp2_with (go_at_call 122;refine HR.out.mono ?_;rintro e w2 ⟨⟨fb,fa,fc,rfl,hrow⟩,hb2⟩;obtain⟨go,rfl,hm,hmx,hz2,hcell⟩:=HF.out _ _ _ _ hrow hb2;have g0:=hcell 0 _ (by decide) HC.out;rw[Nat.add_zero] at g0;have g2:=hcell 2 _ (by decide) HC2.out;have HB2:=hid hb2;have F:=Lib.hid fun(wz:World) (hz:Below (w2.heap.size+1) (w2.alloc (.cells #[.int .u8 85,.string N,.slice (some ⟨fb,go,none⟩) n fc] 143)) wz)=>(show wz.cell? ⟨w2.heap.size,2,none⟩=some (.slice (some ⟨fb,go,none⟩) n fc)/\wz.cell? ⟨fb,go,none⟩=some (.int .i64 G)/\wz.cell? ⟨fb,go+2,none⟩=some (.string K2) from⟨(hz.cell (p:=⟨w2.heap.size,2,none⟩) (by simp)).trans (by simp),(hz.cell (p:=⟨fb,go,none⟩) (by simp;omega)).trans ((zbB w2 _ _ hz2).trans g0),(hz.cell (p:=⟨fb,go+2,none⟩) (by simp;omega)).trans ((zbB w2 _ _ hz2).trans g2)⟩);clear hb2 hrow hcell)
 go_region_held3 (fun w'=>w'.cell? ⟨w2.heap.size,2,none⟩=some (.slice (some ⟨fb,go,none⟩) n fc)/\w'.cell? ⟨fb,go,none⟩=some (.int .i64 G)/\w'.cell? ⟨fb,go+2,none⟩=some (.string K2)) (first|exact⟨k1,k2,k3⟩|exact⟨d1,d2,d3⟩|go_keep) (first|(go_at_call 89;refine(HD.out _).mono ?_;rintro e w3 ⟨rfl,hb3⟩;have TD:=Lib.hid (show Below (w2.heap.size+1) (w2.alloc (.cells #[.int .u8 85,.string N,.slice (some ⟨fb,go,none⟩) n fc] 143)) w3 by first|exact TS.out.trans (hb3.mono (by have:=TS.out.size;simp at this;omega))|exact Below.trans ((zaB).drew) (hb3.mono (by show _<=(World.alloc _ _).heap.size;simp)));obtain⟨d1,d2,d3⟩:=F.out _ TD.out;clear hb3)|(go_at_call 158;refine(HREC.out _ (by first|exact(HB2.out.alloc HB2.out.size _).trans (TD.out.mono (by have:=HB2.out.size;omega))|exact(HB2.out.alloc HB2.out.size _).drew)).mono ?_;rintro e w4 ⟨rfl,hb4⟩;have TS:=Lib.hid (show Below (w2.heap.size+1) (w2.alloc (.cells #[.int .u8 85,.string N,.slice (some ⟨fb,go,none⟩) n fc] 143)) w4 by first|exact TD.out.trans (hb4.mono (by have:=TD.out.size;simp at this;omega))|exact Below.trans ((zaB).drew) (hb4.mono (by show _<=(World.alloc _ _).heap.size;simp)));obtain⟨k1,k2,k3⟩:=F.out _ TS.out;clear hb4))
 all_goals go_wp2
 all_goals go_ret
 all_goals exact⟨aX HO.out,by first|exact(HB2.out.alloc HB2.out.size _).trans (TS.out.mono (by have:=HB2.out.size;omega))|exact(HB2.out.alloc HB2.out.size _).trans (TD.out.mono (by have:=HB2.out.size;omega))⟩
theorem a1K (x:Wf.Sc) (hx:Wf.ScOk x) (lo b:Nat) (v:Value) (W:World) (H:ScSp W lo b v x):∀ (n:Nat) (k:Wf.K) (w:World),Below W.heap.size W w->k.text.length<=12->Wf.aL x k=true->(∀ t,refT x k=some t->Wf.endsIn x n t=true) ->
  Calls Tryz.prog 158 #[v,tx k.text] w fun e w'=>e=.returned (tx (Wf.stands x 9 k))/\Below w.heap.size w w':=by
 have hx8:=hx.len;intro n;induction n with
 | zero =>
  intro k w hW hk hr he;cases k with
  | ref nm =>
   obtain⟨t,ht⟩:=Option.isSome_iff_exists.1 (show(x.find nm).isSome=true by simpa[Wf.aL,Wf.K.base,Wf.K.name] using hr);have:=he t ht;simp[Wf.endsIn] at this
  | num=>exact fW x lo b v _ (.inl rfl) W w hW (by omega) H
  | txt=>exact fW x lo b v _ (.inr (.inl rfl)) W w hW (by omega) H
  | flag=>exact fW x lo b v _ (.inr (.inr rfl)) W w hW (by omega) H
  | list k=>exact iL v 91 (.inl rfl) k.text w
  | opt k=>exact iL v 63 (.inr rfl) k.text w
 | succ n ih =>
  intro k w hW hk hr he;cases k with
  | num=>exact fW x lo b v _ (.inl rfl) W w hW (by omega) H
  | txt=>exact fW x lo b v _ (.inr (.inl rfl)) W w hW (by omega) H
  | flag=>exact fW x lo b v _ (.inr (.inr rfl)) W w hW (by omega) H
  | list k=>exact iL v 91 (.inl rfl) k.text w
  | opt k=>exact iL v 63 (.inr rfl) k.text w
  | ref nm =>
   obtain⟨t,ht⟩:=Option.isSome_iff_exists.1 (show(x.find nm).isSome=true by simpa[Wf.aL,Wf.K.base,Wf.K.name] using hr);have hm:=(Wf.cE ht).1;have hok:=hx.tys t hm;have hend:=he t ht;have hs:=stands_ref ht;obtain⟨g0,g1⟩:=get0 (s:=⟨(Wf.K.ref nm).text.toArray⟩) (c:=64) (r:=nm++[59]) rfl;have href:=iH x lo b v (.ref nm) (by omega) W w hW (by omega) H;have href2:Calls Tryz.prog 122 #[v,tx (Wf.K.ref nm).text] w fun e w'=>(∃ fb a c,e=.returned (.tuple #[.agg #[.int .u8 t.sort.toNat,tx t.name,.slice a t.fields.length c],.bool true])/\lo<=fb/\RowK W fb (.slice a t.fields.length c) 4 (t.fields.map (fdS t.sort)))/\Below w.heap.size w w':=by
    refine href.mono fun e w' ⟨h1,h2⟩=>⟨?_,h2⟩;unfold eC at h1;rw[show refT x (.ref nm)=some t from ht] at h1;exact h1
   by_cases h82:t.sort=82
   ·rw[hs,if_pos h82]
    refine a1D v ⟨(Wf.K.ref nm).text.toArray⟩ g0 g1 ⟨t.name.toArray⟩ t.fields.length w (href2.mono fun e w' ⟨⟨fb,a,c,h1,_,_⟩,h2⟩=>⟨⟨a,c,?_⟩,h2⟩);rw[h1,h82];rfl
   ·rw[if_neg h82] at hs
    obtain⟨f,fs,hfs⟩:∃ f fs,t.fields=f::fs:=List.exists_cons_of_ne_nil (hok.some h82);have hfd:=hok.fds f (by rw[hfs];exact List.mem_cons_self ..);have htag:f.tag<=999999:=(by have:=hfd.tag2;omega);rw[hfs] at hs;dsimp only at hs;have hlen:0<(t.fields.map (fdS t.sort)).length:=(by rw[hfs];simp);have e0:(t.fields.map (fdS t.sort))[0]'hlen=fdS t.sort f:=(by simp[hfs]);by_cases h69:t.sort=69
    ·rw[if_pos h69] at hs
     rw[hs];refine zL v ⟨(Wf.K.ref nm).text.toArray⟩ g0 g1 ⟨t.name.toArray⟩ t.fields.length W w hW f.tag htag ⟨(35::Wf.dec f.tag).toArray⟩ _ (href2.mono fun e w' ⟨⟨fb,a,c,h1,_,h3⟩,h2⟩=>⟨⟨fb,a,c,?_,h3⟩,h2⟩) (by rw[hfs];simp) hlen (by rw[e0];rfl) rfl;rw[h1,h69];rfl
    ·rw[if_neg h69] at hs
     have h85:t.sort=85:=by
      rcases hok.sort with h|h|h
      ·exact absurd h h82
      ·exact h
      ·exact absurd h h69
     have hk2:=eV hfd;have hr2:=hx.refs t hm h69 f (by rw[hfs];exact List.mem_cons_self ..);have hL:=rN hx 9 f.kind;rw[<-rG hx] at hs;rw[hs];refine a1H v ⟨(Wf.K.ref nm).text.toArray⟩ ⟨f.kind.text.toArray⟩ g0 g1 ⟨t.name.toArray⟩ t.fields.length W w hW f.tag htag ⟨(Wf.stands x 9 f.kind).toArray⟩ _ (by rw[<-aE];simpa using zaI hL (by decide)) _ (href2.mono fun e w' ⟨⟨fb,a,c,h1,_,h3⟩,h2⟩=>⟨⟨fb,a,c,?_,h3⟩,h2⟩) (by rw[hfs];simp) hlen (by rw[e0];rfl) (by rw[e0,fdS,if_neg h69];rfl) rfl (fun wz hz=>ih f.kind wz (hW.trans (hz.mono hW.size)) hk2 hr2 fun u hu=>?_)
     ·rw[h1,h85];rfl
     ·have:=ends_step (x:=x) (m:=n) h85 hfs
      rw[hend,hu] at this;exact this.symm
theorem vH (x:Wf.Sc) (hx:Wf.ScOk x) (lo b:Nat) (v:Value) (k:Wf.K) (W w:World) (hW:Below W.heap.size W w) (H:ScSp W lo b v x) (hk:k.text.length<=12) (hr:Wf.aL x k=true) :
  Calls Tryz.prog 158 #[v,tx k.text] w fun e w'=>e=.returned (tx (Wf.stands x 9 k))/\Below w.heap.size w w' :=
 a1K x hx lo b v W H 9 k w hW hk hr fun t ht=>hx.ends t (kX ht)

def bX:Wf.K->Nat
 | .list _=>91
 | .opt _=>63
 | _=>0
theorem iR (SG BS NM:ByteArray) (q:Nat) (h:(SG.toList.isEmpty=true/\q=0)\/(SG.toList.isEmpty=false/\0<SG.size/\∀ h,(SG[0]'h).toNat=q)) (w:World):Calls Tryz.prog 95 #[.agg #[.string SG,.string BS,.string NM]] w fun e w'=>e=.returned (.int .u8 q)/\Below w.heap.size w w':=by
 rcases h with⟨h1,rfl⟩|⟨h1,h0,h2⟩
 ·go_enter Tryz.func95,Tryz.ntmps95
  go_wp2_with fail
  go_ret
  exact⟨rfl,(zaB).alloc (zaA) _⟩
 ·have h3:=h2 h0
  clear h2;go_enter Tryz.func95,Tryz.ntmps95;go_wp2_with fail
  go_ret
  exact⟨by simp[h3],(zaB).alloc (zaA) _⟩
theorem sign (k:Wf.K) (w:World):Calls Tryz.prog 95 #[kV k] w fun e w'=>e=.returned (.int .u8 (bX k))/\Below w.heap.size w w':=by
 refine iR _ _ _ _ ?_ w;cases k with
 | list k=>exact .inr ⟨by rw[zaZ];rfl,(get0 (s:=⟨(Wf.K.list k).signs.toArray⟩) (c:=91) (r:=k.signs) rfl)⟩
 | opt k=>exact .inr ⟨by rw[zaZ];rfl,(get0 (s:=⟨(Wf.K.opt k).signs.toArray⟩) (c:=63) (r:=k.signs) rfl)⟩
 | _=>exact .inl ⟨by rw[zaZ];rfl,rfl⟩

def FdAt (w:World) (fb o:Nat) (sort:UInt8) (f:Wf.Fd):Prop:=fb<w.heap.size/\∀ j u,(fdC sort f)[j]? = some u->w.cell? ⟨fb,o+j,none⟩=some u
theorem FdAt.below {w w':World} {fb o:Nat} {sort:UInt8} {f:Wf.Fd} (h:FdAt w fb o sort f) (hb:Below w.heap.size w w'):FdAt w' fb o sort f:=⟨zaC h.1 hb.size,fun j u hu=>(hb.cell (p:=⟨fb,o+j,none⟩) h.1).trans (h.2 j u hu)⟩
theorem TyL.row {w:World} {lo b:Nat} {t:Wf.Ty} (h:TyL w lo b t):∃ fb a c,b<w.heap.size/\w.cell? ⟨b,2,none⟩=some (.slice a t.fields.length c)/\t.fields.length<=c/\c<=maxLen/\∀ i (hi:i<t.fields.length),∃ o,a=some ⟨fb,o,none⟩/\FdAt w fb (o+i*6) t.sort t.fields[i]:=by
 obtain⟨fb,a,c,line,_,_,hb,_,_,c2,_,hr⟩:=h;have hl:t.fields.length<=c/\c<=maxLen:=by
  obtain⟨a',cap',e1,e2,e3,_⟩:=hr;simp only[Value.slice.injEq] at e1;rw[zaG] at e2;omega
 refine⟨fb,a,c,hb,c2,hl.1,hl.2,fun i hi=>?_⟩;obtain⟨o,ha,hfb,_,_,hcell⟩:=hr.get (i:=i) (by rw[zaG];exact hi);have e0:(t.fields.map (fdC t.sort))[i]'(by rw[zaG];exact hi)=fdC t.sort t.fields[i]:=by rw[zaR]
 rw[e0] at hcell;refine⟨o,ha,hfb,fun j u hu=>hcell j u ?_ hu⟩;have:=(List.getElem?_eq_some_iff.1 hu).1;rw[oK] at this;exact this
def aS (W:World) (t:Wf.Ty) (g:Int) (e:Ending):Prop:=match bJ t g with
 | some f=>∃ fb o,e=.returned (.pointer (some ⟨fb,o,none⟩))/\FdAt W fb o t.sort f
 | none=>e=.returned (.pointer none)
theorem field (t:Wf.Ty) (ht:t.fields.length<=1000) (g:Int) (lo tb:Nat) (W w:World) (hW:Below W.heap.size W w) (hT:TyL W lo tb t):Calls Tryz.prog 40 #[ptr tb,.int .i64 g] w fun e w'=>aS W t g e/\w=w':=by
 obtain⟨fb,a,c,hb,c2,hnc,hcm,hrow⟩:=hT.row;have HROW:=hid hrow;obtain⟨n,hn⟩:∃ n,t.fields.length=n:=⟨_,rfl⟩;have HN:=hid hn;rw[hn] at ht c2 hnc;have y2:=(hW.cell (p:=⟨tb,2,none⟩) hb).trans c2;have HW:=hid hW;clear hrow hn c2 hT;go_enter Tryz.func40,Tryz.ntmps40;go_wp2_with fail
 go_loop [11] (fun v=>∃ k:Nat,k<=n/\v=.int .i64 k/\Hid (∀ j (hj:j<t.fields.length),j<k->((t.fields[j]).tag:Int)≠g)) (fun v=>n-(RowKit.intOf v).toNat)
 case atStart=>exact⟨0,Nat.zero_le _,rfl,hid fun j hj h=>by omega⟩
 case round =>
  obtain⟨k,hk,rfl,hno⟩:=hrel;by_cases hlt:k<n
  ·have hkx:k<t.fields.length:=by rw[HN.out];exact hlt
   obtain⟨o,rfl,hfd⟩:=HROW.out k hkx;have HFD:=hid hfd;have e0:(fdC t.sort t.fields[k])[0]? = some (.int .i64 (t.fields[k]).tag):=by
    obtain⟨_,_,_,_,h⟩:=eD t.sort t.fields[k];rw[h];rfl
   have z0:w.cell? ⟨fb,o+k*6,none⟩=some (.int .i64 (t.fields[k]).tag):=(HW.out.cell (p:=⟨fb,o+k*6,none⟩) hfd.1).trans (hfd.2 0 _ e0);obtain⟨G,hG⟩:∃ G,(t.fields[k]).tag=G:=⟨_,rfl⟩;rw[hG] at z0;have HG:=hid hG;clear hfd e0 hG;cases hq:((G:Int)==g) with
   | true =>
    have HF:=hid (show bJ t g=some t.fields[k] from lS hkx hno.out (by rw[HG.out];simpa using hq));have hge:(G:Int)=g:=(by simpa using hq);subst hge;clear hq;go_wp2_with fail
    go_ret
    exact⟨by unfold aS;rw[HF.out];exact⟨fb,o+k*6,rfl,HFD.out⟩,rfl⟩
   | false =>
    have hne:Hid ((G:Int)≠g):=hid (by simpa using hq);go_wp2_with fail
    go_round
    case rel=>exact⟨k+1,by omega,by go_num,hid fun j hj hjk=>by
     by_cases hj2:j=k
     ·subst hj2;rw[HG.out];exact hne.out
     ·exact hno.out j hj (by omega)⟩
    case measure=>simp[RowKit.intOf];omega
  ·have hkn:k=n:=by omega
   subst hkn;have HF:=hid (show bJ t g=none from lB fun j hj=>hno.out j hj (by rw[<-HN.out];exact hj));go_wp2_with fail
   go_ret
   exact⟨by unfold aS;rw[HF.out];rfl,rfl⟩

section
variable (sb:Nat) (SG BS NM:ByteArray) (w:World)
theorem qD (q:Nat) (hq:q=91\/q=63) (hs:∀ wz,Calls Tryz.prog 95 #[.agg #[.string SG,.string BS,.string NM]] wz fun e w'=>e=.returned (.int .u8 q)/\Below wz.heap.size wz w'):Calls Tryz.prog 67 #[ptr sb,.agg #[.string SG,.string BS,.string NM]] w fun e w'=>e=.returned (if q=91 then tx [91,93] else tx [45])/\Below w.heap.size w w':=by
 have HS:=hid hs;clear hs;rcases hq with rfl|rfl;all_goals
  go_enter Tryz.func67,Tryz.ntmps67;go_wp2_with (go_at_call 95;refine(HS.out _).mono ?_;rintro e w2 ⟨rfl,hb2⟩;have HB2:=hid hb2;clear hb2)
  go_ret
  exact⟨rfl,((zaB).alloc (zaA) _).trans (HB2.out.mono (by simp))⟩
theorem lL (hs:∀ wz,Calls Tryz.prog 95 #[.agg #[.string SG,.string BS,.string NM]] wz fun e w'=>e=.returned (.int .u8 (0:Nat))/\Below wz.heap.size wz w') (O:ByteArray) (h:BS=⟨#[110]⟩/\O=⟨#[48]⟩\/BS=⟨#[116]⟩/\O=⟨#[39,39]⟩\/BS=⟨#[102]⟩/\O=⟨#[110,111]⟩):Calls Tryz.prog 67 #[ptr sb,.agg #[.string SG,.string BS,.string NM]] w fun e w'=>e=.returned (.string O)/\Below w.heap.size w w':=by
 have HS:=hid hs;clear hs;rcases h with⟨rfl,rfl⟩|⟨rfl,rfl⟩|⟨rfl,rfl⟩;all_goals
  go_enter Tryz.func67,Tryz.ntmps67;go_wp2_with (go_at_call 95;refine(HS.out _).mono ?_;rintro e w2 ⟨rfl,hb2⟩;obtain⟨hc3,hc4⟩:=bcell hb2;have hz:w.heap.size<w2.heap.size:=(by have:=hb2.size;simp at this;omega);have HB2:=hid hb2;clear hb2)
  go_ret
  exact⟨rfl,((zaB).alloc (zaA) _).trans (HB2.out.mono (by simp))⟩
end
structure At (W:World) (lo sb:Nat) (NM:ByteArray) (t:Wf.Ty) (mb b:Nat):Prop where
 sz:sb<W.heap.size
 c1:W.cell? ⟨sb,1,none⟩=some (.map (some mb))
 ty:TyL W lo b t
 look:∀ wz,Below W.heap.size W wz->(Instr.lookup 114 (.map (some mb)) (.string NM) false).run Tryz.prog wz=.ok (ptr b) wz
section
variable (W:World) (lo sb:Nat) (SG NM:ByteArray) (t:Wf.Ty) (mb b:Nat) (HA:At W lo sb NM t mb b) (w:World) (hW:Below W.heap.size W w)
 (hs:∀ wz,Calls Tryz.prog 95 #[.agg #[.string SG,.string ⟨#[64]⟩,.string NM]] wz fun e w'=>e=.returned (.int .u8 (0:Nat))/\Below wz.heap.size wz w')
include HA hW hs
theorem zM (h82:t.sort=82):Calls Tryz.prog 67 #[ptr sb,.agg #[.string SG,.string ⟨#[64]⟩,.string NM]] w fun e w'=>e=.returned (tx [123,125])/\Below w.heap.size w w':=by
 have HS:=hid hs;have HW:=hid hW;have HAT:=hid HA;obtain⟨hbW,s0⟩:=HA.ty.sort;rw[h82] at s0;have hsw:sb<w.heap.size:=zaC HA.sz hW.size;have hbw:b<w.heap.size:=zaC hbW hW.size;have y1:=(hW.cell (p:=⟨sb,1,none⟩) HA.sz).trans HA.c1;have y0:=(hW.cell (p:=⟨b,0,none⟩) hbW).trans s0;clear hs s0 HA hW;go_enter Tryz.func67,Tryz.ntmps67;go_wp2_with (go_at_call 95;refine(HS.out _).mono ?_;rintro e w2 ⟨rfl,hb2⟩;obtain⟨hc3,hc4⟩:=bcell hb2;have hz:w.heap.size<w2.heap.size:=(by have:=hb2.size;simp at this;omega);have HB2:=hid (((Below.refl w.heap.size w).alloc (zaA) (.cells #[.string SG,.string ⟨#[64]⟩,.string NM] 48)).trans (hb2.mono (by simp)));have z1:=(HB2.out.cell (p:=⟨sb,1,none⟩) hsw).trans y1;have z0:=(HB2.out.cell (p:=⟨b,0,none⟩) hbw).trans y0;have hbw2:=zaC hbw HB2.out.size;have l0:=HAT.out.look w2 (HW.out.trans (HB2.out.mono HW.out.size));have l1:=HAT.out.look w2.drew (HW.out.trans (HB2.out.mono HW.out.size)).drew;clear hb2)
 go_region
 all_goals go_wp2_with fail
 all_goals go_ret
 all_goals exact⟨rfl,by have B:=HB2.out;repeat (first|with_reducible exact B|with_reducible refine zbE ?_|with_reducible refine zbG ?_ (by first|exact B.size|(simp;done)|(simp;omega)|omega) _)⟩
theorem a0L (h69:t.sort=69) (f:Wf.Fd) (fs:List Wf.Fd) (hf:t.fields=f::fs) (hG:f.tag<=999999) (O:ByteArray) (ho:O.data.toList=35::Wf.dec f.tag):Calls Tryz.prog 67 #[ptr sb,.agg #[.string SG,.string ⟨#[64]⟩,.string NM]] w fun e w'=>e=.returned (.string O)/\Below w.heap.size w w':=by
 have HS:=hid hs;have HW:=hid hW;have HAT:=hid HA;obtain⟨hbW,s0⟩:=HA.ty.sort;rw[h69] at s0;obtain⟨fb,a,c,_,c2,hnc,hcm,hrow⟩:=HA.ty.row;obtain⟨o,rfl,hfd⟩:=hrow 0 (by rw[hf];simp);have ef:t.fields[0]'(by rw[hf];simp)=f:=by simp[hf]
 rw[ef,Nat.zero_mul,Nat.add_zero] at hfd;have e0:(fdC t.sort f)[0]? = some (.int .i64 f.tag):=by
  obtain⟨_,_,_,_,h⟩:=eD t.sort f;rw[h];rfl
 have f0:=hfd.2 0 _ e0;rw[Nat.add_zero] at f0;have hfb:=hfd.1;obtain⟨n,hn⟩:∃ n,t.fields.length=n:=⟨_,rfl⟩;have h0n:0<n:=by rw[<-hn,hf];simp
 rw[hn] at c2 hnc;obtain⟨G,hGG⟩:∃ G,f.tag=G:=⟨_,rfl⟩;rw[hGG] at f0 hG ho;have hsw:sb<w.heap.size:=zaC HA.sz hW.size;have hbw:b<w.heap.size:=zaC hbW hW.size;have hfw:fb<w.heap.size:=zaC hfb hW.size;have y1:=(hW.cell (p:=⟨sb,1,none⟩) HA.sz).trans HA.c1;have y0:=(hW.cell (p:=⟨b,0,none⟩) hbW).trans s0;have y2:=(hW.cell (p:=⟨b,2,none⟩) hbW).trans c2;have yf:=(hW.cell (p:=⟨fb,o,none⟩) hfb).trans f0;have HD:=hid fun wz=>gV G G wz (zaA) hG;have ld:=Wf.cA hG;obtain⟨D,hD⟩:∃ D:ByteArray,(⟨(Wf.dec G).toArray⟩:ByteArray)=D:=⟨_,rfl⟩;simp only[tx,hD] at HD;have hds:D.size<=6:=by rw[<-hD,<-aE];simpa using ld
 have HO:=hid (show(⟨#[35]⟩:ByteArray)++D=O by rw[aQ,ho,<-hD];simp);have a1:=fun wz=>zbH (P:=Tryz.prog) (w:=wz) ⟨#[35]⟩ D (by show 1+D.size<=_;omega);clear hs s0 HA hW ho hD ld c2 f0 e0 hfd ef hrow hf hGG;go_enter Tryz.func67,Tryz.ntmps67;go_wp2_with (go_at_call 95;refine(HS.out _).mono ?_;rintro e w2 ⟨rfl,hb2⟩;obtain⟨hc3,hc4⟩:=bcell hb2;have hz:w.heap.size<w2.heap.size:=(by have:=hb2.size;simp at this;omega);have HB2:=hid (((Below.refl w.heap.size w).alloc (zaA) (.cells #[.string SG,.string ⟨#[64]⟩,.string NM] 48)).trans (hb2.mono (by simp)));have z1:=(HB2.out.cell (p:=⟨sb,1,none⟩) hsw).trans y1;have z0:=(HB2.out.cell (p:=⟨b,0,none⟩) hbw).trans y0;have z2:=(HB2.out.cell (p:=⟨b,2,none⟩) hbw).trans y2;have zf:=(HB2.out.cell (p:=⟨fb,o,none⟩) hfw).trans yf;have hbw2:=zaC hbw HB2.out.size;have l0:=HAT.out.look w2 (HW.out.trans (HB2.out.mono HW.out.size));have l1:=HAT.out.look w2.drew (HW.out.trans (HB2.out.mono HW.out.size)).drew;clear hb2)
 go_region
 all_goals go_wp2_with (go_at_call 60;refine(HD.out _).mono ?_;rintro e w3 ⟨rfl,hb3⟩;have HB3:=hid hb3;clear hb3)
 all_goals go_ret
 all_goals exact⟨aX HO.out,by have B:=HB2.out.drew.trans (HB3.out.mono HB2.out.size);repeat (first|with_reducible exact B|with_reducible refine zbE ?_|with_reducible refine zbG ?_ (by first|exact B.size|(simp;done)|(simp;omega)|omega) _)⟩
theorem vS (h85:t.sort=85) (f:Wf.Fd) (fs:List Wf.Fd) (hf:t.fields=f::fs) (hG:f.tag<=999999) (S2 O:ByteArray) (hS2:S2.size<=200) (ho:O.data.toList=60::(Wf.dec f.tag++61::(S2.data.toList++[62])))
  (hrec:∀ wz,Below w.heap.size w wz->Calls Tryz.prog 67 #[ptr sb,kV f.kind] wz fun e w'=>e=.returned (.string S2)/\Below wz.heap.size wz w'):Calls Tryz.prog 67 #[ptr sb,.agg #[.string SG,.string ⟨#[64]⟩,.string NM]] w fun e w'=>e=.returned (.string O)/\Below w.heap.size w w':=by
 have HS:=hid hs;have HW:=hid hW;have HAT:=hid HA;obtain⟨hbW,s0⟩:=HA.ty.sort;rw[h85] at s0;obtain⟨fb,a,c,_,c2,hnc,hcm,hrow⟩:=HA.ty.row;obtain⟨o,rfl,hfd⟩:=hrow 0 (by rw[hf];simp);have ef:t.fields[0]'(by rw[hf];simp)=f:=by simp[hf]
 rw[ef,Nat.zero_mul,Nat.add_zero] at hfd;have e0:fdC t.sort f=[.int .i64 f.tag,tx f.name,tx f.kind.signs,tx f.kind.base,tx f.kind.name,tx f.given]:=by unfold fdC;rw[if_neg (by rw[h85];decide)]
 have hfb:=hfd.1;have hf2:=hfd.2;rw[e0] at hf2;obtain⟨S1,hS1⟩:∃ S1:ByteArray,(⟨f.kind.signs.toArray⟩:ByteArray)=S1:=⟨_,rfl⟩;obtain⟨B1,hB1⟩:∃ B1:ByteArray,(⟨f.kind.base.toArray⟩:ByteArray)=B1:=⟨_,rfl⟩;obtain⟨N1,hN1⟩:∃ N1:ByteArray,(⟨f.kind.name.toArray⟩:ByteArray)=N1:=⟨_,rfl⟩;simp only[kV,tx,hS1,hB1,hN1] at hrec;simp only[tx,hS1,hB1,hN1] at hf2;have f0:W.cell? ⟨fb,o,none⟩=some (.int .i64 f.tag):=hf2 0 _ rfl;have f1:=hf2 2 _ rfl;have f2:=hf2 3 _ rfl;have f3:=hf2 4 _ rfl;obtain⟨n,hn⟩:∃ n,t.fields.length=n:=⟨_,rfl⟩;have h0n:0<n:=by rw[<-hn,hf];simp
 rw[hn] at c2 hnc;obtain⟨G,hGG⟩:∃ G,f.tag=G:=⟨_,rfl⟩;rw[hGG] at f0 hG ho;have hsw:sb<w.heap.size:=zaC HA.sz hW.size;have hbw:b<w.heap.size:=zaC hbW hW.size;have hfw:fb<w.heap.size:=zaC hfb hW.size;have y1:=(hW.cell (p:=⟨sb,1,none⟩) HA.sz).trans HA.c1;have y0:=(hW.cell (p:=⟨b,0,none⟩) hbW).trans s0;have y2:=(hW.cell (p:=⟨b,2,none⟩) hbW).trans c2;have yf:=(hW.cell (p:=⟨fb,o,none⟩) hfb).trans f0;have x1:=(hW.cell (p:=⟨fb,o+2,none⟩) hfb).trans f1;have x2:=(hW.cell (p:=⟨fb,o+3,none⟩) hfb).trans f2;have x3:=(hW.cell (p:=⟨fb,o+4,none⟩) hfb).trans f3;have HD:=hid fun wz=>gV G G wz (zaA) hG;have ld:=Wf.cA hG;obtain⟨D,hD⟩:∃ D:ByteArray,(⟨(Wf.dec G).toArray⟩:ByteArray)=D:=⟨_,rfl⟩;simp only[tx,hD] at HD;have hds:D.size<=6:=by rw[<-hD,<-aE];simpa using ld
 have HO:=hid (show(⟨#[60]⟩:ByteArray)++D++⟨#[61]⟩++S2++⟨#[62]⟩=O by rw[aQ,ho,<-hD];simp);have HREC:=hid hrec;have a1:=fun wz=>zbH (P:=Tryz.prog) (w:=wz) ⟨#[60]⟩ D (by show 1+D.size<=_;omega);have a2:=fun wz=>zbH (P:=Tryz.prog) (w:=wz) (⟨#[60]⟩++D) ⟨#[61]⟩ (by rw[zaO];show 1+D.size+1<=_;omega);have a3:=fun wz=>zbH (P:=Tryz.prog) (w:=wz) (⟨#[60]⟩++D++⟨#[61]⟩) S2 (by rw[zaO,zaO];show 1+D.size+1+S2.size<=_;omega);have a4:=fun wz=>zbH (P:=Tryz.prog) (w:=wz) (⟨#[60]⟩++D++⟨#[61]⟩++S2) ⟨#[62]⟩ (by rw[zaO,zaO,zaO];show 1+D.size+1+S2.size+1<=_;omega);clear hs s0 HA hW ho hD ld c2 f0 f1 f2 f3 hf2 e0 hfd ef hrow hf hGG hrec hS1 hB1 hN1;go_enter Tryz.func67,Tryz.ntmps67;go_wp2_with (go_at_call 95;refine(HS.out _).mono ?_;rintro e w2 ⟨rfl,hb2⟩;obtain⟨hc3,hc4⟩:=bcell hb2;have hz:w.heap.size<w2.heap.size:=(by have:=hb2.size;simp at this;omega);have HB2:=hid (((Below.refl w.heap.size w).alloc (zaA) (.cells #[.string SG,.string ⟨#[64]⟩,.string NM] 48)).trans (hb2.mono (by simp)));have z1:=(HB2.out.cell (p:=⟨sb,1,none⟩) hsw).trans y1;have z0:=(HB2.out.cell (p:=⟨b,0,none⟩) hbw).trans y0;have z2:=(HB2.out.cell (p:=⟨b,2,none⟩) hbw).trans y2;have zf:=(HB2.out.cell (p:=⟨fb,o,none⟩) hfw).trans yf;have hbw2:=zaC hbw HB2.out.size;have l0:=HAT.out.look w2 (HW.out.trans (HB2.out.mono HW.out.size));have l1:=HAT.out.look w2.drew (HW.out.trans (HB2.out.mono HW.out.size)).drew;have w1:=(HB2.out.cell (p:=⟨fb,o+2,none⟩) hfw).trans x1;have w12:=(HB2.out.cell (p:=⟨fb,o+3,none⟩) hfw).trans x2;have w13:=(HB2.out.cell (p:=⟨fb,o+4,none⟩) hfw).trans x3;have hfw2:=zaC hfw HB2.out.size;have F:=hid fun(wz:World) (hz:Below w2.heap.size w2 wz)=>(show wz.cell? ⟨b,2,none⟩=some (.slice (some ⟨fb,o,none⟩) n c)/\wz.cell? ⟨fb,o,none⟩=some (.int .i64 G)/\wz.cell? ⟨fb,o+2,none⟩=some (.string S1)/\wz.cell? ⟨fb,o+3,none⟩=some (.string B1)/\wz.cell? ⟨fb,o+4,none⟩=some (.string N1) from⟨(hz.cell (p:=⟨b,2,none⟩) hbw2).trans z2,(hz.cell (p:=⟨fb,o,none⟩) hfw2).trans zf,(hz.cell (p:=⟨fb,o+2,none⟩) hfw2).trans w1,(hz.cell (p:=⟨fb,o+3,none⟩) hfw2).trans w12,(hz.cell (p:=⟨fb,o+4,none⟩) hfw2).trans w13⟩);clear hb2)
 go_region
 go_wp2_with fail
 go_region_held3 (fun w'=>w'.cell? ⟨b,2,none⟩=some (.slice (some ⟨fb,o,none⟩) n c)/\w'.cell? ⟨fb,o,none⟩=some (.int .i64 G)/\w'.cell? ⟨fb,o+2,none⟩=some (.string S1)/\w'.cell? ⟨fb,o+3,none⟩=some (.string B1)/\w'.cell? ⟨fb,o+4,none⟩=some (.string N1)) (first|exact⟨k1,k2,k3,k4,k5⟩|exact⟨d1,d2,d3,d4,d5⟩|go_keep) (first|(go_at_call 60;refine(HD.out _).mono ?_;rintro e w3 ⟨rfl,hb3⟩;have TD:=Lib.hid (show Below w2.heap.size w2 w3 by first|exact TS.out.trans (hb3.mono TS.out.size)|(refine Below.trans (b:=_) ?_ hb3;repeat (first|with_reducible exact zaB|with_reducible refine zbE ?_)));obtain⟨d1,d2,d3,d4,d5⟩:=F.out _ TD.out;clear hb3)|(go_at_call 67;refine(HREC.out _ (by first|exact HB2.out.trans (TD.out.mono HB2.out.size)|(refine Below.trans (b:=w2) HB2.out ?_;repeat (first|with_reducible exact zaB|with_reducible refine zbE ?_)))).mono ?_;rintro e w4 ⟨rfl,hb4⟩;have TS:=Lib.hid (show Below w2.heap.size w2 w4 by first|exact TD.out.trans (hb4.mono TD.out.size)|(refine Below.trans (b:=_) ?_ hb4;repeat (first|with_reducible exact zaB|with_reducible refine zbE ?_)));obtain⟨k1,k2,k3,k4,k5⟩:=F.out _ TS.out;clear hb4))
 all_goals go_wp2_with fail
 all_goals go_ret
 all_goals exact⟨aX HO.out,by first|exact HB2.out.trans (TS.out.mono HB2.out.size)|exact HB2.out.trans (TD.out.mono HB2.out.size)⟩
end

theorem gY (sb:Nat) (k:Wf.K) (x:Wf.Sc) (w:World) (h:(∃ k',k=.list k')\/∃ k',k=.opt k'):Calls Tryz.prog 67 #[ptr sb,kV k] w fun e w'=>e=.returned (tx (Wf.stands x 9 k))/\Below w.heap.size w w':=by
 have hs:=fun wz=>sign k wz;rcases h with⟨k',rfl⟩|⟨k',rfl⟩
 ·exact(qD sb _ _ _ w 91 (.inl rfl) hs).mono fun e w' ⟨h1,h2⟩=>⟨by rw[h1];rfl,h2⟩
 ·exact(qD sb _ _ _ w 63 (.inr rfl) hs).mono fun e w' ⟨h1,h2⟩=>⟨by rw[h1];rfl,h2⟩
theorem fT (sb:Nat) (k:Wf.K) (x:Wf.Sc) (w:World) (h:k=.num\/k=.txt\/k=.flag):Calls Tryz.prog 67 #[ptr sb,kV k] w fun e w'=>e=.returned (tx (Wf.stands x 9 k))/\Below w.heap.size w w':=by
 have hs:=fun wz=>sign k wz;rcases h with rfl|rfl|rfl
 ·exact lL sb _ _ _ w hs ⟨#[48]⟩ (.inl ⟨rfl,rfl⟩)
 ·exact lL sb _ _ _ w hs ⟨#[39,39]⟩ (.inr (.inl ⟨rfl,rfl⟩))
 ·exact lL sb _ _ _ w hs ⟨#[110,111]⟩ (.inr (.inr ⟨rfl,rfl⟩))
theorem yO (x:Wf.Sc) (hx:Wf.ScOk x) (lo sb:Nat) (W:World) (H:ScL W lo sb x):∀ (n:Nat) (k:Wf.K) (w:World),Below W.heap.size W w->k.text.length<=12->Wf.aL x k=true->(∀ t,refT x k=some t->Wf.endsIn x n t=true) ->
  Calls Tryz.prog 67 #[ptr sb,kV k] w fun e w'=>e=.returned (tx (Wf.stands x 9 k))/\Below w.heap.size w w':=by
 intro n;induction n with
 | zero =>
  intro k w hW hk hr he;cases k with
  | ref nm =>
   obtain⟨t,ht⟩:=Option.isSome_iff_exists.1 (show(x.find nm).isSome=true by simpa[Wf.aL,Wf.K.base,Wf.K.name] using hr);have:=he t ht;simp[Wf.endsIn] at this
  | num=>exact fT sb _ x w (.inl rfl)
  | txt=>exact fT sb _ x w (.inr (.inl rfl))
  | flag=>exact fT sb _ x w (.inr (.inr rfl))
  | list k=>exact gY sb _ x w (.inl ⟨_,rfl⟩)
  | opt k=>exact gY sb _ x w (.inr ⟨_,rfl⟩)
 | succ n ih =>
  intro k w hW hk hr he;cases k with
  | num=>exact fT sb _ x w (.inl rfl)
  | txt=>exact fT sb _ x w (.inr (.inl rfl))
  | flag=>exact fT sb _ x w (.inr (.inr rfl))
  | list k=>exact gY sb _ x w (.inl ⟨_,rfl⟩)
  | opt k=>exact gY sb _ x w (.inr ⟨_,rfl⟩)
  | ref nm =>
   have hs:=fun wz=>sign (.ref nm) wz;obtain⟨mb,hsz,hc1,hnm⟩:=H.named;obtain⟨t,ht⟩:=Option.isSome_iff_exists.1 (show(x.find nm).isSome=true by simpa[Wf.aL,Wf.K.base,Wf.K.name] using hr);have hnl:nm.length<=12:=(by have:=fP (.ref nm);simp only[Wf.K.name] at this;omega);have hm:=(Wf.cE ht).1;have hok:=hx.tys t hm;have hend:=he t ht;have hst:=stands_ref ht;rcases hnm ⟨nm.toArray⟩ (by rw[aR];omega) with⟨h0,_⟩|⟨t',b,h1,hT,hl⟩
   ·rw[show(⟨nm.toArray⟩:ByteArray).data.toList=nm from rfl,ht] at h0;cases h0
   rw[show(⟨nm.toArray⟩:ByteArray).data.toList=nm from rfl,ht] at h1;obtain rfl:t=t':=Option.some.inj h1;have HA:At W lo sb ⟨nm.toArray⟩ t mb b:=⟨hsz,hc1,hT,hl⟩;by_cases h82:t.sort=82
   ·rw[hst,if_pos h82]
    exact zM W lo sb _ _ t mb b HA w hW hs h82
   ·rw[if_neg h82] at hst
    obtain⟨f,fs,hfs⟩:∃ f fs,t.fields=f::fs:=List.exists_cons_of_ne_nil (hok.some h82);have hfd:=hok.fds f (by rw[hfs];exact List.mem_cons_self ..);have htag:f.tag<=999999:=(by have:=hfd.tag2;omega);rw[hfs] at hst;dsimp only at hst;by_cases h69:t.sort=69
    ·rw[hst,if_pos h69]
     exact a0L W lo sb _ _ t mb b HA w hW hs h69 f fs hfs htag ⟨(35::Wf.dec f.tag).toArray⟩ rfl
    ·rw[if_neg h69] at hst
     have h85:t.sort=85:=by
      rcases hok.sort with h|h|h
      ·exact absurd h h82
      ·exact h
      ·exact absurd h h69
     obtain⟨s0,hs0⟩:=hfd.kind h69;have hfl:f.kind.text.length<=12:=gR hs0;have hfr:Wf.aL x f.kind=true:=by
      have:=hx.refs t hm h69 f (by rw[hfs];exact List.mem_cons_self ..);exact this
     have hs2:=rN hx 9 f.kind;rw[hst,<-rG hx f.kind];refine vS W lo sb _ _ t mb b HA w hW hs h85 f fs hfs htag ⟨(Wf.stands x 9 f.kind).toArray⟩ ⟨(60::(Wf.dec f.tag++61::(Wf.stands x 9 f.kind++[62]))).toArray⟩ (by rw[aR];omega) rfl fun wz hz=>ih f.kind wz (hW.trans (hz.mono hW.size)) hfl hfr fun t' ht'=>?_;have:=ends_step (x:=x) (m:=n) h85 hfs;rw[ht',hend] at this;exact this.symm
theorem stands (x:Wf.Sc) (hx:Wf.ScOk x) (lo sb:Nat) (k:Wf.K) (W w:World) (hW:Below W.heap.size W w) (H:ScL W lo sb x) (hk:k.text.length<=12) (hr:Wf.aL x k=true) :
  Calls Tryz.prog 67 #[ptr sb,kV k] w fun e w'=>e=.returned (tx (Wf.stands x 9 k))/\Below w.heap.size w w' :=
 yO x hx lo sb W H 9 k w hW hk hr fun t ht=>hx.ends t (kX ht)
theorem of_w (sb fb o:Nat) (SG BS NM GV O:ByteArray) (w:World) (k0:w.cell? ⟨fb,o+2,none⟩=some (.string SG)) (k1:w.cell? ⟨fb,o+3,none⟩=some (.string BS)) (k2:w.cell? ⟨fb,o+4,none⟩=some (.string NM)) (k3:w.cell? ⟨fb,o+5,none⟩=some (.string GV))
  (h:(GV.toList.isEmpty=false/\O=GV)\/(GV.toList.isEmpty=true/\∀ wz,Below w.heap.size w wz->Calls Tryz.prog 67 #[ptr sb,.agg #[.string SG,.string BS,.string NM]] wz fun e w'=>e=.returned (.string O)/\Below wz.heap.size wz w')) :
  Calls Tryz.prog 42 #[ptr sb,.pointer (some ⟨fb,o,none⟩)] w fun e w'=>e=.returned (.string O)/\Below w.heap.size w w':=by
 rcases h with⟨h1,rfl⟩|⟨h1,h2⟩
 ·go_enter Tryz.func42,Tryz.ntmps42
  go_wp2_with fail
  go_ret
  exact⟨rfl,zaB⟩
 ·have H2:=hid h2
  clear h2;go_enter Tryz.func42,Tryz.ntmps42;go_wp2_with (go_at_call 67;refine(H2.out _ (zaB)).mono ?_;rintro e w2 ⟨rfl,hb2⟩;have HB2:=hid hb2;clear hb2)
  go_ret
  exact⟨rfl,HB2.out⟩
theorem of (x:Wf.Sc) (hx:Wf.ScOk x) (lo sb fb o:Nat) (sort:UInt8) (f:Wf.Fd) (W w:World) (hW:Below W.heap.size W w) (H:ScL W lo sb x) (h69:sort≠69) (hf:FdAt W fb o sort f) (hk:f.kind.text.length<=12) (hr:Wf.aL x f.kind=true) :
  Calls Tryz.prog 42 #[ptr sb,.pointer (some ⟨fb,o,none⟩)] w fun e w'=>e=.returned (tx (Wf.aK x f))/\Below w.heap.size w w':=by
 have hf':=hf.2;have e0:fdC sort f=[.int .i64 f.tag,tx f.name,tx f.kind.signs,tx f.kind.base,tx f.kind.name,tx f.given]:=by unfold fdC;rw[if_neg h69]
 rw[e0] at hf';have cc:=fun j u hu=>(hW.cell (p:=⟨fb,o+j,none⟩) hf.1).trans (hf' j u hu);refine of_w sb fb o ⟨f.kind.signs.toArray⟩ ⟨f.kind.base.toArray⟩ ⟨f.kind.name.toArray⟩ ⟨f.given.toArray⟩ ⟨(Wf.aK x f).toArray⟩ w (cc 2 _ rfl) (cc 3 _ rfl) (cc 4 _ rfl) (cc 5 _ rfl) ?_;unfold Wf.aK;by_cases hg:f.given=[]
 ·right
  refine⟨by rw[zaZ,hg];rfl,fun wz hz=>?_⟩;rw[if_pos hg];exact stands x hx lo sb f.kind W wz (hW.trans (hz.mono hW.size)) H hk hr
 ·left
  refine⟨by rw[zaZ];cases hh:f.given with|nil=>exact absurd hh hg|cons a r=>rfl,by rw[if_neg hg]⟩

theorem a0J (v:Value) (G:Int) (N K S O:ByteArray) (w:World) (h:(S.toList.isEmpty=true/\Calls Tryz.prog 158 #[v,.string K] (w.alloc (.cells #[.int .i64 G,.string N,.string K,.string S] 163)) fun e w'=>e=.returned (.string O)/\Below (w.heap.size+1) (w.alloc (.cells #[.int .i64 G,.string N,.string K,.string S] 163)) w')\/(S.toList.isEmpty=false/\O=S)) :
  Calls Tryz.prog 135 #[v,.agg #[.int .i64 G,.string N,.string K,.string S]] w fun e w'=>e=.returned (.string O)/\Below w.heap.size w w':=by
 rcases h with⟨he,hc⟩|⟨he,rfl⟩
 ·have HC:=hid hc
  clear hc;go_enter Tryz.func135,Tryz.ntmps135;go_wp2_with (go_at_call 158;refine HC.out.mono ?_;rintro e w2 ⟨rfl,hb2⟩;have HB2:=hid hb2;clear hb2)
  go_ret
  exact⟨rfl,((zaB).alloc (zaA) _).trans (HB2.out.mono (Nat.le_succ _))⟩
 ·go_enter Tryz.func135,Tryz.ntmps135
  go_wp2_with fail
  go_ret
  exact⟨rfl,(zaB).alloc (zaA) _⟩
theorem sL (x:Wf.Sc) (hx:Wf.ScOk x) (lo b:Nat) (v:Value) (f:Wf.Fd) (W w:World) (hW:Below W.heap.size W w) (H:ScSp W lo b v x) (hk:f.kind.text.length<=12) (hr:Wf.aL x f.kind=true) :
  Calls Tryz.prog 135 #[v,.agg #[.int .i64 f.tag,tx f.name,tx f.kind.text,tx f.given]] w fun e w'=>e=.returned (tx (Wf.aK x f))/\Below w.heap.size w w':=by
 refine a0J v f.tag ⟨f.name.toArray⟩ ⟨f.kind.text.toArray⟩ ⟨f.given.toArray⟩ ⟨(Wf.aK x f).toArray⟩ w ?_;unfold Wf.aK;by_cases hg:f.given=[]
 ·left
  refine⟨by rw[zaZ,hg];rfl,?_⟩;rw[if_pos hg];refine(vH x hx lo b v f.kind W _ (hW.alloc hW.size _) H hk hr).mono fun e w' ⟨h1,h2⟩=>⟨h1,?_⟩;have:(w.alloc (.cells #[.int .i64 f.tag,.string ⟨f.name.toArray⟩,.string ⟨f.kind.text.toArray⟩,.string ⟨f.given.toArray⟩] 163)).heap.size=w.heap.size+1:=by simp
  rw[<-this];exact h2
 ·right
  refine⟨by rw[zaZ];cases hh:f.given with|nil=>exact absurd hh hg|cons a r=>rfl,by rw[if_neg hg]⟩
def aV (l kt:List UInt8):Option (Wf.Sc × Wf.K):=match Wf.schemaOf l with
 | none=>none
 | some x=>match Wf.aM kt with
  | none=>none
  | some k=>if Wf.aL x k=true then some (x,k) else none
def cM (l kt:List UInt8) (lo:Nat) (e:Ending) (w':World):Prop:=match aV l kt with
 | some y=>∃ b a c,e=.returned (.tuple #[.slice a y.1.length c,.bool true])/\ScSp w' lo b (.slice a y.1.length c) y.1
 | none=>∃ a n c,e=.returned (.tuple #[.slice a n c,.bool false])
theorem jJ {l kt:List UInt8} {y:Wf.Sc × Wf.K} (h:aV l kt=some y):Wf.schemaOf l=some y.1/\Wf.aM kt=some y.2/\Wf.aL y.1 y.2=true/\y.2.text=kt/\kt.length<=12:=by
 unfold aV at h;cases hs:Wf.schemaOf l with
 | none=>rw[hs] at h;cases h
 | some x =>
  rw[hs] at h;cases hk:Wf.aM kt with
  | none=>rw[hk] at h;cases h
  | some k =>
   rw[hk] at h;dsimp only at h;split at h
   ·rename_i hr
    simp only[zaE] at h;subst h;have hl:=gR hk;unfold Wf.aM at hk;split at hk
    ·exact⟨rfl,rfl,hr,Wf.iQ hk,by assumption⟩
    ·cases hk
   ·cases h
theorem qL {l kt:List UInt8} {x:Wf.Sc} {k:Wf.K} {is ok:Bool} {n lo b c:Nat} {a:Option Addr} {w':World} (h:aV l kt=if (!is || ok)=true then some (x,k) else none) (hn:x.length=n) (hs:ScSp w' lo b (.slice a n c) x) {r:Bool} (hr:r=(!is || ok)):cM l kt lo (.returned (.tuple #[.slice a n c,.bool r])) w':=by
 subst hr;unfold cM;rw[h];cases hb:(!is || ok) with
 | true=>rw[if_pos rfl];exact⟨b,a,c,by rw[hn],by rw[hn];exact hs⟩
 | false=>rw[if_neg (by decide)];exact⟨_,_,_,rfl⟩
theorem oQ (s kt:ByteArray) (w:World) (hs:s.size<=1048576):Calls Tryz.prog 50 #[.string s,.string kt] w fun e w'=>cM s.data.toList kt.data.toList w.heap.size e w'/\Below w.heap.size w w':=by
 have HOF:=hid fun wz=>l3Of s wz hs;have HOK:=hid fun wz=>qH kt.size kt wz (zaA);cases hsc:Wf.schemaOf s.data.toList with
 | none =>
  have HO:=hid fun e lo wz (h:dO s.data.toList lo e wz)=>(by unfold dO at h;rw[hsc] at h;exact h:∃ a n c,e=.returned (.tuple #[.slice a n c,.bool false]));have HF:=hid (show aV s.data.toList kt.data.toList=none by unfold aV;rw[hsc]);clear hsc;go_enter Tryz.func50,Tryz.ntmps50;go_wp2_with (go_at_call 81;refine(HOF.out _).mono ?_;rintro e w2 ⟨ho,hb2⟩;obtain⟨a,n,c,rfl⟩:=HO.out _ _ _ ho;have HB2:=hid hb2;clear ho hb2)
  go_ret2
  exact⟨by unfold cM;rw[HF.out];exact⟨_,_,_,rfl⟩,HB2.out⟩
 | some x =>
  have hx8:=(Wf.gE hsc).len;have HO:=hid fun e lo wz (h:dO s.data.toList lo e wz)=>(by unfold dO at h;rw[hsc] at h;obtain⟨b,v,he,hsp⟩:=h;obtain⟨a,c,rfl,_⟩:=hsp.slice;exact⟨b,a,c,he,hsp⟩:∃ b a c,e=.returned (.tuple #[.slice a x.length c,.bool true])/\ScSp wz lo b (.slice a x.length c) x);obtain⟨n,hn⟩:∃ n,x.length=n:=⟨_,rfl⟩;rw[hn] at HO;have HN:=hid hn;cases hk:Wf.aM kt.data.toList with
  | none =>
   rw[ok_none hk] at HOK;have HF:=hid (show aV s.data.toList kt.data.toList=none by unfold aV;rw[hsc];dsimp only;rw[hk]);clear hsc hk hn;go_enter Tryz.func50,Tryz.ntmps50;go_wp2_with (first|(go_at_call 82;refine(HOK.out _).mono ?_;rintro e w3 ⟨rfl,rfl⟩)|(go_at_call 81;refine(HOF.out _).mono ?_;rintro e w2 ⟨ho,hb2⟩;obtain⟨b,a,c,rfl,hs2⟩:=HO.out _ _ _ ho;have HB2:=hid hb2;clear ho hb2 hs2))
   go_ret2
   exact⟨by unfold cM;rw[HF.out];exact⟨_,_,_,rfl⟩,HB2.out⟩
  | some k =>
   rw[pT hk] at HOK;have hkl:=gR hk;have hkt:tx k.text=.string kt:=by
    unfold Wf.aM at hk;split at hk
    ·rw[Wf.iQ hk]
    ·cases hk
   have HCORE:=hid fun wz=>rC k (by omega) wz;have hcl:=sP k;have HREF:=hid fun wz=>jF k.core (by omega) wz;obtain⟨NM,is,hri,hhas⟩:=rB x k;rw[hri] at HREF;have HFIND:=hid fun wz lo b v (h:ScSp wz lo b v x)=>(rF x lo b v NM wz wz (zaB) (by omega) h);obtain⟨CT,hCT⟩:∃ CT:ByteArray,(⟨k.core.text.toArray⟩:ByteArray)=CT:=⟨_,rfl⟩;rw[hkt] at HCORE;simp only[tx,hCT] at HCORE HREF;obtain⟨ok,hokk⟩:∃ ok,(x.find NM.data.toList).isSome=ok:=⟨_,rfl⟩;rw[hokk] at hhas HFIND;have HF:=hid (show aV s.data.toList kt.data.toList=if (!is || ok)=true then some (x,k) else none by unfold aV;rw[hsc];dsimp only;rw[hk];dsimp only;rw[hhas]);clear hsc hk hn hhas hokk hCT hri hcl hkl hkt;have hcs:(is=false)\/(is=true/\ok=true)\/(is=true/\ok=false):=(by cases is <;> cases ok <;> simp);go_enter Tryz.func50,Tryz.ntmps50;go_wp2_with (first|(go_at_call 85;refine(HFIND.out _ _ _ _ HS.out).mono ?_;rintro e w5 ⟨⟨fq,fN,fA,fM,fC,rfl⟩,hb5⟩;have HB5:=hid hb5;clear hb5)|(go_at_call 83;refine(HREF.out _).mono ?_;rintro e w4 ⟨rfl,rfl⟩)|(go_at_call 84;refine(HCORE.out _).mono ?_;rintro e w3 ⟨rfl,rfl⟩)|(go_at_call 82;refine(HOK.out _).mono ?_;rintro e w3 ⟨rfl,rfl⟩)|(go_at_call 81;refine(HOF.out _).mono ?_;rintro e w2 ⟨ho,hb2⟩;obtain⟨b,a,c,rfl,hs2⟩:=HO.out _ _ _ ho;have HS:=hid hs2;have HB2:=hid hb2;clear ho hb2 hs2))
   all_goals go_ret2
   ·exact⟨qL (is:=is) (ok:=ok) HF.out HN.out (HS.out.below HB5.out |>.below ((zaB).alloc (zaA) _)) (by simp[*]),(HB2.out.trans (HB5.out.mono HB2.out.size)).alloc (zaI HB2.out.size HB5.out.size) _⟩
   ·exact⟨qL (is:=is) (ok:=ok) HF.out HN.out (HS.out.below HB5.out |>.below ((zaB).alloc (zaA) _)) (by simp[*]),(HB2.out.trans (HB5.out.mono HB2.out.size)).alloc (zaI HB2.out.size HB5.out.size) _⟩
def okL (l:List UInt8):Bool:=(Wf.schemaOf l).isSome
theorem fE {v v':Value} {wx w':World} (hg:wx.grownBy w' v.ownBlock) (hl:v'.ownBlock=v.ownBlock\/v'.ownBlock=some wx.heap.size) {b:Nat} (hb:b<wx.heap.size) (ha:some b≠v.ownBlock):w'.heap[b]? = wx.heap[b]? /\ some b≠v'.ownBlock:=by
 refine⟨hg.block b hb ha,?_⟩;rcases hl with h|h
 ·rw[h];exact ha
 ·rw[h];intro e;have:=Option.some.inj e;omega
structure Gat (w w2 wr:World) (e:TypeId) (b:Nat) (v:Value) (n:Nat) (xs:List Value):Prop where
 own:wr.ownsRow w.heap.size e 1 v n xs
 size:w2.heap.size<=wr.heap.size
 block:wr.heap[b]? = w2.heap[b]?
 apart:some b≠v.ownBlock
 below:Below w.heap.size w wr
theorem Gat.cell {w w2 wr:World} {e:TypeId} {b:Nat} {v:Value} {n:Nat} {xs:List Value} (h:Gat w w2 wr e b v n xs) {o:Nat} {u:Value} (hu:w2.cell? ⟨b,o,none⟩=some u):wr.cell? ⟨b,o,none⟩=some u:=(zbJ (w:=w2) (a:=⟨b,o,none⟩) h.block).trans hu
theorem Gat.put {w w2 wr w':World} {e:TypeId} {b:Nat} {v v':Value} {n m:Nat} {xs ys:List Value} {o:Obj} (h:Gat w w2 wr e b v n xs) (hb:b<w2.heap.size) (hg:(wr.alloc o).grownBy w' v.ownBlock) (hl:v'.ownBlock=v.ownBlock\/v'.ownBlock=some (wr.alloc o).heap.size) (ho:w'.ownsRow w.heap.size e 1 v' m ys):Gat w w2 w' e b v' m ys:=by
 have hbr:b<wr.heap.size:=zaC hb h.size;have hs:(wr.alloc o).heap.size=wr.heap.size+1:=by simp
 obtain⟨a1,a2⟩:=fE hg hl (by omega) h.apart;refine⟨ho,?_,?_,a2,?_⟩
 ·have:=hg.size;have:=h.size;omega
 ·rw[a1]
  have hA:=(Below.refl wr.heap.size wr).alloc (zaA) o;rw[hA.block b hbr,h.block]
 ·refine(h.below.alloc h.below.size o).trans ?_
  refine aW hg (fun g hgk=>(aU h.own g hgk).1) ?_;have:=h.below.size;omega
theorem lK:(Tryz.prog.info? 3).map (fun i=>(i.zero,i.size,i.bytes))=some (some (.int .i64 0),1,8):=by kernel_rfl
