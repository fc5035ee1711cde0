/- Packed. -/
import Derived.Test.YtidjpalnmnehmaaGreatDoorK19
import Derived.Maps.Own
import Derived.Maps.OwnOps
import Derived.Maps.OwnSet
import Derived.Maps.Views
import Derived.StringKeys
set_option maxRecDepth 99999
set_option maxHeartbeats 40000000
set_option linter.all false
namespace Go.Proofs.YtidjpalnmnehmaaGreatDoor
open Go.ChangeShapes Go.WideShapes Go.ChangeAt Go.RowKit Go.Lib
theorem vE (c:UInt8):decide (0<=Lib.indexByte (⟨#[82,85,69]⟩:ByteArray).data.toList c) = !(decide (c≠82/\c≠85/\c≠69)):=by
 have h:∀ n:Fin 256,decide (0<=Lib.indexByte (⟨#[82,85,69]⟩:ByteArray).data.toList (UInt8.ofNat n.val)) = !(decide ((UInt8.ofNat n.val)≠82/\(UInt8.ofNat n.val)≠85/\(UInt8.ofNat n.val)≠69)):=by decide +kernel
 have:=h ⟨c.toNat,c.toNat_lt⟩;simpa using this
theorem a0X (s:ByteArray) (m:Int) (w:World) (hm:ML m w) (hs:s.size<=1000000):Calls Tryz.prog 69 #[.string s] w fun e w'=>cF s.data.toList w.heap.size e w'/\Below w.heap.size w w':=by
 have hl:=aE s;cases hd:s.data.toList with
 | nil =>
  have h0:s.toList.isEmpty=true:=by rw[zaZ,hd];rfl
  exact(sT s w h0).mono fun e w' ⟨he,hb⟩=>⟨gZ rfl he,hb⟩
 | cons c r =>
  have h0:s.toList.isEmpty=false:=by rw[zaZ,hd];rfl
  rw[hd] at hl;have hlr:r.length+1=s.size:=by rw[<-hl];rfl
  have h1:1<=s.size:=by omega
  have hx1:s.extract 0 1=⟨#[c]⟩:=by
   refine cW _ [c] ?_;rw[bH,hd];rfl
  have hxr:(s.extract 1 s.size).data.toList=r:=by
   rw[bH,hd,List.drop_one,List.tail_cons,zaS (by omega)]
  have hk:∀ b,(!(decide (c≠82/\c≠85/\c≠69)))=b->∀ wz,Calls Tryz.prog 107 #[.string ⟨#[82,85,69]⟩,.string (s.extract 0 1)] wz fun e w'=>e=.returned (.bool b)/\wz=w':=fun b hb wz=>by
   rw[hx1];refine(Tryz.strings_Contains_one ⟨#[82,85,69]⟩ c wz).mono fun e w' ⟨he,hw⟩=>⟨?_,hw.symm⟩;rw[he,vE,hb]
  have hN:∀ (h:Wf.lineTy (c::r)=none) e w',(∃ p,e=.returned (.tuple #[.pointer p,.bool false]))->cF (c::r) w.heap.size e w':=fun h e w' he=>gZ h he;by_cases hq:c≠82/\c≠85/\c≠69
  ·refine(uF s w h0 h1 (hk false (by rw[decide_eq_true hq];rfl))).mono fun e w' ⟨he,hb⟩=>⟨hN ?_ e w' he,hb⟩
   exact if_pos hq
  ·have hk:=hk true (by rw[decide_eq_false hq];rfl)
   obtain⟨nm,rs,told,hcut⟩:∃ nm rs told,Wf.cut1 61 r=(nm,rs,told):=⟨_,_,_,rfl⟩;have hlen:=kC 61 r;rw[hcut] at hlen;dsimp only at hlen;have hT:Wf.lineTy (c::r)=if told=false\/Wf.isName nm=false then none else if rs=[] then (if c=82 then some ⟨c,nm,[]⟩ else none) else
     match Wf.addFds c [] (Wf.cutAt 44 rs) with|none=>none|some l=>if l.length<=8 then some ⟨c,nm,l⟩ else none:=by
    show(if c≠82/\c≠85/\c≠69 then (none:Option Wf.Ty) else if (Wf.cut1 61 r).2.2=false\/Wf.isName (Wf.cut1 61 r).1=false then none else if (Wf.cut1 61 r).2.1=[] then (if c=82 then some ⟨c,(Wf.cut1 61 r).1,[]⟩ else none) else match Wf.addFds c [] (Wf.cutAt 44 (Wf.cut1 61 r).2.1) with|none=>none|some l=>if l.length<=8 then some ⟨c,(Wf.cut1 61 r).1,l⟩ else none)=_;rw[if_neg hq,hcut]
   have hc:∀ wz,ML m wz->Calls Tryz.prog 68 #[.string (s.extract 1 s.size),.string ⟨#[61]⟩] wz fun e w'=>e=.returned (.tuple #[tx nm,tx rs,.bool told])/\∃ k,w'=wz.drewN k:=fun wz hz=>by
    have h:=lX (s.extract 1 s.size) 61 m wz (by rw[zaY];omega) hz;rw[hxr,hcut] at h;exact h
   cases told with
   | false =>
    refine(yY s w m hm h0 h1 hk _ _ false hc rfl).mono fun e w' ⟨he,hb⟩=>⟨hN ?_ e w' he,hb⟩;rw[hT,if_pos (.inl rfl)]
   | true =>
    have hn:=fun wz=>iU ⟨nm.toArray⟩ wz (by rw[aR];omega);rw[show(⟨nm.toArray⟩:ByteArray).data.toList=nm from rfl] at hn;cases hnm:Wf.isName nm with
    | false =>
     rw[hnm] at hn;refine(a3M s w m hm h0 h1 hk _ _ true hc rfl hn).mono fun e w' ⟨he,hb⟩=>⟨hN ?_ e w' he,hb⟩;rw[hT,if_pos (.inr hnm)]
    | true =>
     rw[hnm] at hn;rw[if_neg (by rw[hnm];decide)] at hT;have e0:∀ h,(s[0]'h).toNat=c.toNat:=by
      obtain⟨c',hc',e0⟩:=byte_at s 0 (by omega);rw[hd] at hc';have:c'=c:=(by simpa using hc'.symm);rw[this] at e0;exact e0
     by_cases hrs:rs=[]
     ·rw[if_pos hrs] at hT
      have hem:(⟨rs.toArray⟩:ByteArray).toList.isEmpty=true:=(by rw[zaZ,hrs];rfl);refine(yD s w m hm h0 h1 hk _ _ true hc rfl hn hem c.toNat e0).mono fun e w' ⟨⟨b,he,g1,g2,g3,g4,g5,cs,g6⟩,hb⟩=>⟨?_,hb⟩;by_cases h82:c=82
      ·rw[if_pos h82] at hT
       refine nX hT ⟨b,by rw[he,h82];rfl,w.heap.size,none,0,cs,g1,zaA,g2,g3,g4,g5,g6,nB _ _ _ _ _ (Nat.zero_le _)⟩
      ·rw[if_neg h82] at hT
       refine gZ hT ⟨_,by rw[he,show((c.toNat:Int)==82)=false by
        have:c.toNat≠82:=fun e=>h82 (UInt8.toNat_inj.1 (by rw[e];rfl));rw[zaJ];omega]⟩
     ·rw[if_neg hrs] at hT
      have hem:(⟨rs.toArray⟩:ByteArray).toList.isEmpty=false:=(by rw[zaZ];cases hh:rs with|nil=>exact absurd hh hrs|cons a l=>rfl);have hmem:∀ x,x∈Wf.cutAt 44 rs->x.length<=1000000:=fun x hx=>by have:=cY hx;omega
      have hpl:(Wf.cutAt 44 rs).length<=1000001:=(by have:=sQ 44 rs;omega);refine(tD s w m hm h0 h1 hk _ _ hc hn hem c e0 (Wf.cutAt 44 rs) rfl hpl (fun wz hz=>nI ⟨rs.toArray⟩ 44 m wz (by rw[aR];omega) hz) (fun x hx wz hz=>?_)).mono fun e w' ⟨he,hb⟩=>⟨?_,hb⟩
      ·have:=a2R ⟨x.toArray⟩ c m wz hz (by rw[aR];exact hmem x hx)
       exact this
      ·rcases he with⟨l,h2,h3,b,h4,h5⟩|⟨h2,h3⟩
       ·rw[h2] at hT
        dsimp only at hT;rw[if_pos h3] at hT;exact nX hT ⟨b,h4,h5⟩
       ·refine gZ ?_ h3
        rw[hT];cases ha:Wf.addFds c [] (Wf.cutAt 44 rs) with
        | none=>rfl
        | some l =>
         dsimp only;rw[if_neg (by have:=h2 l ha;omega)]

theorem qV:Go.Maps.Keyed Tryz.prog 9:=Go.Maps.Keyed.of_law (Go.WideMaps.string_law Tryz.underlying9)
theorem oZ (s:ByteArray) (hs:s.size<=maxLen):keyOf Tryz.prog 9 (.string s)=some (.string s.data.toList):=Go.WideMaps.keyOf_string_mk Tryz.underlying9 hs
theorem a2B (w:World):(zeroValue 65).run Tryz.prog w=.ok (.pointer none) w:=by kernel_rfl
def ptrO:Option Nat->Value
 | some b=>ptr b
 | none=>.pointer none
theorem bB.look {w:World} {mb n:Nat} {f:List UInt8->Option Nat} (h:bB w mb n f) (s:ByteArray) (hs:s.size<=maxLen) :
  (Instr.lookup 114 (.map (some mb)) (.string s) false).run Tryz.prog w=.ok (ptrO (f s.data.toList)) w:=by
 obtain⟨D,hD,hf⟩:=h;obtain⟨v,ps,hrun,hv⟩:=hD.lookup qV Tryz.underlying114 (a2B w) (zd:=.nil) (zp:=[]) rfl (oZ s hs);have hx:=hf s.data.toList;rw[hrun];rcases wP hv with⟨b,rfl,hd⟩|⟨rfl,hd⟩
 ·rw[hd] at hx
  cases hq:f s.data.toList with
  | none=>rw[hq] at hx;simp at hx
  | some b'=>rw[hq] at hx;simp at hx;have hx:b=b':=(by omega);rw[hx];rfl
 ·rw[hd] at hx
  cases hq:f s.data.toList with
  | none=>rfl
  | some b'=>rw[hq] at hx;simp at hx
theorem bB.made (w:World):bB (w.alloc (.map #[] 0)) w.heap.size 0 fun _=>none:=⟨.map [],World.ownsMap_made w _ _ _,fun nm=>rfl⟩
theorem bB.kept {w w':World} {mb n:Nat} {f:List UInt8->Option Nat} (h:bB w mb n f) {row:Option Nat} (hg:w.grownBy w' row) (hne:some mb≠row):bB w' mb n f:=by
 obtain⟨D,hD,hf⟩:=h;exact⟨D,hD.kept hg hne,hf⟩
theorem bB.lt {w:World} {mb n:Nat} {f:List UInt8->Option Nat} (h:bB w mb n f):mb<w.heap.size:=by
 obtain⟨D,hD,hf⟩:=h;exact hD.lt
theorem bB.same {w w':World} {mb n:Nat} {f:List UInt8->Option Nat} (h:bB w mb n f) (hb:w'.heap[mb]? = w.heap[mb]?):bB w' mb n f:=by
 obtain⟨D,⟨es,clock,hb',F,hs,hD⟩,hf⟩:=h;exact⟨D,⟨es,clock,hb.trans hb',F,hs,hD⟩,hf⟩
theorem bB.below {w w':World} {mb n:Nat} {f:List UInt8->Option Nat} (h:bB w mb n f) (hb:Below w.heap.size w w'):bB w' mb n f:=h.same (hb.block mb h.lt)
def fQ (f:List UInt8->Option Nat) (nm:List UInt8) (b:Nat):List UInt8->Option Nat:=fun x=>if x=nm then some b else f x
theorem bB.put {w:World} {mb n:Nat} {f:List UInt8->Option Nat} (h:bB w mb n f) (hn:n<maxLen) (s:ByteArray) (hs:s.size<=maxLen) (b:Nat) :
  ∃ w',(Instr.mapUpdate 114 (.map (some mb)) (.string s) (ptr b)).run Tryz.prog w=.ok () w'/\bB w' mb (n+1) (fQ f s.data.toList b)/\w.grownBy w' (some mb):=by
 obtain⟨D,hD,hf⟩:=h;obtain⟨w',hrun,h1,h2⟩:=hD.update qV Tryz.underlying114 hn (oZ s hs) (val:=ptr b) (d:=.lit (.int .i64 b)) (ps:=[]) rfl;refine⟨w',hrun,⟨_,h1,fun nm=>?_⟩,h2⟩;unfold fQ;by_cases hnm:nm=s.data.toList
 ·rw[if_pos hnm,hnm]
  exact Go.Maps.atKey_put_same hD.isMap (show Go.WideAt.IsKeyLit (.string s.data.toList) from trivial) _ _
 ·rw[if_neg hnm,Go.Maps.atKey_put_other (by intro e;exact hnm (by injection e)) _ _]
  exact hf nm

def cG (acc:List Wf.Ty) (s:List UInt8):Option (List Wf.Ty):=if (Wf.cutAt 10 s).getLast? ≠ some [] then none else Wf.addTys acc (Wf.cutAt 10 s).dropLast
theorem zV (acc:List Wf.Ty):cG acc []=some acc:=by
 unfold cG;rw[if_neg (by simp[Wf.cutAt])];rfl
theorem wM {acc:List Wf.Ty} {s:List UInt8} (hs:s≠[]) (h:(Wf.cut1 10 s).2.2=false):cG acc s=none:=by
 unfold cG;rw[(Wf.dX h).2.2.2,if_pos (by simp;exact hs)]
theorem linesQ_step {acc:List Wf.Ty} {s:List UInt8} (h:(Wf.cut1 10 s).2.2=true):cG acc s=if acc.length=8 then none else match Wf.lineTy (Wf.cut1 10 s).1 with
  | none=>none
  | some t=>if acc.any (fun u=>u.name==t.name) then none else cG (acc++[t]) (Wf.cut1 10 s).2.1:=by
 have hc:=(Wf.eB h).2.2;have hne:=Wf.cD 10 (Wf.cut1 10 s).2.1;unfold cG;rw[hc];obtain⟨a,l,hl⟩:∃ a l,Wf.cutAt 10 (Wf.cut1 10 s).2.1=a::l:=by
  cases hh:Wf.cutAt 10 (Wf.cut1 10 s).2.1 with
  | nil=>exact absurd hh hne
  | cons a l=>exact⟨a,l,rfl⟩
 rw[hl,List.getLast?_cons_cons,List.dropLast_cons_of_ne_nil (by simp),Wf.addTys];by_cases h1:(a::l).getLast? ≠ some []
 ·rw[if_pos h1]
  split
  ·rfl
  ·cases Wf.lineTy (Wf.cut1 10 s).1 with
   | none=>rfl
   | some t=>simp[h1]
 ·rw[if_neg h1]
  split
  ·rfl
  ·cases Wf.lineTy (Wf.cut1 10 s).1 with
   | none=>rfl
   | some t=>simp[h1]
def cL (x:List Wf.Ty) (bs:List Nat) (nm:List UInt8):Option Nat:=((x.zip bs).find? (fun p=>p.1.name==nm)).map (·.2)
theorem sE {x:List Wf.Ty} {bs:List Nat} (hl:bs.length=x.length) {nm:List UInt8} {t:Wf.Ty} (h:List.find? (fun t=>t.name==nm) x=some t):∃ (i:Nat) (h1:i<x.length) (h2:i<bs.length),x[i]=t/\cL x bs nm=some bs[i]:=by
 induction x generalizing bs with
 | nil=>simp at h
 | cons u x ih =>
  cases bs with
  | nil=>simp at hl
  | cons b bs =>
   unfold cL;rw[List.zip_cons_cons,List.find?_cons];rw[List.find?_cons] at h;cases hu:u.name==nm with
   | true =>
    rw[hu] at h;simp only[zaE] at h;exact⟨0,by simp,by simp,by simpa using h,by simp[hu]⟩
   | false =>
    rw[hu] at h;obtain⟨i,h1,h2,h3,h4⟩:=ih (bs:=bs) (by simpa using hl) h;refine⟨i+1,by simpa using h1,by simpa using h2,by simpa using h3,?_⟩;simp only[hu];unfold cL at h4;rw[h4];rfl
theorem sN {x:List Wf.Ty} {bs:List Nat} {nm:List UInt8} (h:List.find? (fun t=>t.name==nm) x=none):cL x bs nm=none:=by
 unfold cL;rw[List.find?_eq_none] at h;rw[Option.map_eq_none_iff,List.find?_eq_none];intro p hp;exact h p.1 (List.of_mem_zip hp).1
theorem tA {x:List Wf.Ty} {bs:List Nat} (hl:bs.length=x.length) {t:Wf.Ty} {b:Nat} (h:x.any (fun u=>u.name==t.name)=false):cL (x++[t]) (bs++[b])=fQ (cL x bs) t.name b:=by
 funext nm
 unfold cL fQ;rw[List.zip_append hl.symm,List.find?_append];by_cases hn:nm=t.name
 ·subst hn
  rw[if_pos rfl];have:List.find? (fun p=>p.1.name==t.name) (x.zip bs)=none:=by
   rw[List.find?_eq_none];intro p hp;rw[List.any_eq_false] at h;exact h p.1 (List.of_mem_zip hp).1
  rw[this];simp
 ·rw[if_neg hn]
  have:List.find? (fun p:Wf.Ty × Nat=>p.1.name==nm) ([t].zip [b])=none:=by
   simp;exact fun e=>hn e.symm
  rw[this,Option.or_none]
def ScL (w:World) (lo sb:Nat) (x:Wf.Sc):Prop:=∃ mb n rb a c bs,lo<=sb/\lo<=mb/\lo<=rb/\sb<w.heap.size/\w.cell? ⟨sb,0,none⟩=some (.slice a x.length c)/\w.cell? ⟨sb,1,none⟩=some (.map (some mb))/\aH w rb (.slice a x.length c) (bs.map ptr)/\bB w mb n (cL x bs)/\bs.length=x.length/\bs.Pairwise (· < ·)/\∀ i (h1:i<bs.length) (h2:i<x.length),TyL w lo bs[i] x[i]
theorem ScL.keep {w w':World} {lo sb:Nat} {x:Wf.Sc} (h:ScL w lo sb x) (hs:w.heap.size<=w'.heap.size) (hk:∀ y,lo<=y->y<w.heap.size->w'.heap[y]? = w.heap[y]?):ScL w' lo sb x:=by
 obtain⟨mb,n,rb,a,c,bs,h1,h2,h2',h3,c0,c1,hr,hm,hl,hp,ht⟩:=h;have cc:=fun o=>zbJ (w:=w) (w':=w') (a:=⟨sb,o,none⟩) (hk sb h1 h3);exact⟨mb,n,rb,a,c,bs,h1,h2,h2',zaC h3 hs,(cc 0).trans c0,(cc 1).trans c1,hr.keep hs fun hx=>hk rb h2' hx,hm.same (hk mb h2 hm.lt),hl,hp,fun i g1 g2=>(ht i g1 g2).keep hs hk⟩
theorem ScL.below {w w':World} {lo sb:Nat} {x:Wf.Sc} (h:ScL w lo sb x) (hb:Below w.heap.size w w'):ScL w' lo sb x:=h.keep hb.size fun y _ hy=>hb.block y hy
theorem ScL.lt {w:World} {lo sb:Nat} {x:Wf.Sc} (h:ScL w lo sb x):sb<w.heap.size:=by obtain⟨_,_,_,_,_,_,_,_,_,h3,_⟩:=h;exact h3
theorem ScL.mono {w:World} {lo lo' sb:Nat} {x:Wf.Sc} (h:ScL w lo sb x) (hl:lo'<=lo):ScL w lo' sb x:=by
 obtain⟨mb,n,rb,a,c,bs,h1,h2,h2',h3,c0,c1,hr,hm,hl',hp,ht⟩:=h;exact⟨mb,n,rb,a,c,bs,by omega,by omega,by omega,h3,c0,c1,hr,hm,hl',hp,fun i g1 g2=>(ht i g1 g2).mono hl⟩
theorem ScL.named {w:World} {lo sb:Nat} {x:Wf.Sc} (h:ScL w lo sb x):∃ mb,sb<w.heap.size/\w.cell? ⟨sb,1,none⟩=some (.map (some mb))/\∀ s:ByteArray,s.size<=1048576 ->
  ((x.find s.data.toList=none/\∀ wz,Below w.heap.size w wz->(Instr.lookup 114 (.map (some mb)) (.string s) false).run Tryz.prog wz=.ok (.pointer none) wz) \/
   ∃ t b,x.find s.data.toList=some t/\TyL w lo b t/\∀ wz,Below w.heap.size w wz->(Instr.lookup 114 (.map (some mb)) (.string s) false).run Tryz.prog wz=.ok (ptr b) wz):=by
 obtain⟨mb,n,rb,a,c,bs,h1,h2,h2',h3,c0,c1,hr,hm,hl,hp,ht⟩:=h;refine⟨mb,h3,c1,fun s hs=>?_⟩;have hlk:=fun wz (hb:Below w.heap.size w wz)=>(hm.below hb).look s (by unfold maxLen;omega);cases hf:x.find s.data.toList with
 | none =>
  left
  refine⟨rfl,fun wz hb=>?_⟩;rw[hlk wz hb,sN hf];rfl
 | some t =>
  right
  obtain⟨i,g1,g2,g3,g4⟩:=sE hl hf;refine⟨t,bs[i],rfl,by rw[<-g3];exact ht i g2 g1,fun wz hb=>?_⟩;rw[hlk wz hb,g4];rfl
theorem ScL.types {w:World} {lo sb:Nat} {x:Wf.Sc} (h:ScL w lo sb x):∃ rb a c,sb<w.heap.size/\w.cell? ⟨sb,0,none⟩=some (.slice a x.length c)/\x.length<=c/\c<=maxLen/\∀ i (h1:i<x.length),∃ o b,a=some ⟨rb,o,none⟩/\rb<w.heap.size/\w.cell? ⟨rb,o+i,none⟩=some (ptr b)/\TyL w lo b x[i]:=by
 obtain⟨mb,n,rb,a,c,bs,h1,h2,h2',h3,c0,c1,hr,hm,hl,hp,ht⟩:=h;obtain⟨a',cap,e1,e2,e3,e4⟩:=hr;simp only[Value.slice.injEq] at e1;obtain⟨rfl,e1,rfl⟩:=e1;refine⟨rb,a,c,h3,c0,by omega,e3,fun i hi=>?_⟩;have hib:i<bs.length:=by omega
 rcases e4 with e4|⟨o,g1,g2,g3⟩
 ·rw[List.map_eq_nil_iff] at e4;rw[e4] at hib;simp at hib
 ·have:=(g3 i (by rw[zaG];exact hib)).1
  rw[zaR] at this;exact⟨o,bs[i],g1,g2,this,ht i hib hi⟩

def TyP (w:World) (P:Nat->Prop) (b:Nat) (t:Wf.Ty):Prop:=∃ fb a c line,P b/\P fb/\b<w.heap.size/\fb<w.heap.size/\w.cell? ⟨b,0,none⟩=some (.int .u8 t.sort.toNat)/\w.cell? ⟨b,1,none⟩=some (tx t.name)/\w.cell? ⟨b,2,none⟩=some (.slice a t.fields.length c)/\w.heap[b]? = some (.cells line 70 (0,0))/\RowK w fb (.slice a t.fields.length c) 6 (t.fields.map (fdC t.sort))
theorem TyP.keep {w w':World} {P Q:Nat->Prop} {b:Nat} {t:Wf.Ty} (h:TyP w P b t) (hs:w.heap.size<=w'.heap.size) (hk:∀ x,P x->x<w.heap.size->Q x/\w'.heap[x]? = w.heap[x]?):TyP w' Q b t:=by
 obtain⟨fb,a,c,line,h1,h2,h3,h4,c0,c1,c2,c3,hr⟩:=h;have hb:=hk b h1 h3;have hf:=hk fb h2 h4;have cc:=fun o=>zbJ (w:=w) (w':=w') (a:=⟨b,o,none⟩) hb.2;exact⟨fb,a,c,line,hb.1,hf.1,zaC h3 hs,zaC h4 hs,(cc 0).trans c0,(cc 1).trans c1,(cc 2).trans c2,hb.2.trans c3,hr.keep hs fun hx=>hf.2⟩
theorem TyP.below {w w':World} {P:Nat->Prop} {b:Nat} {t:Wf.Ty} (h:TyP w P b t) (hb:Below w.heap.size w w'):TyP w' P b t:=h.keep hb.size fun x hp hx=>⟨hp,hb.block x hx⟩
theorem TyP.toL {w:World} {P:Nat->Prop} {lo b:Nat} {t:Wf.Ty} (h:TyP w P b t) (hP:∀ y,P y->lo<=y):TyL w lo b t:=by
 obtain⟨fb,a,c,line,h1,h2,h3,h4,h5⟩:=h;exact⟨fb,a,c,line,hP b h1,hP fb h2,h3,h5⟩
theorem TyL.toP {w:World} {P:Nat->Prop} {lo b:Nat} {t:Wf.Ty} (h:TyL w lo b t) (hP:∀ y,lo<=y->y<w.heap.size->P y):TyP w P b t:=by
 obtain⟨fb,a,c,line,h1,h2,h3,c0,c1,c2,c3,hr⟩:=h;obtain⟨a',cap,e1,e2,e3,e4⟩:=hr;rcases e4 with e4|⟨o,e5,e6,e7⟩
 ·exact⟨b,a,c,line,hP b h1 h3,hP b h1 h3,h3,h3,c0,c1,c2,c3,a',cap,e1,e2,e3,.inl e4⟩
 ·exact⟨fb,a,c,line,hP b h1 h3,hP fb h2 e6,h3,e6,c0,c1,c2,c3,a',cap,e1,e2,e3,.inr ⟨o,e5,e6,e7⟩⟩
theorem TyP.lt {w:World} {P:Nat->Prop} {b:Nat} {t:Wf.Ty} (h:TyP w P b t):b<w.heap.size:=by obtain⟨_,_,_,_,_,_,h3,_⟩:=h;exact h3
structure SSt (w wr:World) (acc:List Wf.Ty) (bs:List Nat) (a:Option Addr) (c:Nat):Prop where
 below:Below w.heap.size w wr
 size:w.heap.size+2<=wr.heap.size
 c0:wr.cell? ⟨w.heap.size+1,0,none⟩=some (.slice a acc.length c)
 c1:wr.cell? ⟨w.heap.size+1,1,none⟩=some (.map (some w.heap.size))
 f0:wr.frozen? ⟨w.heap.size+1,0,none⟩=false
 own:wr.ownsRow (w.heap.size+2) 65 1 (.slice a acc.length c) acc.length (bs.map ptr)
 map:bB wr w.heap.size acc.length (cL acc bs)
 len:bs.length=acc.length
 inc:bs.Pairwise (· < ·)
 tys:∀ i (h1:i<bs.length) (h2:i<acc.length),TyP wr (fun y=>w.heap.size+2<=y/\some y≠(Value.slice a acc.length c).ownBlock) bs[i] acc[i]
 l8:acc.length<=8
section
variable {w wr:World} {acc:List Wf.Ty} {bs:List Nat} {a:Option Addr} {c:Nat}
theorem SSt.step (h:SSt w wr acc bs a c) {w2:World} (hb:Below wr.heap.size wr w2):SSt w w2 acc bs a c:=by
 have hs:=h.size;have ht:w.heap.size+1<wr.heap.size:=by omega
 refine⟨h.below.trans (hb.mono (by omega)),zaI hs hb.size,?_,?_,?_,bY h.own hb,h.map.below hb,h.len,h.inc,fun i h1 h2=>(h.tys i h1 h2).below hb,h.l8⟩
 ·exact(hb.cell (p:=⟨w.heap.size+1,0,none⟩) ht).trans h.c0
 ·exact(hb.cell (p:=⟨w.heap.size+1,1,none⟩) ht).trans h.c1
 ·exact(hb.frozen (p:=⟨w.heap.size+1,0,none⟩) ht).trans h.f0
theorem SSt.start (w:World):SSt w ((w.alloc (.map #[] 0)).alloc (.cells #[.slice none 0 0,.map (some w.heap.size)] 116)) [] [] none 0:=by
 refine⟨((zaB).alloc (zaA) _).alloc (by simp) _,by simp,by simp,by simp,by simp,World.ownsRow_nil _ _ _ _,?_,rfl,List.Pairwise.nil,fun i h1=>by simp at h1,by simp⟩;have:=(bB.made w).below ((zaB).alloc (zaA) (.cells #[.slice none 0 0,.map (some w.heap.size)] 116));exact this
theorem SSt.done (h:SSt w wr acc bs a c):ScL wr w.heap.size (w.heap.size+1) acc:=by
 have hs:=h.size;obtain⟨rb,hrb,hrow⟩:=aH.cO (by have:=h.own;rw[show acc.length=(bs.map ptr).length by rw[zaG,h.len]] at this;exact this);rw[show(bs.map ptr).length=acc.length by rw[zaG,h.len]] at hrow;exact⟨w.heap.size,_,rb,a,c,bs,by omega,zaA,by omega,by omega,h.c0,h.c1,hrow,h.map,h.len,h.inc,fun i h1 h2=>(h.tys i h1 h2).toL fun y hy=>by omega⟩
theorem SSt.put (h:SSt w wr acc bs a c) {wx w4 w5:World} (hx:Below wr.heap.size wr wx) {tb:Nat} {t:Wf.Ty} (ht:TyL wx wr.heap.size tb t) {wy:World} (hy:Below wx.heap.size wx wy) (hg:wy.grownBy w4 (Value.slice a acc.length c).ownBlock) {a':Option Addr} {c':Nat} (ho:w4.ownsRow (w.heap.size+2) 65 1 (.slice a' (acc.length+1) c') (acc.length+1) (bs.map ptr++[ptr tb]))
  (hloc:(Value.slice a' (acc.length+1) c').ownBlock=(Value.slice a acc.length c).ownBlock\/(Value.slice a' (acc.length+1) c').ownBlock=some wy.heap.size)
  (hm:bB w5 w.heap.size (acc.length+1) (fQ (cL acc bs) t.name tb)) (hg5:(w4.setCell ⟨w.heap.size+1,0,none⟩ (.slice a' (acc.length+1) c')).grownBy w5 (some w.heap.size)) (hn:acc.any (fun u=>u.name==t.name)=false) (h8:acc.length<8) :
  SSt w w5 (acc++[t]) (bs++[tb]) a' c':=by
 have hs:=h.step hx;have hs2:=hs.step hy;have hsz:=hs2.size;have hxs:=hx.size;have hys:=hy.size;have hown:=aU h.own;have hown2:=aU ho;have hb4:Below (w.heap.size+2) wy w4:=aW hg (fun g hgk=>(hown g hgk).1) hsz;have hset:Below (w.heap.size+1) w4 (w4.setCell ⟨w.heap.size+1,0,none⟩ (.slice a' (acc.length+1) c')):=zbF (p:=⟨w.heap.size+1,0,none⟩) (zaB) (zaA) _;have hss:(w4.setCell ⟨w.heap.size+1,0,none⟩ (.slice a' (acc.length+1) c')).heap.size=w4.heap.size:=by simp
 have h4s:=hb4.size;have h5s:w4.heap.size<=w5.heap.size:=by have:=hg5.size;rw[hss] at this;exact this
 have c04:w4.cell? ⟨w.heap.size+1,0,none⟩=some (.slice a acc.length c):=(hb4.cell (p:=⟨w.heap.size+1,0,none⟩) (zaH _)).trans hs2.c0;have blk:∀ y,y<w4.heap.size->y≠w.heap.size->y≠w.heap.size+1->w5.heap[y]? = w4.heap[y]?:=fun y h1 h2 h3=>(hg5.block y (by rw[hss];exact h1) (by intro e;exact h2 (Option.some.inj e))).trans (Below.heap_setCell w4 ⟨w.heap.size+1,0,none⟩ _ y h3);have far:∀ o,w5.cell? ⟨w.heap.size+1,o,none⟩=(w4.setCell ⟨w.heap.size+1,0,none⟩ (.slice a' (acc.length+1) c')).cell? ⟨w.heap.size+1,o,none⟩:=fun o=>hg5.cell_far ⟨w.heap.size+1,o,none⟩ (by rw[hss];show w.heap.size+1<w4.heap.size;omega) (by intro e;have:=Option.some.inj e;simp at this);have farf:w5.frozen? ⟨w.heap.size+1,0,none⟩=(w4.setCell ⟨w.heap.size+1,0,none⟩ (.slice a' (acc.length+1) c')).frozen? ⟨w.heap.size+1,0,none⟩:=hg5.frozen_far ⟨w.heap.size+1,0,none⟩ (by rw[hss];show w.heap.size+1<w4.heap.size;omega) (by intro e;have:=Option.some.inj e;simp at this);have hla:(acc++[t]).length=acc.length+1:=by simp
 have keepT:∀ {b u},TyP wy (fun y=>w.heap.size+2<=y/\some y≠(Value.slice a acc.length c).ownBlock) b u->TyP w5 (fun y=>w.heap.size+2<=y/\some y≠(Value.slice a' (acc.length+1) c').ownBlock) b u:=fun {b u} hT=>hT.keep (zaI h4s h5s) fun y hp hlt=>by
  refine⟨⟨hp.1,?_⟩,?_⟩
  ·rcases hloc with e|e
   ·rw[e];exact hp.2
   ·rw[e];intro e2;have:=Option.some.inj e2;omega
  ·rw[blk y (by omega) (by omega) (by omega)];exact hg.block y hlt hp.2
 have hTn:TyP wy (fun y=>w.heap.size+2<=y/\some y≠(Value.slice a acc.length c).ownBlock) tb t:=by
  refine((ht.toP (P:=fun y=>w.heap.size+2<=y/\some y≠(Value.slice a acc.length c).ownBlock) fun y h1 h2=>⟨by have:=h.size;omega,fun e=>?_⟩)).below hy;have:=(hown y e.symm).2;omega
 have h5:Below (w.heap.size+2) w4 (w4.setCell ⟨w.heap.size+1,0,none⟩ (.slice a' (acc.length+1) c'))\/True:=.inr trivial;refine⟨?_,?_,?_,?_,?_,?_,?_,?_,?_,?_,?_⟩
 ·refine((hs2.below.trans (hb4.mono (by omega))).trans (hset.mono (by omega))).grown hg5 ?_ fun k hk=>by rw[<-Option.some.inj hk];exact zaA
  rw[hss];omega
 ·omega
 ·rw[hla,far 0];exact zbC w4 _ _ c04
 ·rw[far 1];exact(zbA w4 _ _ _ (by simp)).trans ((hb4.cell (p:=⟨w.heap.size+1,1,none⟩) (zaH _)).trans hs2.c1)
 ·rw[farf]
  have:=(hb4.frozen (p:=⟨w.heap.size+1,0,none⟩) (zaH _)).trans hs2.f0;simpa using this
 ·rw[hla,List.map_append,List.map_singleton]
  exact(ownsRow_setCell_below ho (by show w.heap.size+1<_;omega) _).kept hg5 (.inr fun e=>by have:=(hown2 _ e).1;omega)
 ·rw[hla,tA h.len hn];exact hm
 ·rw[hla,zaD,h.len];rfl
 ·rw[List.pairwise_append]
  refine⟨h.inc,by simp,fun b hb b' hb'=>?_⟩;obtain⟨i,hi,rfl⟩:=List.mem_iff_getElem.1 hb;rw[List.mem_singleton.1 hb'];have:=(h.tys i hi (by rw[<-h.len];exact hi)).lt;have:=ht.le;omega
 ·intro i h1 h2
  rw[hla];by_cases hi:i<acc.length
  ·have hib:i<bs.length:=by rw[h.len];exact hi
   rw[List.getElem_append_left hib,List.getElem_append_left hi];exact keepT (hs2.tys i hib hi)
  ·have hie:i=acc.length:=by rw[hla] at h2;omega
   have e1:(bs++[tb])[i]=tb:=by
    rw[List.getElem_append_right (by rw[h.len];omega)];simp
   have e2:(acc++[t])[i]=t:=by
    rw[List.getElem_append_right (by omega)];simp
   rw[e1,e2];exact keepT hTn
 ·rw[hla];omega
end

theorem has (x:Wf.Sc) (lo sb:Nat) (k:Wf.K) (W w:World) (hW:Below W.heap.size W w) (H:ScL W lo sb x) (hk:k.name.length<=1000000):Calls Tryz.prog 56 #[ptr sb,kV k] w fun e w'=>e=.returned (.bool (Wf.aL x k))/\Below w.heap.size w w':=by
 obtain⟨mb,hsb,hc1,hnm⟩:=H.named;obtain⟨BS,hBS⟩:∃ BS:ByteArray,(⟨k.base.toArray⟩:ByteArray)=BS:=⟨_,rfl⟩;obtain⟨NM,hNM⟩:∃ NM:ByteArray,(⟨k.name.toArray⟩:ByteArray)=NM:=⟨_,rfl⟩;obtain⟨SG,hSG⟩:∃ SG:ByteArray,(⟨k.signs.toArray⟩:ByteArray)=SG:=⟨_,rfl⟩;have hkv:kV k=.agg #[.string SG,.string BS,.string NM]:=by rw[kV,tx,tx,tx,hBS,hNM,hSG]
 rw[hkv];have hsw:sb<w.heap.size:=zaC hsb hW.size;have y1:w.cell? ⟨sb,1,none⟩=some (.map (some mb)):=(hW.cell (p:=⟨sb,1,none⟩) hsb).trans hc1;have hs6:NM.size<=1000000:=by rw[<-hNM,aR];exact hk
 have hnd:NM.data.toList=k.name:=by rw[<-hNM]
 have hlk:=hnm NM (by omega);rw[hnd] at hlk;cases hb:(BS.toList==[64]) with
 | false =>
  have HR:=hid (show true=Wf.aL x k by
   unfold Wf.aL;rw[decide_eq_true,Bool.true_or];intro e;rw[<-hBS,zaZ,e] at hb;cases hb)
  clear hlk hnm hnd hkv hc1;go_enter Tryz.func56,Tryz.ntmps56;go_wp2_with fail
  go_region
  all_goals go_wp2_with fail
  all_goals go_ret
  all_goals exact⟨aN HR.out,by repeat (first|with_reducible exact zaB|with_reducible refine zbE ?_|with_reducible refine zbG ?_ (by first|exact zaA|(simp;done)) _)⟩
 | true =>
  have hbase:k.base=[64]:=by
   have:BS.toList=[64]:=(by simpa using hb);rw[<-hBS,zaZ] at this;exact this
  rcases hlk with⟨hf,hl⟩|⟨t,b,hf,_,hl⟩
  ·have HR:=hid (show false=Wf.aL x k by
    unfold Wf.aL;rw[hf,hbase];rfl)
   have l0:=fun o=>hl (w.alloc o) (hW.alloc hW.size o);have l1:=fun o=>hl (w.alloc o).drew (hW.alloc hW.size o).drew;clear hl hnm hnd hkv hc1;go_enter Tryz.func56,Tryz.ntmps56;go_wp2_with fail
   go_region
   all_goals go_wp2_with fail
   all_goals go_ret
   all_goals exact⟨aN HR.out,by repeat (first|with_reducible exact zaB|with_reducible refine zbE ?_|with_reducible refine zbG ?_ (by first|exact zaA|(simp;done)) _)⟩
  ·have HR:=hid (show true=Wf.aL x k by
    unfold Wf.aL;rw[hf];simp)
   have l0:=fun o=>hl (w.alloc o) (hW.alloc hW.size o);have l1:=fun o=>hl (w.alloc o).drew (hW.alloc hW.size o).drew;clear hl hnm hnd hkv hc1;go_enter Tryz.func56,Tryz.ntmps56;go_wp2_with fail
   go_region
   all_goals go_wp2_with fail
   all_goals go_ret
   all_goals exact⟨aN HR.out,by repeat (first|with_reducible exact zaB|with_reducible refine zbE ?_|with_reducible refine zbG ?_ (by first|exact zaA|(simp;done)) _)⟩
theorem TyL.first {w:World} {lo b:Nat} {t:Wf.Ty} (h:TyL w lo b t) (h69:t.sort≠69) {f:Wf.Fd} {fs:List Wf.Fd} (hf:t.fields=f::fs):∃ fb o n c,fb<w.heap.size/\0<n/\n<=c/\c<=maxLen/\w.cell? ⟨b,2,none⟩=some (.slice (some ⟨fb,o,none⟩) n c)/\w.cell? ⟨fb,o,none⟩=some (.int .i64 f.tag)/\w.cell? ⟨fb,o+2,none⟩=some (tx f.kind.signs)/\w.cell? ⟨fb,o+3,none⟩=some (tx f.kind.base)/\w.cell? ⟨fb,o+4,none⟩=some (tx f.kind.name):=by
 obtain⟨fb,a,c,line,_,_,_,_,_,c2,_,hr⟩:=h;have hl:0<(t.fields.map (fdC t.sort)).length:=by rw[zaG,hf];simp
 obtain⟨o,rfl,hfb,hn,hc,hcell⟩:=hr.get (i:=0) hl;have e0:(t.fields.map (fdC t.sort))[0]'hl=fdC t.sort f:=by simp[hf]
 rw[e0] at hcell;have e1:fdC t.sort f=[.int .i64 f.tag,tx f.name,tx f.kind.signs,tx f.kind.base,tx f.kind.name,tx f.given]:=by unfold fdC;rw[if_neg h69]
 rw[e1] at hcell;have g:=fun j u hj hu=>hcell j u hj hu;simp only[Nat.zero_mul,Nat.add_zero] at g;exact⟨fb,o,t.fields.length,c,hfb,by rw[hf];simp,hn,hc,c2,g 0 _ (by decide) rfl,g 2 _ (by decide) rfl,g 3 _ (by decide) rfl,g 4 _ (by decide) rfl⟩
theorem TyL.sort {w:World} {lo b:Nat} {t:Wf.Ty} (h:TyL w lo b t):b<w.heap.size/\w.cell? ⟨b,0,none⟩=some (.int .u8 t.sort.toNat):=by
 obtain⟨_,_,_,_,_,_,h3,c0,_⟩:=h;exact⟨h3,c0⟩
theorem tZ {x:Wf.Sc} {m:Nat} {t:Wf.Ty} {f:Wf.Fd} {fs:List Wf.Fd} (h:t.sort=85) (hf:t.fields=f::fs):Wf.endsIn x (m+1) t=match f.kind with | .ref nm=>(match x.find nm with|none=>true|some u=>Wf.endsIn x m u)|_=>true:=by
 rw[Wf.endsIn,if_neg (by rw[h];decide),hf];obtain⟨tag,name,kind,given⟩:=f;cases kind <;> rfl
def lC (x:Wf.Sc) (W:World) (lo b:Nat) (u:Wf.Ty) (n:Nat) (E:Bool):Prop:=TyL W lo b u/\E=Wf.endsIn x (9-n) u/\u∈x
theorem ends (x:Wf.Sc) (lo sb:Nat) (W w:World) (hW:Below W.heap.size W w) (H:ScL W lo sb x) (hx:∀ u∈x,(u.sort=85->u.fields≠[])/\∀ f∈u.fields,f.kind.name.length<=1000000) (hr:Wf.cC x=true) (t:Wf.Ty) (ht:t∈x) (tb:Nat) (hT:TyL W lo tb t) :
  Calls Tryz.prog 70 #[ptr sb,ptr tb] w fun e w'=>e=.returned (.bool (Wf.endsIn x 9 t))/\Below w.heap.size w w':=by
 obtain⟨mb,hsb,hc1,hnm⟩:=H.named;have HNM:=hid hnm;have HX:=hid hx;have HR:=hid hr;have HW:=hid hW;obtain⟨E,hE⟩:∃ E,Wf.endsIn x 9 t=E:=⟨_,rfl⟩;rw[hE];have H0:=hid (show lC x W lo tb t 0 E from⟨hT,hE.symm,ht⟩);have HC1:=hid hc1;clear hnm hx hr hE hT ht hW hc1;go_enter Tryz.func70,Tryz.ntmps70;go_wp2_with fail
 go_loopw [1,6] (fun v1 v6 wr=>∃ (b n:Nat) (u:Wf.Ty),v1=ptr b/\v6=.int .i64 n/\n<=9/\Hid (lC x W lo b u n E)/\Hid (Below w.heap.size w wr)) (fun _ v6 _=>9-(RowKit.intOf v6).toNat)
 case atStart=>exact⟨tb,0,t,rfl,rfl,by omega,H0,hid (zaB)⟩
 case round =>
  obtain⟨b,n,u,rfl,rfl,hn,hst,hbr⟩:=hrel;have hWr:=HW.out.trans (hbr.out.mono HW.out.size);obtain⟨hbW,s0⟩:=hst.out.1.sort;have y0:=(hWr.cell (p:=⟨b,0,none⟩) hbW).trans s0;obtain⟨q,hq⟩:∃ q,u.sort.toNat=q:=⟨_,rfl⟩;rw[hq] at y0;have HQ:=hid hq;clear s0 hq;by_cases hn9:n<9
  ·by_cases h85:q=85
   ·have hs85:u.sort=85:=UInt8.toNat_inj.1 (by rw[HQ.out,h85];rfl)
    obtain⟨f,fs,hfs⟩:∃ f fs,u.fields=f::fs:=by
     cases hh:u.fields with
     | nil=>exact absurd hh ((HX.out u hst.out.2.2).1 hs85)
     | cons f fs=>exact⟨f,fs,rfl⟩
    have hE:=tZ (x:=x) (m:=8-n) hs85 hfs;rw[show 8-n+1=9-n by omega,<-hst.out.2.1] at hE;have HE:=hid hE;have hfm:f∈u.fields:=(by rw[hfs];simp);have hnl:=(HX.out u hst.out.2.2).2 f hfm;have hhas:Wf.aL x f.kind=true:=by
     have:=HR.out;unfold Wf.cC at this;rw[List.all_eq_true] at this;have h1:=this u hst.out.2.2;rw[hs85,show decide ((85:UInt8)=69)=false from rfl,Bool.false_or,List.all_eq_true] at h1;exact h1 f hfm
    obtain⟨fb,o,ln,c,hfb,h0n,hnc,hcm,f2,_,k0,k1,k2⟩:=hst.out.1.first (by rw[hs85];decide) hfs;have y2:=(hWr.cell (p:=⟨b,2,none⟩) hbW).trans f2;have z0:=(hWr.cell (p:=⟨fb,o+2,none⟩) hfb).trans k0;have z1:=(hWr.cell (p:=⟨fb,o+3,none⟩) hfb).trans k1;have z2:=(hWr.cell (p:=⟨fb,o+4,none⟩) hfb).trans k2;obtain⟨SG,hSG⟩:∃ SG:ByteArray,(⟨f.kind.signs.toArray⟩:ByteArray)=SG:=⟨_,rfl⟩;obtain⟨BS,hBS⟩:∃ BS:ByteArray,(⟨f.kind.base.toArray⟩:ByteArray)=BS:=⟨_,rfl⟩;obtain⟨NM,hNM⟩:∃ NM:ByteArray,(⟨f.kind.name.toArray⟩:ByteArray)=NM:=⟨_,rfl⟩;rw[tx,hSG] at z0;rw[tx,hBS] at z1;rw[tx,hNM] at z2;have HWR:=hid hWr;have hsw:sb<wr.heap.size:=zaC hsb hWr.size;have ysb:=(hWr.cell (p:=⟨sb,1,none⟩) hsb).trans HC1.out;have hfw:fb<wr.heap.size:=zaC hfb hWr.size;clear k0 k1 k2 f2 hfs hfm hE hWr;subst h85;cases hsg:SG.toList.isEmpty with
    | false =>
     have HF:=hid (show true=E by
      rw[HE.out];cases hk:f.kind with
      | ref nm=>rw[hk] at hSG;rw[<-hSG,zaZ] at hsg;cases hsg
      | _=>rfl)
     clear hhas;go_wp2_with fail
     go_ret
     exact⟨aN HF.out,by have B:=hbr.out;repeat (first|with_reducible exact B|with_reducible refine zbG ?_ (by first|exact B.size|(simp;done)|(simp;omega)) _)⟩
    | true =>
     cases hbs:(BS.toList==[64]) with
     | false =>
      have HF:=hid (show true=E by
       rw[HE.out];cases hk:f.kind with
       | ref nm=>rw[hk] at hBS;rw[<-hBS,zaZ] at hbs;cases hbs
       | _=>rfl)
      clear hhas;go_wp2_with fail
      go_ret
      exact⟨aN HF.out,by have B:=hbr.out;repeat (first|with_reducible exact B|with_reducible refine zbG ?_ (by first|exact B.size|(simp;done)|(simp;omega)) _)⟩
     | true =>
      have hkr:f.kind=.ref f.kind.name:=by
       have e1:f.kind.signs=[]:=(by rw[<-hSG,zaZ] at hsg;simpa using hsg);have e2:f.kind.base=[64]:=(by rw[<-hBS,zaZ] at hbs;simpa using hbs);cases hk:f.kind with
       | ref nm=>rfl
       | num=>rw[hk] at e2;cases e2
       | txt=>rw[hk] at e2;cases e2
       | flag=>rw[hk] at e2;cases e2
       | list k=>rw[hk] at e1;cases e1
       | opt k=>rw[hk] at e1;cases e1
      have hnd:NM.data.toList=f.kind.name:=(by rw[<-hNM]);rcases HNM.out NM (by rw[<-hNM,aR];omega) with⟨hf0,_⟩|⟨u',b',hf1,hT',hl⟩
      ·rw[hnd] at hf0
       rw[hkr] at hhas;unfold Wf.aL at hhas;simp only[Wf.K.name,hf0] at hhas;cases hhas
      ·rw[hnd] at hf1
       have HST:=hid (show lC x W lo b' u' (n+1) E from⟨hT',by
        have h:=HE.out;rw[hkr] at h;dsimp only at h;rw[hf1] at h;rw[show 9-(n+1)=8-n by omega];exact h,(Wf.cE hf1).1⟩)
       have l0:=fun o=>hl (wr.alloc o) (HWR.out.alloc HWR.out.size o);have l1:=fun o=>hl (wr.alloc o).drew (HWR.out.alloc HWR.out.size o).drew;clear hl hhas hkr hT' hf1;go_wp2_with fail
       go_region
       all_goals go_wp2_with fail
       all_goals go_roundw
       case rel=>exact⟨b',n+1,u',rfl,by go_num,by omega,HST,hid (by have B:=hbr.out;repeat (first|with_reducible exact B|with_reducible refine zbE ?_|with_reducible refine zbG ?_ (by first|exact B.size|(simp;done)|(simp;omega)) _))⟩
       case measure=>simp[RowKit.intOf];omega
   ·have t85:((q:Int) != 85)=true:=by rw[bne_iff_ne];omega
    have HF:=hid (show true=E by
     rw[hst.out.2.1,show 9-n=(8-n)+1 by omega,qT (fun h=>h85 (by rw[<-HQ.out,h];rfl))])
    go_wp2_with fail
    go_ret
    exact⟨aN HF.out,hbr.out⟩
  ·have hn2:n=9:=by omega
   subst hn2;have HF:=hid (show false=E by rw[hst.out.2.1,Nat.sub_self];rfl);go_wp2_with fail
   go_ret
   exact⟨aN HF.out,hbr.out⟩
