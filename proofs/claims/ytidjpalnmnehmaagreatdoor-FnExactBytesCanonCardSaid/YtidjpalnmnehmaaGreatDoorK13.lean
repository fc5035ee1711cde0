/- Packed. -/
import Derived.Test.YtidjpalnmnehmaaGreatDoorK11
import Derived.Test.YtidjpalnmnehmaaGreatDoorK12
import Derived.Test.YtidjpalnmnehmaaGreatDoorK9
set_option maxRecDepth 99999
set_option maxHeartbeats 40000000
set_option linter.all false
namespace Go.Proofs.YtidjpalnmnehmaaGreatDoor
open Go.ChangeShapes Go.WideShapes Go.ChangeAt Go.RowKit Go.Lib
theorem cY {c:UInt8} {p:List UInt8}:∀ {l:List UInt8},p∈Wf.cutAt c l->p.length<=l.length:=by
 intro l;induction l generalizing p with
 | nil=>intro h;simp[Wf.cutAt] at h;subst h;simp
 | cons a r ih =>
  intro h;simp only[Wf.cutAt] at h;by_cases ha:a=c
  ·rw[if_pos ha] at h
   rcases List.mem_cons.1 h with h|h
   ·subst h;simp
   ·have:=ih h;simp;omega
  ·rw[if_neg ha] at h
   cases hr:Wf.cutAt c r with
   | nil=>rw[hr] at h;simp at h;subst h;simp
   | cons q qs =>
    rw[hr] at h;rcases List.mem_cons.1 h with h|h
    ·subst h
     have:=@ih q (by rw[hr];exact List.mem_cons_self ..);simp;omega
    ·have:=@ih p (by rw[hr];exact List.mem_cons_of_mem _ h)
     simp;omega
def cX (sort:UInt8) (l:List UInt8) (e:Ending):Prop:=match Wf.fdB sort l with
 | some f=>e=.returned (.tuple #[.agg (fdS sort f).toArray,.bool true])
 | none=>∃ (t:Int) (a b c:ByteArray),e=.returned (.tuple #[.agg #[.int .i64 t,.string a,.string b,.string c],.bool false])
theorem mM {sort:UInt8} {l:List UInt8} {f:Wf.Fd} {e:Ending} (h:Wf.fdB sort l=some f) (he:e=.returned (.tuple #[.agg (fdS sort f).toArray,.bool true])):cX sort l e:=by
 unfold cX;rw[h];exact he
theorem cV {sort:UInt8} {l:List UInt8} {e:Ending} (h:Wf.fdB sort l=none) (he:∃ (t:Int) (a b c:ByteArray),e=.returned (.tuple #[.agg #[.int .i64 t,.string a,.string b,.string c],.bool false])):cX sort l e:=by
 unfold cX;rw[h];exact he
theorem sG (p:List UInt8) (hp:p.length<=2000000):(Wf.aI p 200=none/\∀ w,Calls Tryz.prog 52 #[tx p,.int .i64 200] w fun e w'=>(∃ m:Int,e=.returned (.tuple #[.int .i64 m,.bool false]))/\Below w.heap.size w w')\/∃ t:Nat,Wf.aI p 200=some t/\∀ w,Calls Tryz.prog 52 #[tx p,.int .i64 200] w fun e w'=>e=.returned (.tuple #[.int .i64 t,.bool true])/\Below w.heap.size w w':=by
 have H:=fun w=>gJ ⟨p.toArray⟩ 200 (by decide) w (by rw[aR];omega);cases h:Wf.aI p 200 with
 | none=>exact .inl ⟨rfl,fun w=>(H w).mono fun e w' ⟨ho,hb⟩=>⟨by unfold aZ at ho;rw[show(⟨p.toArray⟩:ByteArray).data.toList=p from rfl,h] at ho;exact ho,hb⟩⟩
 | some t=>exact .inr ⟨t,rfl,fun w=>(H w).mono fun e w' ⟨ho,hb⟩=>⟨by unfold aZ at ho;rw[show(⟨p.toArray⟩:ByteArray).data.toList=p from rfl,h] at ho;exact ho,hb⟩⟩
theorem tV (s:ByteArray) (sort:UInt8) (w:World) (hs:s.size<=1000000):Calls Tryz.prog 147 #[.string s,.int .u8 sort.toNat] w fun e w'=>cX sort s.data.toList e/\Below w.heap.size w w':=by
 have hl:=aE s;have hcut:∀ w,Calls Tryz.prog 118 #[.string s,.int .u8 58] w fun e w'=>bA w (Wf.cutAt 58 s.data.toList) e w':=fun w=>iZ s 58 (by omega) w;have hmem:∀ p,p∈Wf.cutAt 58 s.data.toList->p.length<=1000000:=fun p hp=>by have:=cY hp;omega
 have hsn:sort=69\/(sort≠69/\(((sort.toNat:Int)==69)=false)/\(((sort.toNat:Int) != 69)=true)):=by
  by_cases h:sort=69
  ·exact .inl h
  ·have:sort.toNat≠69:=fun e=>h (UInt8.toNat_inj.1 (by rw[e];rfl))
   exact .inr ⟨h,by rw[zaJ];omega,by rw[bne_iff_ne];omega⟩
 have bad:∀ n,(Wf.cutAt 58 s.data.toList).length=n->(sort≠69/\n≠3\/sort=69/\n≠2)->Wf.fdB sort s.data.toList=none->Calls Tryz.prog 147 #[.string s,.int .u8 sort.toNat] w fun e w'=>cX sort s.data.toList e/\Below w.heap.size w w':=by
  intro n hn hc hf;refine(vC s sort.toNat n _ hn ?_ w hcut).mono fun e w' ⟨he,hb⟩=>⟨cV hf ⟨_,_,_,_,he⟩,hb⟩;rcases hc with⟨h1,h2⟩|⟨h1,h2⟩
  ·rcases hsn with h|⟨_,_,h⟩
   ·exact absurd h h1
   ·exact .inl ⟨by rw[bne_iff_ne];omega,h⟩
  ·exact .inr ⟨by rw[bne_iff_ne];omega,by rw[h1];rfl⟩
 have hf0:Wf.fdB sort s.data.toList=Wf.fdB sort s.data.toList:=rfl;match hps:Wf.cutAt 58 s.data.toList with
 | []=>exact absurd hps (Wf.cD _ _)
 | [p]=>exact bad 1 (by rw[hps];rfl) (hsn.elim (fun h=>.inr ⟨h,by decide⟩) (fun h=>.inl ⟨h.1,by decide⟩)) (by unfold Wf.fdB;rw[hps])
 | p::q::r::u::us=>exact bad _ (by rw[hps]) (hsn.elim (fun h=>.inr ⟨h,by simp⟩) (fun h=>.inl ⟨h.1,by simp⟩)) (by unfold Wf.fdB;rw[hps])
 | [p,q] =>
  rw[hps] at hcut hmem;rcases hsn with h69|⟨h69,_,_⟩
  ·subst h69
   have hf:Wf.fdB 69 s.data.toList=match Wf.aI p 200 with|none=>none|some tag=>if tag<1\/Wf.isName q=false then none else some ⟨tag,q,.num,[]⟩:=by
    unfold Wf.fdB;rw[hps];rfl
   rcases sG p (by have:=hmem p (by simp);omega) with⟨hn,HN⟩|⟨t,hn,HN⟩
   ·rw[hn] at hf
    exact(yF s p q w hcut HN).mono fun e w' ⟨⟨m,he⟩,hb⟩=>⟨cV hf ⟨_,_,_,_,he⟩,hb⟩
   ·rw[hn] at hf
    dsimp only at hf;by_cases ht:t<1
    ·rw[if_pos (.inl ht)] at hf
     exact(wB s p q w hcut t HN ht).mono fun e w' ⟨he,hb⟩=>⟨cV hf ⟨_,_,_,_,he⟩,hb⟩
    ·have HM:=fun w=>iS ⟨q.toArray⟩ w (by rw[aR];have:=hmem q (by simp);omega)
     cases hq:Wf.isName q with
     | false =>
      rw[if_pos (.inr hq)] at hf;rw[show(⟨q.toArray⟩:ByteArray).data.toList=q from rfl,hq] at HM;exact(zI s p q w hcut t HN (by omega) HM).mono fun e w' ⟨he,hb⟩=>⟨cV hf ⟨_,_,_,_,he⟩,hb⟩
     | true =>
      rw[if_neg (by rw[hq];simp;omega)] at hf;rw[show(⟨q.toArray⟩:ByteArray).data.toList=q from rfl,hq] at HM;exact(a0D s p q w hcut t HN (by omega) HM).mono fun e w' ⟨he,hb⟩=>⟨mM hf he,hb⟩
  ·exact bad 2 (by rw[hps];rfl) (.inl ⟨h69,by decide⟩) (by unfold Wf.fdB;rw[hps];exact if_pos h69)
 | [p,q,r] =>
  rw[hps] at hcut hmem;rcases hsn with h69|⟨h69,g1,g2⟩
  ·exact bad 3 (by rw[hps];rfl) (.inr ⟨h69,by decide⟩) (by unfold Wf.fdB;rw[hps];exact if_pos h69)
  ·have hf:Wf.fdB sort s.data.toList=match Wf.aI p 200 with
    | none=>none
    | some tag =>
     if tag<1\/Wf.isName q=false then none else
     match Wf.cutAt 61 r with
     | [e]=>(Wf.aM e).map fun k=>⟨tag,q,k,[]⟩
     | [e,g]=>(match Wf.aM e with|none=>none|some k=>if sort=82/\Wf.stOk k g=true then some ⟨tag,q,k,g⟩ else none)
     | _=>none:=by
    unfold Wf.fdB;rw[hps];exact if_neg h69
   rcases sG p (by have:=hmem p (by simp);omega) with⟨hn,HN⟩|⟨t,hn,HN⟩
   ·rw[hn] at hf
    exact(tM s _ g1 g2 p q r w hcut HN).mono fun e w' ⟨⟨m,he⟩,hb⟩=>⟨cV hf ⟨_,_,_,_,he⟩,hb⟩
   ·rw[hn] at hf
    dsimp only at hf;by_cases ht:t<1
    ·rw[if_pos (.inl ht)] at hf
     exact(uR s _ g1 g2 p q r w hcut t HN ht).mono fun e w' ⟨he,hb⟩=>⟨cV hf ⟨_,_,_,_,he⟩,hb⟩
    ·have HM:=fun w=>iS ⟨q.toArray⟩ w (by rw[aR];have:=hmem q (by simp);omega)
     cases hq:Wf.isName q with
     | false =>
      rw[if_pos (.inr hq)] at hf;rw[show(⟨q.toArray⟩:ByteArray).data.toList=q from rfl,hq] at HM;exact(wY s _ g1 g2 p q r w hcut t HN (by omega) HM).mono fun e w' ⟨he,hb⟩=>⟨cV hf ⟨_,_,_,_,he⟩,hb⟩
     | true =>
      rw[if_neg (by rw[hq];simp;omega)] at hf;rw[show(⟨q.toArray⟩:ByteArray).data.toList=q from rfl,hq] at HM;have hr6:r.length<=1000000:=hmem r (by simp);have hcut2:∀ w,Calls Tryz.prog 118 #[tx r,.int .u8 61] w fun e w'=>bA w (Wf.cutAt 61 r) e w':=fun w=>iZ ⟨r.toArray⟩ 61 (by rw[aR];omega) w;have hmem2:∀ p,p∈Wf.cutAt 61 r->p.length<=1000000:=fun p hp=>by have:=cY hp;omega
      have txt:∀ k:Wf.K,∀ a:List UInt8,Wf.aM a=some k->∀ g,(fdS sort ⟨t,q,k,g⟩)=[.int .i64 t,tx q,tx a,tx g]:=by
       intro k a hk g;rw[fdS,if_neg h69,jO hk]
      match hqs:Wf.cutAt 61 r with
      | []=>exact absurd hqs (Wf.cD _ _)
      | [a] =>
       rw[hqs] at hf hcut2;dsimp only at hf;have HK:∀ w,Calls Tryz.prog 82 #[tx a] w fun e w'=>e=.returned (.bool (okB a))/\w=w':=fun w=>qH a.length ⟨a.toArray⟩ w (by rw[aR];exact zaA);refine(vQ s _ g1 g2 p q r w hcut t HN (by omega) HM a [] 1 rfl hcut2 (by decide) (by decide) (okB a) HK).mono fun e w' ⟨he,hb⟩=>⟨?_,hb⟩;cases hk:Wf.aM a with
       | none=>rw[hk] at hf;rw[ok_none hk] at he;exact cV hf ⟨_,_,_,_,he⟩
       | some k=>rw[hk] at hf;rw[pT hk] at he;exact mM hf (by rw[txt k a hk];exact he)
      | [a,b] =>
       rw[hqs] at hf hcut2;dsimp only at hf;have hb6:b.length<=1000000:=hmem2 b (by rw[hqs];simp);have HS:∀ w,Calls Tryz.prog 167 #[tx a,tx b] w fun e w'=>e=.returned (.bool (stT a b))/\Below w.heap.size w w':=fun w=>a1J ⟨a.toArray⟩ ⟨b.toArray⟩ w (by rw[aR];omega);by_cases h82:sort=82
       ·have g3:((sort.toNat:Int)==82)=true:=by rw[h82];rfl
        refine(uG s _ g1 g2 p q r w hcut t HN (by omega) HM a b hcut2 g3 (stT a b) HS).mono fun e w' ⟨he,hb⟩=>⟨?_,hb⟩;rw[yT] at he;cases hk:Wf.aM a with
        | none=>rw[hk] at hf he;exact cV hf ⟨_,_,_,_,he⟩
        | some k =>
         rw[hk] at hf he;dsimp only at hf;cases hst:Wf.stOk k b with
         | false =>
          rw[if_neg (by rw[hst];simp)] at hf;exact cV hf ⟨t,⟨q.toArray⟩,⟨a.toArray⟩,⟨b.toArray⟩,by rw[he];simp only[hst]⟩
         | true =>
          rw[if_pos ⟨h82,hst⟩] at hf;exact mM hf (by rw[txt k a hk,he];simp only[hst])
       ·have g3:((sort.toNat:Int)==82)=false:=by
         have:sort.toNat≠82:=fun e=>h82 (UInt8.toNat_inj.1 (by rw[e];rfl));rw[zaJ];omega
        refine(tP s _ g1 g2 p q r w hcut t HN (by omega) HM a b hcut2 g3).mono fun e w' ⟨he,hb⟩=>⟨cV ?_ ⟨_,_,_,_,he⟩,hb⟩;rw[hf];cases hk:Wf.aM a with
        | none=>rfl
        | some k=>exact if_neg (fun h=>h82 h.1)
      | a::b::c::cs =>
       rw[hqs] at hf hcut2;dsimp only at hf;exact(wO s _ g1 g2 p q r w hcut t HN (by omega) HM a (b::c::cs) _ rfl hcut2 (by rw[zaJ];simp;omega) (by rw[zaJ];simp;omega)).mono fun e w' ⟨he,hb⟩=>⟨cV hf ⟨_,_,_,_,he⟩,hb⟩

def ML (m:Int) (w:World):Prop:=w.cell? ⟨0,0,none⟩=some (.int .i64 m)
theorem ML.lt {m:Int} {w:World} (h:ML m w):0<w.heap.size:=qY h
theorem ML.below {m:Int} {w w':World} (h:ML m w) (hb:Below w.heap.size w w'):ML m w':=(hb.cell (p:=⟨0,0,none⟩) h.lt).trans h
theorem lX (s:ByteArray) (c:UInt8) (m:Int) (w:World) (hs:s.size<=1000000) (hm:ML m w):Calls Tryz.prog 68 #[.string s,.string ⟨#[c]⟩] w fun e w'=>e=.returned (.tuple #[tx (Wf.cut1 c s.data.toList).1,tx (Wf.cut1 c s.data.toList).2.1,.bool (Wf.cut1 c s.data.toList).2.2])/\∃ k,w'=w.drewN k:=by
 have h:=Tryz.strings_Cut s ⟨#[c]⟩ m w (by omega) hm;rw[show(⟨#[c]⟩:ByteArray).data.toList=[c] from rfl,a3I] at h;exact h
theorem nI (s:ByteArray) (c:UInt8) (m:Int) (w:World) (hs:s.size<=1000000) (hm:ML m w):Calls Tryz.prog 108 #[.string s,.string ⟨#[c]⟩] w fun e w'=>e=.returned (.slice (some ⟨w.heap.size,0,none⟩) (Wf.cutAt c s.data.toList).length (Wf.cutAt c s.data.toList).length)/\w'=w.alloc (.cells ((Wf.cutAt c s.data.toList).map tx).toArray 9):=by
 have h:=Tryz.strings_Split s ⟨#[c]⟩ m w (by omega) hm (show 1<=1 from zaA);rw[count_one,pO] at h;exact h
theorem kC (c:UInt8) (l:List UInt8):(Wf.cut1 c l).1.length<=l.length/\(Wf.cut1 c l).2.1.length<=l.length:=by
 cases h:(Wf.cut1 c l).2.2 with
 | false=>obtain⟨h1,h2,_⟩:=Wf.dX h;rw[h1,h2];simp
 | true =>
  have h1:=congrArg List.length (Wf.eB h).1;rw[zaD,zaF] at h1;omega
def dI (sort:UInt8) (l:List UInt8) (e:Ending):Prop:=match Wf.fdA sort l with
 | some f=>e=.returned (.tuple #[.agg (fdC sort f).toArray,.bool true])
 | none=>e=.returned (.tuple #[.agg #[.int .i64 0,tx [],tx [],tx [],tx [],tx []],.bool false])
theorem lN {sort:UInt8} {l:List UInt8} {f:Wf.Fd} {e:Ending} (h:Wf.fdA sort l=some f) (he:e=.returned (.tuple #[.agg (fdC sort f).toArray,.bool true])):dI sort l e:=by
 unfold dI;rw[h];exact he
theorem cS {sort:UInt8} {l:List UInt8} {e:Ending} (h:Wf.fdA sort l=none) (he:e=.returned (.tuple #[.agg #[.int .i64 0,tx [],tx [],tx [],tx [],tx []],.bool false])):dI sort l e:=by
 unfold dI;rw[h];exact he
theorem qF (p:List UInt8):(Wf.aI p 200=none/\∀ w,Calls Tryz.prog 76 #[tx p,.int .i64 200] w fun e w'=>(∃ q:Int,e=.returned (.tuple #[.int .i64 q,.bool false]))/\w=w')\/∃ t:Nat,Wf.aI p 200=some t/\∀ w,Calls Tryz.prog 76 #[tx p,.int .i64 200] w fun e w'=>e=.returned (.tuple #[.int .i64 t,.bool true])/\w=w':=by
 have H:=fun w=>nG ⟨p.toArray⟩ 200 (by decide) w;cases h:Wf.aI p 200 with
 | none=>exact .inl ⟨rfl,fun w=>(H w).mono fun e w' ⟨ho,hb⟩=>⟨by unfold aZ at ho;rw[show(⟨p.toArray⟩:ByteArray).data.toList=p from rfl,h] at ho;exact ho,hb⟩⟩
 | some t=>exact .inr ⟨t,rfl,fun w=>(H w).mono fun e w' ⟨ho,hb⟩=>⟨by unfold aZ at ho;rw[show(⟨p.toArray⟩:ByteArray).data.toList=p from rfl,h] at ho;exact ho,hb⟩⟩
theorem a2R (s:ByteArray) (sort:UInt8) (m:Int) (w:World) (hm:ML m w) (hs:s.size<=1000000):Calls Tryz.prog 109 #[.string s,.int .u8 sort.toNat] w fun e w'=>dI sort s.data.toList e/\Below w.heap.size w w':=by
 have hl:=aE s;obtain⟨H,V,told,hcut⟩:∃ (H V:List UInt8) (told:Bool),Wf.cut1 61 s.data.toList=(H,V,told):=⟨_,_,_,rfl⟩;have hlen:=kC 61 s.data.toList;rw[hcut] at hlen;dsimp only at hlen;have HCUT:∀ wz,ML m wz->Calls Tryz.prog 68 #[.string s,.string ⟨#[61]⟩] wz fun e w'=>e=.returned (.tuple #[tx H,tx V,.bool told])/\∃ k,w'=wz.drewN k:=fun wz hz=>by
  have h:=lX s 61 m wz hs hz;rw[hcut] at h;exact h
 have HSP:∀ wz,ML m wz->Calls Tryz.prog 108 #[tx H,.string ⟨#[58]⟩] wz fun e w'=>e=.returned (.slice (some ⟨wz.heap.size,0,none⟩) (Wf.cutAt 58 H).length (Wf.cutAt 58 H).length)/\w'=wz.alloc (.cells ((Wf.cutAt 58 H).map tx).toArray 9):=fun wz hz=>nI ⟨H.toArray⟩ 58 m wz (by rw[aR];omega) hz;have hmem:∀ p,p∈Wf.cutAt 58 H->p.length<=1000000:=fun p hp=>by have:=cY hp;omega
 have hsn:(sort=69/\(((sort.toNat:Int)==69)=true)/\(((sort.toNat:Int) != 69)=false))\/(sort≠69/\(((sort.toNat:Int)==69)=false)/\(((sort.toNat:Int) != 69)=true)):=by
  by_cases h:sort=69
  ·exact .inl ⟨h,by rw[h];rfl,by rw[h];rfl⟩
  ·have:sort.toNat≠69:=fun e=>h (UInt8.toNat_inj.1 (by rw[e];rfl))
   exact .inr ⟨h,by rw[zaJ];omega,by rw[bne_iff_ne];omega⟩
 have bad:∀ n,(Wf.cutAt 58 H).length=n->(sort≠69/\n≠3\/sort=69/\n≠2)->Wf.fdA sort s.data.toList=none->Calls Tryz.prog 109 #[.string s,.int .u8 sort.toNat] w fun e w'=>dI sort s.data.toList e/\Below w.heap.size w w':=by
  intro n hn hc hf;refine(vU n _ hm HCUT (by rw[<-hn];exact HSP) ?_).mono fun e w' ⟨he,hb⟩=>⟨cS hf he,hb⟩;rcases hc with⟨h1,h2⟩|⟨h1,h2⟩
  ·rcases hsn with h|⟨_,h,_⟩
   ·exact absurd h.1 h1
   ·exact .inl ⟨h,by rw[bne_iff_ne];omega⟩
  ·rcases hsn with⟨_,h,_⟩|h
   ·exact .inr ⟨h,by rw[bne_iff_ne];omega⟩
   ·exact absurd h1 h.1
 match hps:Wf.cutAt 58 H with
 | []=>exact absurd hps (Wf.cD _ _)
 | [p]=>exact bad 1 (by rw[hps];rfl) (hsn.elim (fun h=>.inr ⟨h.1,by decide⟩) (fun h=>.inl ⟨h.1,by decide⟩)) (by unfold Wf.fdA;rw[hcut];dsimp only;rw[hps])
 | p::q::r::u::us=>exact bad _ (by rw[hps]) (hsn.elim (fun h=>.inr ⟨h.1,by simp⟩) (fun h=>.inl ⟨h.1,by simp⟩)) (by unfold Wf.fdA;rw[hcut];dsimp only;rw[hps])
 | [p,q] =>
  rw[hps] at HSP hmem;rcases hsn with⟨h69,g1,g2⟩|⟨h69,_,_⟩
  ·subst h69
   have hf:Wf.fdA 69 s.data.toList=match Wf.aI p 200 with|none=>none|some tag=>if tag<1\/Wf.isName q=false\/told=true then none else some ⟨tag,q,.num,[]⟩:=by
    unfold Wf.fdA;rw[hcut];dsimp only;rw[hps];rfl
   rcases qF p with⟨hn,HN⟩|⟨t,hn,HN⟩
   ·rw[hn] at hf
    exact(rfi2 hm HCUT HSP g1 (.inl ⟨rfl,HN⟩)).mono fun e w' ⟨he,hb⟩=>⟨cS hf he,hb⟩
   ·rw[hn] at hf
    dsimp only at hf;by_cases ht:t<1
    ·rw[if_pos (.inl ht)] at hf
     exact(rfi2 hm HCUT HSP g1 (.inr ⟨t,HN,.inl ⟨rfl,ht⟩⟩)).mono fun e w' ⟨he,hb⟩=>⟨cS hf he,hb⟩
    ·have HM:=fun w=>iU ⟨q.toArray⟩ w (by rw[aR];have:=hmem q (by simp);omega)
     cases hq:Wf.isName q with
     | false =>
      rw[if_pos (.inr (.inl hq))] at hf;rw[show(⟨q.toArray⟩:ByteArray).data.toList=q from rfl,hq] at HM;exact(rfi2 hm HCUT HSP g1 (.inr ⟨t,HN,.inr ⟨by omega,.inl ⟨rfl,HM⟩⟩⟩)).mono fun e w' ⟨he,hb⟩=>⟨cS hf he,hb⟩
     | true =>
      rw[show(⟨q.toArray⟩:ByteArray).data.toList=q from rfl,hq] at HM;cases told with
      | true =>
       rw[if_pos (.inr (.inr rfl))] at hf;exact(rfi2 hm HCUT HSP g1 (.inr ⟨t,HN,.inr ⟨by omega,.inr ⟨HM,.inl ⟨rfl,rfl,rfl⟩⟩⟩⟩)).mono fun e w' ⟨he,hb⟩=>⟨cS hf he,hb⟩
      | false =>
       rw[if_neg (by rw[hq];simp;omega)] at hf;have hV:V=[]:=by
        have:=(Wf.dX (c:=61) (s:=s.data.toList) (by rw[hcut])).2.1;rw[hcut] at this;exact this
       subst hV;exact(rfi2 hm HCUT HSP g1 (.inr ⟨t,HN,.inr ⟨by omega,.inr ⟨HM,.inr ⟨rfl,rfl⟩⟩⟩⟩)).mono fun e w' ⟨he,hb⟩=>⟨lN hf he,hb⟩
  ·exact bad 2 (by rw[hps];rfl) (.inl ⟨h69,by decide⟩) (by unfold Wf.fdA;rw[hcut];dsimp only;rw[hps];exact if_pos h69)
 | [p,q,r] =>
  rw[hps] at HSP hmem;rcases hsn with⟨h69,_,_⟩|⟨h69,g1,g2⟩
  ·exact bad 3 (by rw[hps];rfl) (.inr ⟨h69,by decide⟩) (by unfold Wf.fdA;rw[hcut];dsimp only;rw[hps];exact if_pos h69)
  ·have hf:Wf.fdA sort s.data.toList=match Wf.aI p 200 with
    | none=>none
    | some tag =>
     if tag<1\/Wf.isName q=false then none else
     match Wf.aM r with
     | none=>none
     | some k=>if told=true/\(sort≠82\/Wf.stOk k V=false) then none else some ⟨tag,q,k,V⟩:=by
    unfold Wf.fdA;rw[hcut];dsimp only;rw[hps];exact if_neg h69
   rcases qF p with⟨hn,HN⟩|⟨t,hn,HN⟩
   ·rw[hn] at hf
    exact(rfi3 hm HCUT HSP g1 (.inl ⟨rfl,HN⟩)).mono fun e w' ⟨he,hb⟩=>⟨cS hf he,hb⟩
   ·rw[hn] at hf
    dsimp only at hf;by_cases ht:t<1
    ·rw[if_pos (.inl ht)] at hf
     exact(rfi3 hm HCUT HSP g1 (.inr ⟨t,HN,.inl ⟨rfl,ht⟩⟩)).mono fun e w' ⟨he,hb⟩=>⟨cS hf he,hb⟩
    ·have HM:=fun w=>iU ⟨q.toArray⟩ w (by rw[aR];have:=hmem q (by simp);omega)
     cases hq:Wf.isName q with
     | false =>
      rw[if_pos (.inr hq)] at hf;rw[show(⟨q.toArray⟩:ByteArray).data.toList=q from rfl,hq] at HM;exact(rfi3 hm HCUT HSP g1 (.inr ⟨t,HN,.inr ⟨by omega,.inl ⟨rfl,HM⟩⟩⟩)).mono fun e w' ⟨he,hb⟩=>⟨cS hf he,hb⟩
     | true =>
      rw[if_neg (by rw[hq];simp;omega)] at hf;rw[show(⟨q.toArray⟩:ByteArray).data.toList=q from rfl,hq] at HM;have hr6:r.length<=1000000:=hmem r (by simp);have hrs:(⟨r.toArray⟩:ByteArray).size<=9223372036854775807:=(by rw[aR];omega);cases hk:Wf.aM r with
      | none =>
       rw[hk] at hf;have HK:=fun wz=>pS ⟨r.toArray⟩ hk wz hrs;exact(rfi3 hm HCUT HSP g1 (.inr ⟨t,HN,.inr ⟨by omega,.inr ⟨HM,.inl ⟨rfl,HK⟩⟩⟩⟩)).mono fun e w' ⟨he,hb⟩=>⟨cS hf he,hb⟩
      | some k =>
       rw[hk] at hf;dsimp only at hf;have HK:=fun wz=>oT ⟨r.toArray⟩ k hk wz hrs;rw[kV] at HK;have hfd:∀ g,(fdC sort ⟨t,q,k,g⟩).toArray = #[.int .i64 t,tx q,tx k.signs,tx k.base,tx k.name,tx g]:=fun g=>by
        unfold fdC;rw[if_neg h69]
       cases told with
       | false =>
        rw[if_neg (by simp)] at hf;exact(rfi3 hm HCUT HSP g1 (.inr ⟨t,HN,.inr ⟨by omega,.inr ⟨HM,.inr ⟨_,_,_,HK,.inl ⟨rfl,rfl⟩⟩⟩⟩⟩)).mono fun e w' ⟨he,hb⟩=>⟨lN hf (by rw[hfd];exact he),hb⟩
       | true =>
        by_cases h82:sort=82
        ·have g3:((sort.toNat:Int) != 82)=false:=by rw[h82];rfl
         by_cases hsg:k.signs=[]
         ·have HS:=fun wz=>qI k hsg ⟨V.toArray⟩ wz (by rw[aR];omega)
          have hSe:(⟨k.signs.toArray⟩:ByteArray).toList.isEmpty=true:=(by rw[zaZ,hsg];rfl);rw[show(⟨V.toArray⟩:ByteArray).data.toList=V from rfl] at HS;cases hst:Wf.stOk k V with
          | true =>
           rw[if_neg (by rw[hst];simp[h82])] at hf;rw[hst] at HS;exact(rfi3 hm HCUT HSP g1 (.inr ⟨t,HN,.inr ⟨by omega,.inr ⟨HM,.inr ⟨_,_,_,HK,.inr ⟨rfl,.inr ⟨g3,.inr ⟨hSe,.inr ⟨HS,rfl⟩⟩⟩⟩⟩⟩⟩⟩)).mono fun e w' ⟨he,hb⟩=>⟨lN hf (by rw[hfd];exact he),hb⟩
          | false =>
           rw[if_pos ⟨rfl,.inr hst⟩] at hf;rw[hst] at HS;exact(rfi3 hm HCUT HSP g1 (.inr ⟨t,HN,.inr ⟨by omega,.inr ⟨HM,.inr ⟨_,_,_,HK,.inr ⟨rfl,.inr ⟨g3,.inr ⟨hSe,.inl ⟨rfl,HS⟩⟩⟩⟩⟩⟩⟩⟩)).mono fun e w' ⟨he,hb⟩=>⟨cS hf he,hb⟩
         ·have hst:Wf.stOk k V=false:=by
           cases k <;> first|exact absurd rfl hsg|rfl
          rw[if_pos ⟨rfl,.inr hst⟩] at hf;exact(rfi3 hm HCUT HSP g1 (.inr ⟨t,HN,.inr ⟨by omega,.inr ⟨HM,.inr ⟨_,_,_,HK,.inr ⟨rfl,.inr ⟨g3,.inl ⟨rfl,(by rw[zaZ];cases hh:k.signs with|nil=>exact absurd hh hsg|cons a l=>rfl)⟩⟩⟩⟩⟩⟩⟩)).mono fun e w' ⟨he,hb⟩=>⟨cS hf he,hb⟩
        ·have g3:((sort.toNat:Int) != 82)=true:=by
          have:sort.toNat≠82:=fun e=>h82 (UInt8.toNat_inj.1 (by rw[e];rfl));rw[bne_iff_ne];omega
         rw[if_pos ⟨rfl,.inl h82⟩] at hf;exact(rfi3 hm HCUT HSP g1 (.inr ⟨t,HN,.inr ⟨by omega,.inr ⟨HM,.inr ⟨_,_,_,HK,.inr ⟨rfl,.inl ⟨rfl,g3⟩⟩⟩⟩⟩⟩)).mono fun e w' ⟨he,hb⟩=>⟨cS hf he,hb⟩
