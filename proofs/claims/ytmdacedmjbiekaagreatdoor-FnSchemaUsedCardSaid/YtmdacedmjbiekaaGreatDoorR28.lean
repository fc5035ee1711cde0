/- Packed by pack.py: St. -/
import Derived.Test.YtmdacedmjbiekaaGreatDoorR24
namespace Go.Proofs.YtmdacedmjbiekaaGreatDoor
open Go.ChangeShapes Go.WideShapes Go.ChangeAt Go.RowKit Go.Lib
set_option linter.unusedVariables false
def typeIn (l nm:List UInt8):Option (Wf.Sc × Wf.Ty):=match Wf.schemaOf l with
 | none=>none
 | some x=>(x.find nm).map fun t=>(x,t)
def LfOut (l nm:List UInt8) (lo:Nat) (e:Ending) (w':World):Prop:=match typeIn l nm with
 | some y=>∃ b a c fb fa fc,e=.returned (.tuple #[.slice a y.1.length c, .agg #[.int .u8 y.2.sort.toNat,tx y.2.name, .slice fa y.2.fields.length fc], .bool true])∧ScSp w' lo b (.slice a y.1.length c) y.1∧lo≤fb∧RowK w' fb (.slice fa y.2.fields.length fc) 4 (y.2.fields.map (fdS y.2.sort))
 | none=>∃ a n c,e=.returned (.tuple #[.slice a n c, .agg #[.int .u8 0,tx [], .slice none 0 0], .bool false])
set_option maxRecDepth 20000 in
set_option maxHeartbeats 1000000 in
theorem l3Find (s nm:ByteArray) (w:World) (hs:s.size≤1048576):Calls Tryz.prog 49 #[.string s, .string nm] w fun e w'=>LfOut s.data.toList nm.data.toList w.heap.size e w'∧Below w.heap.size w w':=by
 have HOF:=hid fun wz=>l3Of s wz hs
 cases hsc:Wf.schemaOf s.data.toList with
 | none =>
  have HO:=hid fun e lo wz (h:OfOut s.data.toList lo e wz)=>(by unfold OfOut at h;rw[hsc] at h;exact h:∃ a n c,e=.returned (.tuple #[.slice a n c, .bool false]))
  have HF:=hid (show typeIn s.data.toList nm.data.toList=none by unfold typeIn;rw[hsc])
  clear hsc
  go_enter Tryz.func49,Tryz.ntmps49
  go_wp2_with (go_at_call 71;refine(HOF.out _).mono ?_;rintro e w2 ⟨ho,hb2⟩;obtain⟨a,n,c,rfl⟩:=HO.out _ _ _ ho;have HB2:=hid hb2;obtain⟨hc3,hc4⟩:=bcell hb2;have hz:w.heap.size<w2.heap.size:=(by have:=hb2.size;simp at this;omega);clear ho)
  exact bodyPost_ret (v:=.tuple #[.slice none 0 0, .agg #[.int .u8 0,tx [], .slice none 0 0], .bool false]) (by simp[results,Tryz.results49,go_sem, *]) rfl ⟨by unfold LfOut;rw[HF.out];exact⟨_,_,_,rfl⟩,by have B:=below_join ((Below.refl _ _).alloc (Nat.le_refl _) _) HB2.out;repeat (first|with_reducible exact B|with_reducible refine Below.drew ?_|with_reducible refine Below.setCell ?_ (by simp) _|with_reducible refine Below.alloc ?_ (by first|exact B.size|(simp;omega)) _)⟩
 | some x =>
  have hx8:=(Wf.schemaOf_ok hsc).len
  have HO:=hid fun e lo wz (h:OfOut s.data.toList lo e wz)=>(by unfold OfOut at h;rw[hsc] at h;obtain⟨b,v,he,hsp⟩:=h;obtain⟨a,c,rfl,_⟩:=hsp.slice;exact⟨b,a,c,he,hsp⟩:∃ b a c,e=.returned (.tuple #[.slice a x.length c, .bool true])∧ScSp wz lo b (.slice a x.length c) x)
  obtain⟨n,hn⟩:∃ n,x.length=n:=⟨_,rfl⟩
  rw[hn] at HO
  have HN:=hid hn
  cases hf:x.find nm.data.toList with
  | none =>
   have HF:=hid (show typeIn s.data.toList nm.data.toList=none by unfold typeIn;rw[hsc];simp[hf])
   have HFI:=hid fun wz lo b v (h:ScSp wz lo b v x)=>(by
    refine(l3find x lo b v nm wz wz (Below.refl _ _) (by omega) h).mono fun e w' ⟨h1,h2⟩=>⟨?_,h2⟩
    unfold FindOut at h1;rw[hf] at h1;exact h1:Calls Tryz.prog 75 #[v, .string nm] wz fun e w'=>e=.returned (.tuple #[.agg #[.int .u8 0,tx [], .slice none 0 0], .bool false])∧Below wz.heap.size wz w')
   clear hsc hf hn
   go_enter Tryz.func49,Tryz.ntmps49
   go_wp2_with (first|(go_at_call 75;refine(HFI.out _ _ _ _ HS.out).mono ?_;rintro e w3 ⟨rfl,hb3⟩;have B3:=hid (B2.out.trans (hb3.mono B2.out.size));obtain⟨hc5,hc6⟩:=bcell hb3;have hz3:w.heap.size<w3.heap.size:=Nat.lt_of_lt_of_le hz hb3.size;clear hb3)|(go_at_call 71;refine(HOF.out _).mono ?_;rintro e w2 ⟨ho,hb2⟩;obtain⟨b,a,c,rfl,hs2⟩:=HO.out _ _ _ ho;have HS:=hid hs2;have B2:=hid (below_join ((Below.refl _ _).alloc (Nat.le_refl _) _) hb2);obtain⟨hc3,hc4⟩:=bcell hb2;have hz:w.heap.size<w2.heap.size:=(by have:=hb2.size;simp at this;omega);clear ho hs2))
   go_region
   all_goals go_wp2
   all_goals exact bodyPost_ret (v:=.tuple #[.slice a n c, .agg #[.int .u8 0,tx [], .slice none 0 0], .bool false]) (by simp[results,Tryz.results49,go_sem, *]) rfl ⟨by unfold LfOut;rw[HF.out];exact⟨_,_,_,rfl⟩,by have B:=B3.out;repeat (first|with_reducible exact B|with_reducible refine Below.drew ?_|with_reducible refine Below.setCell ?_ (by simp) _|with_reducible refine Below.alloc ?_ (by first|exact B.size|(simp;omega)) _)⟩
  | some t =>
   have HF:=hid (show typeIn s.data.toList nm.data.toList=some (x,t) by unfold typeIn;rw[hsc];simp[hf])
   have HFI:=hid fun wz lo b v (h:ScSp wz lo b v x)=>(by
    refine(l3find x lo b v nm wz wz (Below.refl _ _) (by omega) h).mono fun e w' ⟨h1,h2⟩=>⟨?_,h2⟩
    unfold FindOut at h1;rw[hf] at h1;exact h1:Calls Tryz.prog 75 #[v, .string nm] wz fun e w'=>(∃ fb a c,e=.returned (.tuple #[.agg #[.int .u8 t.sort.toNat,tx t.name, .slice a t.fields.length c], .bool true])∧lo≤fb∧RowK wz fb (.slice a t.fields.length c) 4 (t.fields.map (fdS t.sort)))∧Below wz.heap.size wz w')
   clear hsc hf hn
   go_enter Tryz.func49,Tryz.ntmps49
   go_wp2_with (first|(go_at_call 75;refine(HFI.out _ _ _ _ HS.out).mono ?_;rintro e w3 ⟨⟨fb,fa,fc,rfl,hlo,hrow⟩,hb3⟩;have HROW:=hid hrow;have HLO:=hid hlo;have HB3:=hid hb3;have B3:=hid (B2.out.trans (hb3.mono B2.out.size));obtain⟨hc5,hc6⟩:=bcell hb3;have hz3:w.heap.size<w3.heap.size:=Nat.lt_of_lt_of_le hz hb3.size;clear hb3 hlo hrow)|(go_at_call 71;refine(HOF.out _).mono ?_;rintro e w2 ⟨ho,hb2⟩;obtain⟨b,a,c,rfl,hs2⟩:=HO.out _ _ _ ho;have HS:=hid hs2;have B2:=hid (below_join ((Below.refl _ _).alloc (Nat.le_refl _) _) hb2);obtain⟨hc3,hc4⟩:=bcell hb2;have hz:w.heap.size<w2.heap.size:=(by have:=hb2.size;simp at this;omega);clear ho hs2))
   go_region
   all_goals go_wp2
   all_goals exact bodyPost_ret (v:=.tuple #[.slice a n c, .agg #[.int .u8 t.sort.toNat,tx t.name, .slice fa t.fields.length fc], .bool true]) (by simp[results,Tryz.results49,go_sem, *]) rfl ⟨by
    unfold LfOut;rw[HF.out]
    have A:∀ w',Above (w.heap.size+1) w2 w'→ScSp w' w.heap.size b (.slice a n c) x∧w.heap.size≤fb∧RowK w' fb (.slice fa t.fields.length fc) 4 (t.fields.map (fdS t.sort)):=fun w' ha=>by
     have hl:w.heap.size+1≤fb:=by have:=HLO.out;simpa using this
     have h2:ScSp w2 (w.heap.size+1) b (.slice a n c) x:=HS.out.mono (by simp)
     exact⟨(h2.above ha).mono (Nat.le_succ _),by omega,HROW.out.above ha hl⟩
    refine⟨b,a,c,fb,fa,fc,by rw[HN.out], ?_⟩
    dsimp only
    rw[HN.out]
    refine A _ ?_
    have AB:=Above.of_below (lo:=w.heap.size+1) HB3.out
    repeat (first|with_reducible exact AB|with_reducible refine Above.drew ?_|with_reducible refine Above.set ?_ (by omega) _ _|with_reducible refine Above.alloc ?_ _),by have B:=B3.out;repeat (first|with_reducible exact B|with_reducible refine Below.drew ?_|with_reducible refine Below.setCell ?_ (by simp) _|with_reducible refine Below.alloc ?_ (by first|exact B.size|(simp;omega)) _)⟩
def fieldI (t:Wf.Ty) (g:Int):Option Wf.Fd:=t.fields.find? fun f=>(f.tag:Int)==g
theorem fieldI_at {t:Wf.Ty} {g:Int} {k:Nat} (hk:k<t.fields.length) (h0:∀ j (hj:j<t.fields.length),j<k→((t.fields[j]).tag:Int)≠g) (h1:((t.fields[k]).tag:Int)=g):fieldI t g=some t.fields[k]:=by
 unfold fieldI
 rw[List.find?_eq_some_iff_getElem]
 refine⟨by simp[h1],k,hk,rfl,fun j hj => ?_⟩
 simpa using h0 j (by omega) hj
theorem fieldI_not {t:Wf.Ty} {g:Int} (h0:∀ j (hj:j<t.fields.length),((t.fields[j]).tag:Int)≠g):fieldI t g=none:=by
 unfold fieldI
 rw[List.find?_eq_none]
 intro f hf
 obtain⟨j,hj,rfl⟩:=List.mem_iff_getElem.1 hf
 simpa using h0 j hj
end Go.Proofs.YtmdacedmjbiekaaGreatDoor
