/- Packed by pack.py: Jd Sy Vc PlainR PlainV. -/
import Derived.Test.YtmdacedmjbiekaaGreatDoorQ26
import Derived.Test.YtmdacedmjbiekaaGreatDoorQ8
import Derived.Test.YtmdacedmjbiekaaGreatDoorQ22
import Derived.Maps.AppendAt
import Derived.Test.YtmdacedmjbiekaaGreatDoorQ5
namespace Go.Proofs.YtmdacedmjbiekaaGreatDoor
open Go.ChangeShapes Go.WideShapes Go.ChangeAt Go.RowKit Go.Lib
set_option linter.unusedVariables false
set_option linter.unusedSimpArgs false
theorem stands_sign (sb:Nat) (k:Wf.K) (x:Wf.Sc) (w:World) (h:(∃ k',k=.list k')∨∃ k',k=.opt k'):Calls Tryz.prog 84 #[ptr sb,kV k] w fun e w'=>e=.returned (tx (Wf.stands x 9 k))∧Below w.heap.size w w':=by
 have hs:=fun wz=>sign k wz
 rcases h with⟨k',rfl⟩|⟨k',rfl⟩
 ·exact(st_sign sb _ _ _ w 91 (.inl rfl) hs).mono fun e w' ⟨h1,h2⟩=>⟨by rw[h1];rfl,h2⟩
 ·exact(st_sign sb _ _ _ w 63 (.inr rfl) hs).mono fun e w' ⟨h1,h2⟩=>⟨by rw[h1];rfl,h2⟩
theorem stands_plain (sb:Nat) (k:Wf.K) (x:Wf.Sc) (w:World) (h:k=.num∨k=.txt∨k=.flag):Calls Tryz.prog 84 #[ptr sb,kV k] w fun e w'=>e=.returned (tx (Wf.stands x 9 k))∧Below w.heap.size w w':=by
 have hs:=fun wz=>sign k wz
 rcases h with rfl|rfl|rfl
 ·exact st_plain sb _ _ _ w hs ⟨#[48]⟩ (.inl ⟨rfl,rfl⟩)
 ·exact st_plain sb _ _ _ w hs ⟨#[39,39]⟩ (.inr (.inl ⟨rfl,rfl⟩))
 ·exact st_plain sb _ _ _ w hs ⟨#[110,111]⟩ (.inr (.inr ⟨rfl,rfl⟩))
theorem standsN (x:Wf.Sc) (hx:Wf.ScOk x) (lo sb:Nat) (W:World) (H:ScL W lo sb x):∀ (n:Nat) (k:Wf.K) (w:World),Below W.heap.size W w→k.text.length≤12→Wf.hasRef x k=true→(∀ t,refT x k=some t→Wf.endsIn x n t=true) →
  Calls Tryz.prog 84 #[ptr sb,kV k] w fun e w'=>e=.returned (tx (Wf.stands x 9 k))∧Below w.heap.size w w':=by
 intro n
 induction n with
 | zero =>
  intro k w hW hk hr he
  cases k with
  | ref nm =>
   obtain⟨t,ht⟩:=Option.isSome_iff_exists.1 (show(x.find nm).isSome=true by simpa[Wf.hasRef,Wf.K.base,Wf.K.name] using hr)
   have:=he t ht
   simp[Wf.endsIn] at this
  | num=>exact stands_plain sb _ x w (.inl rfl)
  | txt=>exact stands_plain sb _ x w (.inr (.inl rfl))
  | flag=>exact stands_plain sb _ x w (.inr (.inr rfl))
  | list k=>exact stands_sign sb _ x w (.inl ⟨_,rfl⟩)
  | opt k=>exact stands_sign sb _ x w (.inr ⟨_,rfl⟩)
 | succ n ih =>
  intro k w hW hk hr he
  cases k with
  | num=>exact stands_plain sb _ x w (.inl rfl)
  | txt=>exact stands_plain sb _ x w (.inr (.inl rfl))
  | flag=>exact stands_plain sb _ x w (.inr (.inr rfl))
  | list k=>exact stands_sign sb _ x w (.inl ⟨_,rfl⟩)
  | opt k=>exact stands_sign sb _ x w (.inr ⟨_,rfl⟩)
  | ref nm =>
   have hs:=fun wz=>sign (.ref nm) wz
   obtain⟨mb,hsz,hc1,hnm⟩:=H.named
   obtain⟨t,ht⟩:=Option.isSome_iff_exists.1 (show(x.find nm).isSome=true by simpa[Wf.hasRef,Wf.K.base,Wf.K.name] using hr)
   have hnl:nm.length≤12:=by have:=kname_len (.ref nm);simp only[Wf.K.name] at this;omega
   have hm:=(Wf.find_mem ht).1
   have hok:=hx.tys t hm
   have hend:=he t ht
   have hst:=stands_ref ht
   rcases hnm ⟨nm.toArray⟩ (by rw[tx_size];omega) with⟨h0,_⟩|⟨t',b,h1,hT,hl⟩
   ·rw[show(⟨nm.toArray⟩:ByteArray).data.toList=nm from rfl,ht] at h0;cases h0
   rw[show(⟨nm.toArray⟩:ByteArray).data.toList=nm from rfl,ht] at h1
   obtain rfl:t=t':=Option.some.inj h1
   have HA:At W lo sb ⟨nm.toArray⟩ t mb b:=⟨hsz,hc1,hT,hl⟩
   by_cases h82:t.sort=82
   ·rw[hst,if_pos h82]
    exact st_rec W lo sb _ _ t mb b HA w hW hs h82
   ·rw[if_neg h82] at hst
    obtain⟨f,fs,hfs⟩:∃ f fs,t.fields=f::fs:=List.exists_cons_of_ne_nil (hok.some h82)
    have hfd:=hok.fds f (by rw[hfs];exact List.mem_cons_self ..)
    have htag:f.tag≤999999:=by have:=hfd.tag2;omega
    rw[hfs] at hst
    dsimp only at hst
    by_cases h69:t.sort=69
    ·rw[hst,if_pos h69]
     exact st_enum W lo sb _ _ t mb b HA w hW hs h69 f fs hfs htag ⟨(35::Wf.dec f.tag).toArray⟩ rfl
    ·rw[if_neg h69] at hst
     have h85:t.sort=85:=by
      rcases hok.sort with h|h|h
      ·exact absurd h h82
      ·exact h
      ·exact absurd h h69
     obtain⟨s0,hs0⟩:=hfd.kind h69
     have hfl:f.kind.text.length≤12:=parseK_len hs0
     have hfr:Wf.hasRef x f.kind=true:=by
      have:=hx.refs t hm h69 f (by rw[hfs];exact List.mem_cons_self ..)
      exact this
     have hs2:=stands_len hx 9 f.kind
     rw[hst,← stands89 hx f.kind]
     refine st_union W lo sb _ _ t mb b HA w hW hs h85 f fs hfs htag ⟨(Wf.stands x 9 f.kind).toArray⟩ ⟨(60::(Wf.dec f.tag++61::(Wf.stands x 9 f.kind++[62]))).toArray⟩ (by rw[tx_size];omega) rfl fun wz hz=>ih f.kind wz (hW.trans (hz.mono hW.size)) hfl hfr fun t' ht' => ?_
     have:=ends_step (x:=x) (m:=n) h85 hfs
     rw[ht',hend] at this
     exact this.symm
theorem stands (x:Wf.Sc) (hx:Wf.ScOk x) (lo sb:Nat) (k:Wf.K) (W w:World) (hW:Below W.heap.size W w) (H:ScL W lo sb x) (hk:k.text.length≤12) (hr:Wf.hasRef x k=true) :
  Calls Tryz.prog 84 #[ptr sb,kV k] w fun e w'=>e=.returned (tx (Wf.stands x 9 k))∧Below w.heap.size w w' :=
 standsN x hx lo sb W H 9 k w hW hk hr fun t ht=>hx.ends t (refT_mem ht)
set_option maxRecDepth 20000 in
set_option maxHeartbeats 1000000 in
theorem of_w (sb fb o:Nat) (SG BS NM GV O:ByteArray) (w:World) (k0:w.cell? ⟨fb,o+2,none⟩=some (.string SG)) (k1:w.cell? ⟨fb,o+3,none⟩=some (.string BS)) (k2:w.cell? ⟨fb,o+4,none⟩=some (.string NM)) (k3:w.cell? ⟨fb,o+5,none⟩=some (.string GV))
  (h:(GV.toList.isEmpty=false∧O=GV)∨(GV.toList.isEmpty=true∧∀ wz,Below w.heap.size w wz→Calls Tryz.prog 84 #[ptr sb, .agg #[.string SG, .string BS, .string NM]] wz fun e w'=>e=.returned (.string O)∧Below wz.heap.size wz w')) :
  Calls Tryz.prog 48 #[ptr sb, .pointer (some ⟨fb,o,none⟩)] w fun e w'=>e=.returned (.string O)∧Below w.heap.size w w':=by
 rcases h with⟨h1,rfl⟩|⟨h1,h2⟩
 ·go_enter Tryz.func48,Tryz.ntmps48
  go_wp2_with fail
  go_ret
  exact⟨rfl,Below.refl _ _⟩
 ·have H2:=hid h2
  clear h2
  go_enter Tryz.func48,Tryz.ntmps48
  go_wp2_with (go_at_call 84;refine(H2.out _ (Below.refl _ _)).mono ?_;rintro e w2 ⟨rfl,hb2⟩;have HB2:=hid hb2;clear hb2)
  go_ret
  exact⟨rfl,HB2.out⟩
theorem of (x:Wf.Sc) (hx:Wf.ScOk x) (lo sb fb o:Nat) (sort:UInt8) (f:Wf.Fd) (W w:World) (hW:Below W.heap.size W w) (H:ScL W lo sb x) (h69:sort≠69) (hf:FdAt W fb o sort f) (hk:f.kind.text.length≤12) (hr:Wf.hasRef x f.kind=true) :
  Calls Tryz.prog 48 #[ptr sb, .pointer (some ⟨fb,o,none⟩)] w fun e w'=>e=.returned (tx (Wf.standF x f))∧Below w.heap.size w w':=by
 have hf':=hf.2
 have e0:fdC sort f=[.int .i64 f.tag,tx f.name,tx f.kind.signs,tx f.kind.base,tx f.kind.name,tx f.given]:=by unfold fdC;rw[if_neg h69]
 rw[e0] at hf'
 have cc:=fun j u hu=>(hW.cell (p:=⟨fb,o+j,none⟩) hf.1).trans (hf' j u hu)
 refine of_w sb fb o ⟨f.kind.signs.toArray⟩ ⟨f.kind.base.toArray⟩ ⟨f.kind.name.toArray⟩ ⟨f.given.toArray⟩ ⟨(Wf.standF x f).toArray⟩ w (cc 2 _ rfl) (cc 3 _ rfl) (cc 4 _ rfl) (cc 5 _ rfl) ?_
 unfold Wf.standF
 by_cases hg:f.given=[]
 ·right
  refine⟨by rw[ByteArray.toList_eq,hg];rfl,fun wz hz => ?_⟩
  rw[if_pos hg]
  exact stands x hx lo sb f.kind W wz (hW.trans (hz.mono hW.size)) H hk hr
 ·left
  refine⟨by rw[ByteArray.toList_eq];cases hh:f.given with|nil=>exact absurd hh hg|cons a r=>rfl,by rw[if_neg hg]⟩
end Go.Proofs.YtmdacedmjbiekaaGreatDoor

namespace Go.Proofs.YtmdacedmjbiekaaGreatDoor
open Go.ChangeShapes Go.WideShapes Go.ChangeAt Go.RowKit Go.Lib
set_option linter.unusedVariables false
set_option maxRecDepth 20000 in
set_option maxHeartbeats 1000000 in
theorem l3stand_w (v:Value) (G:Int) (N K S O:ByteArray) (w:World) (h:(S.toList.isEmpty=true∧Calls Tryz.prog 85 #[v, .string K] (w.alloc (.cells #[.int .i64 G, .string N, .string K, .string S] 86)) fun e w'=>e=.returned (.string O)∧Below (w.heap.size+1) (w.alloc (.cells #[.int .i64 G, .string N, .string K, .string S] 86)) w')∨(S.toList.isEmpty=false∧O=S)) :
  Calls Tryz.prog 51 #[v, .agg #[.int .i64 G, .string N, .string K, .string S]] w fun e w'=>e=.returned (.string O)∧Below w.heap.size w w':=by
 rcases h with⟨he,hc⟩|⟨he,rfl⟩
 ·have HC:=hid hc
  clear hc
  go_enter Tryz.func51,Tryz.ntmps51
  go_wp2_with (go_at_call 85;refine HC.out.mono ?_;rintro e w2 ⟨rfl,hb2⟩;have HB2:=hid hb2;clear hb2)
  go_ret
  exact⟨rfl,((Below.refl _ _).alloc (Nat.le_refl _) _).trans (HB2.out.mono (Nat.le_succ _))⟩
 ·go_enter Tryz.func51,Tryz.ntmps51
  go_wp2_with fail
  go_ret
  exact⟨rfl,(Below.refl _ _).alloc (Nat.le_refl _) _⟩
theorem l3stand (x:Wf.Sc) (hx:Wf.ScOk x) (lo b:Nat) (v:Value) (f:Wf.Fd) (W w:World) (hW:Below W.heap.size W w) (H:ScSp W lo b v x) (hk:f.kind.text.length≤12) (hr:Wf.hasRef x f.kind=true) :
  Calls Tryz.prog 51 #[v, .agg #[.int .i64 f.tag,tx f.name,tx f.kind.text,tx f.given]] w fun e w'=>e=.returned (tx (Wf.standF x f))∧Below w.heap.size w w':=by
 refine l3stand_w v f.tag ⟨f.name.toArray⟩ ⟨f.kind.text.toArray⟩ ⟨f.given.toArray⟩ ⟨(Wf.standF x f).toArray⟩ w ?_
 unfold Wf.standF
 by_cases hg:f.given=[]
 ·left
  refine⟨by rw[ByteArray.toList_eq,hg];rfl, ?_⟩
  rw[if_pos hg]
  refine(l3stands x hx lo b v f.kind W _ (hW.alloc hW.size _) H hk hr).mono fun e w' ⟨h1,h2⟩=>⟨h1, ?_⟩
  have:(w.alloc (.cells #[.int .i64 f.tag, .string ⟨f.name.toArray⟩, .string ⟨f.kind.text.toArray⟩, .string ⟨f.given.toArray⟩] 86)).heap.size=w.heap.size+1:=by simp
  rw[← this];exact h2
 ·right
  refine⟨by rw[ByteArray.toList_eq];cases hh:f.given with|nil=>exact absurd hh hg|cons a r=>rfl,by rw[if_neg hg]⟩
def kindOf (l kt:List UInt8):Option (Wf.Sc × Wf.K):=match Wf.schemaOf l with
 | none=>none
 | some x=>match Wf.parseK kt with
  | none=>none
  | some k=>if Wf.hasRef x k=true then some (x,k) else none
def LkOut (l kt:List UInt8) (lo:Nat) (e:Ending) (w':World):Prop:=match kindOf l kt with
 | some y=>∃ b a c,e=.returned (.tuple #[.slice a y.1.length c, .bool true])∧ScSp w' lo b (.slice a y.1.length c) y.1
 | none=>∃ a n c,e=.returned (.tuple #[.slice a n c, .bool false])
theorem kindOf_text {l kt:List UInt8} {y:Wf.Sc × Wf.K} (h:kindOf l kt=some y):Wf.schemaOf l=some y.1∧Wf.parseK kt=some y.2∧Wf.hasRef y.1 y.2=true∧y.2.text=kt∧kt.length≤12:=by
 unfold kindOf at h
 cases hs:Wf.schemaOf l with
 | none=>rw[hs] at h;cases h
 | some x =>
  rw[hs] at h
  cases hk:Wf.parseK kt with
  | none=>rw[hk] at h;cases h
  | some k =>
   rw[hk] at h
   dsimp only at h
   split at h
   ·rename_i hr
    simp only[Option.some.injEq] at h
    subst h
    have hl:=parseK_len hk
    unfold Wf.parseK at hk
    split at hk
    ·exact⟨rfl,rfl,hr,Wf.kindIn_text hk,by assumption⟩
    ·cases hk
   ·cases h
theorem lk_fin {l kt:List UInt8} {x:Wf.Sc} {k:Wf.K} {is ok:Bool} {n lo b c:Nat} {a:Option Addr} {w':World} (h:kindOf l kt=if (!is || ok)=true then some (x,k) else none) (hn:x.length=n) (hs:ScSp w' lo b (.slice a n c) x) {r:Bool} (hr:r=(!is || ok)):LkOut l kt lo (.returned (.tuple #[.slice a n c, .bool r])) w':=by
 subst hr
 unfold LkOut
 rw[h]
 cases hb:(!is || ok) with
 | true=>rw[if_pos rfl];exact⟨b,a,c,by rw[hn],by rw[hn];exact hs⟩
 | false=>rw[if_neg (by decide)];exact⟨_,_,_,rfl⟩
set_option maxRecDepth 20000 in
set_option maxHeartbeats 1000000 in
theorem l3Kind (s kt:ByteArray) (w:World) (hs:s.size≤1048576):Calls Tryz.prog 35 #[.string s, .string kt] w fun e w'=>LkOut s.data.toList kt.data.toList w.heap.size e w'∧Below w.heap.size w w':=by
 have HOF:=hid fun wz=>l3Of s wz hs
 have HOK:=hid fun wz=>kindOk_spec kt.size kt wz (Nat.le_refl _)
 cases hsc:Wf.schemaOf s.data.toList with
 | none =>
  have HO:=hid fun e lo wz (h:OfOut s.data.toList lo e wz)=>(by unfold OfOut at h;rw[hsc] at h;exact h:∃ a n c,e=.returned (.tuple #[.slice a n c, .bool false]))
  have HF:=hid (show kindOf s.data.toList kt.data.toList=none by unfold kindOf;rw[hsc])
  clear hsc
  go_enter Tryz.func35,Tryz.ntmps35
  go_wp2_with (go_at_call 71;refine(HOF.out _).mono ?_;rintro e w2 ⟨ho,hb2⟩;obtain⟨a,n,c,rfl⟩:=HO.out _ _ _ ho;have HB2:=hid hb2;clear ho hb2)
  go_ret2
  exact⟨by unfold LkOut;rw[HF.out];exact⟨_,_,_,rfl⟩,HB2.out⟩
 | some x =>
  have hx8:=(Wf.schemaOf_ok hsc).len
  have HO:=hid fun e lo wz (h:OfOut s.data.toList lo e wz)=>(by unfold OfOut at h;rw[hsc] at h;obtain⟨b,v,he,hsp⟩:=h;obtain⟨a,c,rfl,_⟩:=hsp.slice;exact⟨b,a,c,he,hsp⟩:∃ b a c,e=.returned (.tuple #[.slice a x.length c, .bool true])∧ScSp wz lo b (.slice a x.length c) x)
  obtain⟨n,hn⟩:∃ n,x.length=n:=⟨_,rfl⟩
  rw[hn] at HO
  have HN:=hid hn
  cases hk:Wf.parseK kt.data.toList with
  | none =>
   rw[ok_none hk] at HOK
   have HF:=hid (show kindOf s.data.toList kt.data.toList=none by unfold kindOf;rw[hsc];dsimp only;rw[hk])
   clear hsc hk hn
   go_enter Tryz.func35,Tryz.ntmps35
   go_wp2_with (first|(go_at_call 72;refine(HOK.out _).mono ?_;rintro e w3 ⟨rfl,rfl⟩)|(go_at_call 71;refine(HOF.out _).mono ?_;rintro e w2 ⟨ho,hb2⟩;obtain⟨b,a,c,rfl,hs2⟩:=HO.out _ _ _ ho;have HB2:=hid hb2;clear ho hb2 hs2))
   go_ret2
   exact⟨by unfold LkOut;rw[HF.out];exact⟨_,_,_,rfl⟩,HB2.out⟩
  | some k =>
   rw[ok_some hk] at HOK
   have hkl:=parseK_len hk
   have hkt:tx k.text=.string kt:=by
    unfold Wf.parseK at hk
    split at hk
    ·rw[Wf.kindIn_text hk]
    ·cases hk
   have HCORE:=hid fun wz=>l2Core_text k (by omega) wz
   have hcl:=core_len k
   have HREF:=hid fun wz=>l2Ref_text k.core (by omega) wz
   obtain⟨NM,is,hri,hhas⟩:=core_is x k
   rw[hri] at HREF
   have HFIND:=hid fun wz lo b v (h:ScSp wz lo b v x)=>(l3findAny x lo b v NM wz wz (Below.refl _ _) (by omega) h)
   obtain⟨CT,hCT⟩:∃ CT:ByteArray,(⟨k.core.text.toArray⟩:ByteArray)=CT:=⟨_,rfl⟩
   rw[hkt] at HCORE
   simp only[tx,hCT] at HCORE HREF
   obtain⟨ok,hokk⟩:∃ ok,(x.find NM.data.toList).isSome=ok:=⟨_,rfl⟩
   rw[hokk] at hhas HFIND
   have HF:=hid (show kindOf s.data.toList kt.data.toList=if (!is || ok)=true then some (x,k) else none by unfold kindOf;rw[hsc];dsimp only;rw[hk];dsimp only;rw[hhas])
   clear hsc hk hn hhas hokk hCT hri hcl hkl hkt
   have hcs:(is=false)∨(is=true∧ok=true)∨(is=true∧ok=false):=by cases is <;> cases ok <;> simp
   go_enter Tryz.func35,Tryz.ntmps35
   go_wp2_with (first|(go_at_call 75;refine(HFIND.out _ _ _ _ HS.out).mono ?_;rintro e w5 ⟨⟨fq,fN,fA,fM,fC,rfl⟩,hb5⟩;have HB5:=hid hb5;clear hb5)|(go_at_call 73;refine(HREF.out _).mono ?_;rintro e w4 ⟨rfl,rfl⟩)|(go_at_call 74;refine(HCORE.out _).mono ?_;rintro e w3 ⟨rfl,rfl⟩)|(go_at_call 72;refine(HOK.out _).mono ?_;rintro e w3 ⟨rfl,rfl⟩)|(go_at_call 71;refine(HOF.out _).mono ?_;rintro e w2 ⟨ho,hb2⟩;obtain⟨b,a,c,rfl,hs2⟩:=HO.out _ _ _ ho;have HS:=hid hs2;have HB2:=hid hb2;clear ho hb2 hs2))
   all_goals go_ret2
   ·exact⟨lk_fin (is:=is) (ok:=ok) HF.out HN.out (HS.out.below HB5.out |>.below ((Below.refl _ _).alloc (Nat.le_refl _) _)) (by simp[*]),(HB2.out.trans (HB5.out.mono HB2.out.size)).alloc (Nat.le_trans HB2.out.size HB5.out.size) _⟩
   ·exact⟨lk_fin (is:=is) (ok:=ok) HF.out HN.out (HS.out.below HB5.out |>.below ((Below.refl _ _).alloc (Nat.le_refl _) _)) (by simp[*]),(HB2.out.trans (HB5.out.mono HB2.out.size)).alloc (Nat.le_trans HB2.out.size HB5.out.size) _⟩
def okL (l:List UInt8):Bool:=(Wf.schemaOf l).isSome
theorem apart_step {v v':Value} {wx w':World} (hg:wx.grownBy w' v.ownBlock) (hl:v'.ownBlock=v.ownBlock∨v'.ownBlock=some wx.heap.size) {b:Nat} (hb:b<wx.heap.size) (ha:some b≠v.ownBlock):w'.heap[b]? = wx.heap[b]? ∧ some b≠v'.ownBlock:=by
 refine⟨hg.block b hb ha, ?_⟩
 rcases hl with h|h
 ·rw[h];exact ha
 ·rw[h];intro e;have:=Option.some.inj e;omega
structure Gat (w w2 wr:World) (e:TypeId) (b:Nat) (v:Value) (n:Nat) (xs:List Value):Prop where
 own:wr.ownsRow w.heap.size e 1 v n xs
 size:w2.heap.size≤wr.heap.size
 block:wr.heap[b]? = w2.heap[b]?
 apart:some b≠v.ownBlock
 below:Below w.heap.size w wr
theorem Gat.cell {w w2 wr:World} {e:TypeId} {b:Nat} {v:Value} {n:Nat} {xs:List Value} (h:Gat w w2 wr e b v n xs) {o:Nat} {u:Value} (hu:w2.cell? ⟨b,o,none⟩=some u):wr.cell? ⟨b,o,none⟩=some u:=(World.cell?_of_block (w:=w2) (a:=⟨b,o,none⟩) h.block).trans hu
theorem Gat.put {w w2 wr w':World} {e:TypeId} {b:Nat} {v v':Value} {n m:Nat} {xs ys:List Value} {o:Obj} (h:Gat w w2 wr e b v n xs) (hb:b<w2.heap.size) (hg:(wr.alloc o).grownBy w' v.ownBlock) (hl:v'.ownBlock=v.ownBlock∨v'.ownBlock=some (wr.alloc o).heap.size) (ho:w'.ownsRow w.heap.size e 1 v' m ys):Gat w w2 w' e b v' m ys:=by
 have hbr:b<wr.heap.size:=Nat.lt_of_lt_of_le hb h.size
 have hs:(wr.alloc o).heap.size=wr.heap.size+1:=by simp
 obtain⟨a1,a2⟩:=apart_step hg hl (by omega) h.apart
 refine⟨ho, ?_, ?_,a2, ?_⟩
 ·have:=hg.size;have:=h.size;omega
 ·rw[a1]
  have hA:=(Below.refl wr.heap.size wr).alloc (Nat.le_refl _) o
  rw[hA.block b hbr,h.block]
 ·refine(h.below.alloc h.below.size o).trans ?_
  refine below_grown2 hg (fun g hgk=>(owns_lt h.own g hgk).1) ?_
  have:=h.below.size;omega
theorem info_int:(Tryz.prog.info? 3).map (fun i=>(i.zero,i.size,i.bytes))=some (some (.int .i64 0),1,8):=by kernel_rfl
end Go.Proofs.YtmdacedmjbiekaaGreatDoor

namespace Go.Proofs.YtmdacedmjbiekaaGreatDoor
open Go.ChangeShapes Go.WideShapes Go.ChangeAt Go.RowKit Go.Lib
set_option linter.unusedVariables false
set_option linter.unusedSimpArgs false
structure KOk (x:Wf.Sc) (k:Wf.K):Prop where
 len:k.text.length≤12
 ref:Wf.hasRef x k=true
def RdOut (o:Option (Wf.V × List UInt8)) (s:List UInt8) (rb sb:Nat) (w:World) (e:Ending) (w':World):Prop :=
 ∃ cs v r,e=.returned (.agg cs.toArray)∧VC w' (fun b=>w.heap.size≤b) v cs∧Beside rb w w'∧((o=some (v,r)∧Sn w' rb sb r false)∨(o=none∧Wf.Badv s r v∧Sn w' rb sb r true))
structure Bld (w wr:World) (rb vb base:Nat) (q:Nat) (a:Option Addr) (c:Nat) (l:List Wf.V) (es:List (List Value)):Prop where
 fr:Beside rb w wr
 vw:w.heap.size≤vb
 vlt:vb<base
 sz:base≤wr.heap.size
 v0:wr.cell? ⟨vb,0,none⟩=some (.int .u8 q)
 v1:wr.cell? ⟨vb,1,none⟩=some (tx [])
 v2:wr.cell? ⟨vb,2,none⟩=some (.int .i64 0)
 v3:wr.cell? ⟨vb,3,none⟩=some (.slice a es.length c)
 f3:wr.frozen? ⟨vb,3,none⟩=false
 own:wr.ownsRow base 92 4 (.slice a es.length c) es.length es.flatten
 he:∀ e∈es,e.length=4
 hl:es.length=l.length
 vals:∀ i (h1:i<es.length) (h2:i<l.length),VC wr (fun b=>base≤b∧some b≠(Value.slice a es.length c).ownBlock) l[i] es[i]
section
variable {w wr:World} {rb vb base q:Nat} {a:Option Addr} {c:Nat} {l:List Wf.V} {es:List (List Value)}
theorem owns_beside {w w':World} {b rb:Nat} {e:TypeId} {size:Nat} {v:Value} {n:Nat} {xs:List Value} (h:w.ownsRow b e size v n xs) (hb:Beside rb w w') (hr:rb<b):w'.ownsRow b e size v n xs:=by
 obtain⟨h1,h2|⟨g,cap,cur,h3,h4,h5,h6⟩⟩:=h
 ·exact⟨h1, .inl h2⟩
 ·refine⟨h1, .inr ⟨g,cap,cur,h3,h4, ?_,h6⟩⟩
  rw[hb.block g (Array.getElem?_eq_some_iff.1 h5).1 (by omega)];exact h5
theorem Beside.frozen {rb:Nat} {w w':World} (h:Beside rb w w') {p:Addr} (hp:p.block<w.heap.size) (hr:p.block≠rb):w'.frozen? p=w.frozen? p:=World.frozen?_of_block (w:=w) (h.block p.block hp hr)
theorem Bld.step (h:Bld w wr rb vb base q a c l es) (hr:rb<w.heap.size) {w2:World} (hb:Beside rb wr w2):Bld w w2 rb vb base q a c l es:=by
 have h1:=h.vw
 have h2:=h.vlt
 have h3:=h.sz
 have hv:vb<wr.heap.size:=by omega
 have hn:vb≠rb:=by omega
 exact⟨h.fr.trans hb,h1,h2,Nat.le_trans h3 hb.size,(hb.cell (p:=⟨vb,0,none⟩) hv hn).trans h.v0,(hb.cell (p:=⟨vb,1,none⟩) hv hn).trans h.v1,(hb.cell (p:=⟨vb,2,none⟩) hv hn).trans h.v2,(hb.cell (p:=⟨vb,3,none⟩) hv hn).trans h.v3,(hb.frozen (p:=⟨vb,3,none⟩) hv hn).trans h.f3,owns_beside h.own hb (by omega),h.he,h.hl,
  fun i g1 g2=>VC.keep (fun b hp hlt=>⟨hp,hb.block b hlt (by omega)⟩) hb.size _ _ (h.vals i g1 g2)⟩
theorem Bld.put (h:Bld w wr rb vb base q a c l es) (hr:rb<w.heap.size) {wx w4:World} (hx:Beside rb wr wx) (hg:wx.grownBy w4 (Value.slice a es.length c).ownBlock) {a':Option Addr} {c':Nat} {cs:List Value} {v:Wf.V}
  (hvc:VC wx (fun b=>wr.heap.size≤b) v cs) (ho:w4.ownsRow base 92 4 (.slice a' (es.length+1) c') (es.length+1) (es.flatten++cs))
  (hloc:(Value.slice a' (es.length+1) c').ownBlock=(Value.slice a es.length c).ownBlock∨(Value.slice a' (es.length+1) c').ownBlock=some wx.heap.size) :
  Bld w (w4.setCell ⟨vb,3,none⟩ (.slice a' (es.length+1) c')) rb vb base q a' c' (l++[v]) (es++[cs]):=by
 have hs:=h.step hr hx
 have h1:=h.vw
 have h2:=h.vlt
 have h3:=hs.sz
 have hlen:(es++[cs]).length=es.length+1:=by simp
 have hlo:=owns_lt hs.own
 have hown:∀ g,(Value.slice a es.length c).ownBlock=some g→base≤g∧g<wr.heap.size:=fun g hg=>owns_lt h.own g hg
 have hB:Below base wx w4:=below_grown2 hg (fun g hgk=>(hlo g hgk).1) h3
 have hvB:vb<base:=h2
 have hss:(w4.setCell ⟨vb,3,none⟩ (.slice a' (es.length+1) c')).heap.size=w4.heap.size:=by simp
 have c3:w4.cell? ⟨vb,3,none⟩=some (.slice a es.length c):=(hB.cell (p:=⟨vb,3,none⟩) hvB).trans hs.v3
 -- a block that is not the row's is as it was
 have hkeep:∀ b,base≤b→b<wx.heap.size→some b≠(Value.slice a es.length c).ownBlock→some b≠(Value.slice a' (es.length+1) c').ownBlock∧(w4.setCell ⟨vb,3,none⟩ (.slice a' (es.length+1) c')).heap[b]? = wx.heap[b]?:=fun b hb1 hb2 hb3=>by
  obtain⟨e1,e2⟩:=apart_step hg hloc hb2 hb3
  refine⟨e2, ?_⟩
  rw[Below.heap_setCell w4 ⟨vb,3,none⟩ _ _ (by show b≠vb;omega)]
  exact e1
 refine⟨?_,h1,h2,by rw[hss];exact Nat.le_trans h3 hB.size, ?_, ?_, ?_, ?_, ?_, ?_, ?_, ?_, ?_⟩
 ·have hS:=Below.setCell (B:=vb) (Below.refl vb w4) (p:=⟨vb,3,none⟩) (Nat.le_refl _) (.slice a' (es.length+1) c')
  exact⟨hS.os.trans (hB.os.trans hs.fr.os),hS.tape.trans (hB.tape.trans hs.fr.tape),hS.output.trans (hB.output.trans hs.fr.output),by rw[hss];exact Nat.le_trans hs.fr.size hB.size,fun k hk hkr=>(Below.heap_setCell w4 ⟨vb,3,none⟩ _ k (by show k≠vb;omega)).trans ((hB.block k (by omega)).trans (hs.fr.block k hk hkr))⟩
 ·exact(World.cell?_setCell_other w4 _ _ _ (by simp)).trans ((hB.cell (p:=⟨vb,0,none⟩) hvB).trans hs.v0)
 ·exact(World.cell?_setCell_other w4 _ _ _ (by simp)).trans ((hB.cell (p:=⟨vb,1,none⟩) hvB).trans hs.v1)
 ·exact(World.cell?_setCell_other w4 _ _ _ (by simp)).trans ((hB.cell (p:=⟨vb,2,none⟩) hvB).trans hs.v2)
 ·rw[hlen];exact World.cell?_setCell_same w4 _ _ c3
 ·have:=(hB.frozen (p:=⟨vb,3,none⟩) hvB).trans hs.f3
  simpa using this
 ·rw[hlen,List.flatten_append,List.flatten_cons,List.flatten_nil,List.append_nil]
  exact ownsRow_setCell_below ho hvB _
 ·intro e he
  rcases List.mem_append.1 he with he|he
  ·exact h.he e he
  ·rw[List.mem_singleton.1 he];exact hvc.len
 ·rw[hlen,List.length_append,h.hl];rfl
 ·intro i g1 g2
  rw[hlen]
  by_cases hi:i<es.length
  ·have hil:i<l.length:=by have:=h.hl;omega
   rw[List.getElem_append_left hi,List.getElem_append_left hil]
   exact VC.keep (fun b hp hlt=>by
    obtain⟨e1,e2⟩:=hkeep b hp.1 hlt hp.2
    exact⟨⟨hp.1,e1⟩,e2⟩) (by rw[hss];exact hB.size) _ _ (hs.vals i hi hil)
  ·have hie:i=es.length:=by simp at g1;omega
   subst hie
   rw[List.getElem_append_right (Nat.le_refl _)]
   have e2:(l++[v])[es.length]'g2=v:=by
    rw[List.getElem_append_right (by rw[h.hl];exact Nat.le_refl _)]
    simp[h.hl]
   rw[e2]
   simp only[Nat.sub_self,List.getElem_cons_zero]
   exact VC.keep (fun b hp hlt=>by
    have hb3:some b≠(Value.slice a es.length c).ownBlock:=fun he=>by
     have:=(hown b he.symm).2
     omega
    have hb1:base≤b:=Nat.le_trans h.sz hp
    obtain⟨e1,e2⟩:=hkeep b hb1 hlt hb3
    exact⟨⟨hb1,e1⟩,e2⟩) (by rw[hss];exact hB.size) _ _ hvc
end
end Go.Proofs.YtmdacedmjbiekaaGreatDoor

namespace Wf
set_option linter.unusedVariables false
set_option linter.unusedSimpArgs false
def not39 (c:UInt8):Bool:=c != 39
theorem txt_not39 {c:UInt8} (h:isTxt c=true):not39 c=true:=by
 unfold not39
 rw[bne_iff_ne]
 intro e
 rw[e,isTxt_39] at h
 cases h
theorem span_split {p q:UInt8→Bool} (hpq:∀ c,p c=true→q c=true):∀ (b:Bs) (c:UInt8) (r:Bs),b.all p=true→q c=false→(b++c::r).takeWhile q=b∧(b++c::r).dropWhile q=c::r:=by
 intro b
 induction b with
 | nil=>intro c r _ hc;simp[hc]
 | cons a b ih =>
  intro c r hb hc
  simp only[List.all_cons,Bool.and_eq_true] at hb
  obtain⟨h1,h2⟩:=ih c r hb.2 hc
  simp[hpq a hb.1,h1,h2]
def txtEnd (s:Bs):Nat:=min (1+(s.tail.takeWhile not39).length+1) s.length
theorem txtEnd_le (s:Bs):txtEnd s≤s.length:=Nat.min_le_right _ _
theorem parse_txt_ref (x:Sc) (n:Nat) (c0:UInt8) (r:Bs):parse x (n+1) .txt (c0::r)=if quoted ((c0::r).take (txtEnd (c0::r)))=true then some (.mk 116 ((c0::r).take (txtEnd (c0::r))).tail.dropLast 0 [],(c0::r).drop (txtEnd (c0::r))) else none:=by
 have hsp:=List.takeWhile_append_dropWhile (p:=not39) (l:=r)
 cases hd:r.dropWhile not39 with
 | nil =>
  rw[hd,List.append_nil] at hsp
  have hno:(39:UInt8) ∉ r:=by
   intro hm
   rw[← hsp] at hm
   have hall:(r.takeWhile not39).all not39=true:=List.all_takeWhile
   have:=List.all_eq_true.1 hall 39 hm
   simp[not39] at this
  have he:txtEnd (c0::r)=(c0::r).length:=by
   unfold txtEnd
   rw[List.tail_cons,hsp]
   simp
  rw[he,List.take_length,if_neg]
  ·by_cases h0:c0=39
   ·subst h0
    refine parse_txt_no2 x n rfl ?_
    intro h
    have hm:(39:UInt8)∈r.dropWhile isTxt:=List.mem_of_head? h
    exact hno ((List.dropWhile_sublist _).subset hm)
   ·exact parse_txt_no1 x n (by simpa using h0)
  ·intro hq
   obtain⟨b,hb,_,_⟩:=quoted_iff.1 hq
   simp only[List.cons.injEq] at hb
   exact hno (by rw[hb.2];simp)
 | cons d q =>
  have hd39:d=39:=by
   have:=List.head?_dropWhile_not (p:=not39) (l:=r)
   rw[hd] at this
   simpa[not39] using this
  subst hd39
  rw[hd] at hsp
  obtain⟨b,hbdef⟩:∃ b,r.takeWhile not39=b:=⟨_,rfl⟩
  rw[hbdef] at hsp
  have he:txtEnd (c0::r)=b.length+2:=by
   unfold txtEnd
   rw[List.tail_cons,hbdef,← hsp]
   simp
   omega
  have ht:(c0::r).take (b.length+2)=c0::(b++[39]):=by
   rw[← hsp,List.take_succ_cons,List.take_append,List.take_of_length_le (by omega)]
   simp
  have hdr:(c0::r).drop (b.length+2)=q:=by
   rw[← hsp,List.drop_succ_cons,List.drop_append,List.drop_of_length_le (by omega)]
   simp
  rw[he,ht,hdr]
  have htl:(c0::(b++[39])).tail.dropLast=b:=by simp
  rw[htl]
  have hb39:b.all not39=true:=by rw[← hbdef];exact List.all_takeWhile
  by_cases h0:c0=39
  ·subst h0
   by_cases hall:b.all isTxt=true
   ·obtain⟨e1,e2⟩:=span_split (p:=isTxt) (q:=isTxt) (fun _ h=>h) b 39 q hall isTxt_39
    rw[hsp] at e1 e2
    by_cases hl:b.length≤12
    ·rw[if_pos (quoted_iff.2 ⟨b,rfl,hall,hl⟩),parse_txt_yes x n rfl e2 (by rw[e1];exact hl),e1]
    ·rw[if_neg,parse_txt_no3 x n rfl (by rw[e1];exact hl)]
     intro hq
     obtain⟨b',hb',_,h12⟩:=quoted_iff.1 hq
     simp only[List.cons.injEq,true_and] at hb'
     have:=congrArg List.length hb'
     simp at this
     omega
   ·rw[if_neg]
    ·refine parse_txt_no2 x n rfl ?_
     intro h
     cases hdd:r.dropWhile isTxt with
     | nil=>rw[hdd] at h;simp at h
     | cons d2 q2 =>
      rw[hdd] at h
      simp only[List.head?_cons,Option.some.injEq] at h
      subst h
      have hs2:=List.takeWhile_append_dropWhile (p:=isTxt) (l:=r)
      rw[hdd] at hs2
      have ha2:(r.takeWhile isTxt).all isTxt=true:=List.all_takeWhile
      obtain⟨e1,_⟩:=span_split (p:=isTxt) (q:=not39) (fun _ h=>txt_not39 h) (r.takeWhile isTxt) 39 q2 ha2 (by decide)
      rw[hs2,hbdef] at e1
      rw[e1] at hall
      exact hall ha2
    ·intro hq
     obtain⟨b',hb',ha,_⟩:=quoted_iff.1 hq
     simp only[List.cons.injEq,true_and] at hb'
     have:=List.append_inj_left' hb' rfl
     rw[this] at hall
     exact hall ha
  ·rw[if_neg,parse_txt_no1 x n (by simpa using h0)]
   intro hq
   obtain⟨b',hb',_,_⟩:=quoted_iff.1 hq
   simp only[List.cons.injEq] at hb'
   exact h0 hb'.1
end Wf

namespace Wf
set_option linter.unusedVariables false
set_option linter.unusedSimpArgs false
theorem parse_yes (x:Sc) (n:Nat) (q:Bs):parse x (n+1) .flag (121::101::115::q)=some (.mk 102 [121,101,115] 0 [],q):=by simp only[parse]
theorem parse_no (x:Sc) (n:Nat) (q:Bs):parse x (n+1) .flag (110::111::q)=some (.mk 102 [110,111] 0 [],q):=by simp only[parse]
theorem parse_flag_none (x:Sc) (n:Nat) {s:Bs} (h1:¬ [121,101,115] <+: s) (h2:¬ [110,111] <+: s):parse x (n+1) .flag s=none:=by
 simp only[parse]
 split
 ·rename_i q;exact absurd ⟨q,rfl⟩ h1
 ·rename_i q;exact absurd ⟨q,rfl⟩ h2
 ·rfl
theorem parse_nil (x:Sc) (n:Nat) (k:K):parse x n k []=none:=by
 cases hp:parse x n k [] with
 | none=>rfl
 | some y=>have:=parse_lt (v:=y.1) (r:=y.2) hp;simp at this
theorem parse_zero (x:Sc) (k:K) (s:Bs):parse x 0 k s=none:=rfl
def itemsL (p:Reads) (acc:List V) (s:Bs):Option (List V × Bs):=match items p s with
 | some (l,q)=>if acc.length+l.length≤20 then some (acc++l,q) else none
 | none=>none
theorem itemsL_step {p:Reads} (hp:∀ s v r,p s=some (v,r)→r.length<s.length) (acc:List V) (s:Bs):itemsL p acc s=match p s with
  | none=>none
  | some (v,rest) =>
   match rest with
   | 44::r=>itemsL p (acc++[v]) r
   | 93::r=>if acc.length+1≤20 then some (acc++[v],r) else none
   | _=>none:=by
 unfold itemsL
 rw[items_step hp]
 cases hq:p s with
 | none=>rfl
 | some y =>
  obtain⟨v,rest⟩:=y
  dsimp only
  split
  ·rename_i l q hl
   split at hl
   ·rename_i r
    rw[Option.map_eq_some_iff] at hl
    obtain⟨z,hz,hz2⟩:=hl
    simp only[Prod.mk.injEq] at hz2
    obtain⟨rfl,rfl⟩:=hz2
    simp only[hz]
    simp only[List.length_cons,List.length_append,List.length_nil,List.append_assoc,List.cons_append,List.nil_append]
    by_cases h20:acc.length+(z.1.length+1)≤20
    ·rw[if_pos h20,if_pos (by omega)]
    ·rw[if_neg h20,if_neg (by omega)]
   ·simp only[Option.some.injEq,Prod.mk.injEq] at hl
    obtain⟨rfl,rfl⟩:=hl
    rfl
   ·cases hl
  ·rename_i hl
   split at hl
   ·rename_i r
    rw[Option.map_eq_none_iff] at hl
    simp only[hl]
   ·cases hl
   ·rename_i h1 h2
    split
    ·exact(h1 _ rfl).elim
    ·exact(h2 _ rfl).elim
    ·rfl
theorem itemsL_full {p:Reads} (hp:∀ s v r,p s=some (v,r)→r.length<s.length) {acc:List V} (h:20≤acc.length) (s:Bs):itemsL p acc s=none:=by
 unfold itemsL
 cases hi:items p s with
 | none=>rfl
 | some y =>
  have:=List.length_pos_iff.2 (items_ne hp (l:=y.1) (q:=y.2) hi)
  dsimp only
  rw[if_neg (by omega)]
theorem itemsL_nil {p:Reads} (s:Bs):itemsL p [] s=match items p s with
  | none=>none
  | some (l,q)=>if l.length≤20 then some (l,q) else none:=by
 unfold itemsL
 cases items p s with
 | none=>rfl
 | some y=>simp
theorem parse_list_no (x:Sc) (n:Nat) (k:K) {s:Bs} (h:s.head? ≠ some 91):parse x (n+1) (.list k) s=none:=by
 rw[parse_list]
 split
 ·simp at h
 ·rfl
theorem parse_list_nil (x:Sc) (n:Nat) (k:K) (q:Bs):parse x (n+1) (.list k) (91::93::q)=some (.mk 91 [] 0 [],q):=by simp only[parse_list]
theorem parse_list_items (x:Sc) (n:Nat) (k:K) {r:Bs} (h:r.head? ≠ some 93):parse x (n+1) (.list k) (91::r)=(itemsL (parse x n k) [] r).map fun y=>(.mk 91 [] 0 y.1,y.2):=by
 simp only[parse_list]
 split
 ·simp at h
 ·rw[itemsL_nil]
  cases items (parse x n k) r with
  | none=>rfl
  | some y=>simp only[];split <;> rfl
theorem parse_opt_none (x:Sc) (n:Nat) (k:K) (q:Bs):parse x (n+1) (.opt k) (45::q)=some (.mk 63 [] 0 [],q):=by simp only[parse_opt]
theorem parse_opt_some (x:Sc) (n:Nat) (k:K) (r:Bs):parse x (n+1) (.opt k) (43::r)=(parse x n k r).map fun y=>(.mk 63 [] 0 [y.1],y.2):=by simp only[parse_opt]
theorem parse_opt_no (x:Sc) (n:Nat) (k:K) {s:Bs} (h1:s.head? ≠ some 45) (h2:s.head? ≠ some 43):parse x (n+1) (.opt k) s=none:=by
 rw[parse_opt]
 split
 ·simp at h1
 ·simp at h2
 ·rfl
def fldsL (x:Sc) (t:Ty) (p:K→Reads) (acc:List V) (last:Nat) (s:Bs):Option (List V × Bs):=(flds x t p last s).map fun y=>(acc++y.1,y.2)
theorem fldsL_step {x:Sc} {t:Ty} {p:K→Reads} (hp:∀ k s v r,p k s=some (v,r)→r.length<s.length) (acc:List V) (last:Nat) (s:Bs):fldsL x t p acc last s=match fieldTok t p s with
  | none=>none
  | some (f,v,rest) =>
   if f.tag≤last∨v.print=standF x f then none else
   match rest with
   | 44::r=>fldsL x t p (acc++[.mk 61 [] f.tag [v]]) f.tag r
   | 125::r=>some (acc++[.mk 61 [] f.tag [v]],r)
   | _=>none:=by
 unfold fldsL
 rw[flds_step hp]
 cases hq:fieldTok t p s with
 | none=>rfl
 | some y =>
  obtain⟨f,v,rest⟩:=y
  dsimp only
  split
  ·rfl
  ·split
   ·rw[Option.map_map]
    congr 1
    funext y
    simp
   ·rfl
   ·rename_i h1 h2
    split
    ·exact(h1 _ rfl).elim
    ·exact(h2 _ rfl).elim
    ·rfl
theorem parse_rec_no (x:Sc) (n:Nat) {nm:Bs} {t:Ty} (h:x.find nm=some t) (h82:t.sort=82) {s:Bs} (hs:s.head? ≠ some 123):parse x (n+1) (.ref nm) s=none:=by
 rw[parse_ref x n nm t h,parseTy_rec _ _ _ _ h82]
 split
 ·simp at hs
 ·rfl
theorem parse_rec_nil (x:Sc) (n:Nat) {nm:Bs} {t:Ty} (h:x.find nm=some t) (h82:t.sort=82) (q:Bs):parse x (n+1) (.ref nm) (123::125::q)=some (.mk 82 [] 0 [],q):=by
 simp only[parse_ref x n nm t h,parseTy_rec _ _ _ _ h82]
theorem parse_rec_flds (x:Sc) (n:Nat) {nm:Bs} {t:Ty} (h:x.find nm=some t) (h82:t.sort=82) {r:Bs} (hr:r.head? ≠ some 125):parse x (n+1) (.ref nm) (123::r)=(fldsL x t (fun k' s'=>parse x n k' s') [] 0 r).map fun y=>(.mk 82 [] 0 y.1,y.2):=by
 simp only[parse_ref x n nm t h,parseTy_rec _ _ _ _ h82]
 split
 ·simp at hr
 ·unfold fldsL
  rw[Option.map_map]
  congr 1
theorem parse_uni_no (x:Sc) (n:Nat) {nm:Bs} {t:Ty} (h:x.find nm=some t) (h85:t.sort=85) {s:Bs} (hs:s.head? ≠ some 60):parse x (n+1) (.ref nm) s=none:=by
 rw[parse_ref x n nm t h,parseTy_uni _ _ _ _ h85]
 split
 ·simp at hs
 ·rfl
theorem parse_uni_some (x:Sc) (n:Nat) {nm:Bs} {t:Ty} (h:x.find nm=some t) (h85:t.sort=85) {r q:Bs} {f:Fd} {v:V} (hf:fieldTok t (fun k' s'=>parse x n k' s') r=some (f,v,62::q)):parse x (n+1) (.ref nm) (60::r)=some (.mk 85 [] f.tag [v],q):=by
 simp only[parse_ref x n nm t h,parseTy_uni _ _ _ _ h85,hf]
 rfl
theorem parse_uni_open (x:Sc) (n:Nat) {nm:Bs} {t:Ty} (h:x.find nm=some t) (h85:t.sort=85) {r q:Bs} {f:Fd} {v:V} (hf:fieldTok t (fun k' s'=>parse x n k' s') r=some (f,v,q)) (hq:q.head? ≠ some 62):parse x (n+1) (.ref nm) (60::r)=none:=by
 simp only[parse_ref x n nm t h,parseTy_uni _ _ _ _ h85,hf]
 unfold closeU
 split
 ·simp at hq
 ·rfl
theorem parse_uni_bad (x:Sc) (n:Nat) {nm:Bs} {t:Ty} (h:x.find nm=some t) (h85:t.sort=85) {r:Bs} (hf:fieldTok t (fun k' s'=>parse x n k' s') r=none):parse x (n+1) (.ref nm) (60::r)=none:=by
 simp only[parse_ref x n nm t h,parseTy_uni _ _ _ _ h85,hf]
theorem parse_enm_no (x:Sc) (n:Nat) {nm:Bs} {t:Ty} (h:x.find nm=some t) (h69:t.sort=69) {s:Bs} (hs:s.head? ≠ some 35):parse x (n+1) (.ref nm) s=none:=by
 rw[parse_ref x n nm t h,parseTy_enm _ _ _ _ h69]
 split
 ·simp at hs
 ·rfl
theorem parse_enm_num (x:Sc) (n:Nat) {nm:Bs} {t:Ty} (h:x.find nm=some t) (h69:t.sort=69) {r:Bs} (hr:numTok 200 r=none):parse x (n+1) (.ref nm) (35::r)=none:=by
 simp only[parse_ref x n nm t h,parseTy_enm _ _ _ _ h69,hr]
theorem parse_enm_tag (x:Sc) (n:Nat) {nm:Bs} {t:Ty} (h:x.find nm=some t) (h69:t.sort=69) {r q:Bs} {g:Nat} (hr:numTok 200 r=some (g,q)):parse x (n+1) (.ref nm) (35::r)=if (t.field g).isSome then some (.mk 69 [] g [],q) else none:=by
 simp only[parse_ref x n nm t h,parseTy_enm _ _ _ _ h69,hr]
theorem fieldTok_no (t:Ty) (p:K→Reads) {s:Bs} (h:numTok 200 s=none):fieldTok t p s=none:=by
 unfold fieldTok
 rw[h]
theorem fieldTok_eq (t:Ty) (p:K→Reads) {s r:Bs} {g:Nat} (h:numTok 200 s=some (g,r)) (hr:r.head? ≠ some 61):fieldTok t p s=none:=by
 unfold fieldTok
 rw[h]
 dsimp only
 split
 ·simp at hr
 ·rfl
theorem fieldTok_tag (t:Ty) (p:K→Reads) {s r:Bs} {g:Nat} (h:numTok 200 s=some (g,r)) (hf:t.field g=none):fieldTok t p s=none:=by
 unfold fieldTok
 simp only[h,hf]
theorem fieldTok_some (t:Ty) (p:K→Reads) {s r:Bs} {g:Nat} {f:Fd} (h:numTok 200 s=some (g,61::r)) (hf:t.field g=some f):fieldTok t p s=(p f.kind r).map fun y=>(f,y.1,y.2):=by
 unfold fieldTok
 simp only[h,hf]
end Wf
