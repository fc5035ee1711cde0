/- Packed by pack.py: Jd Yz PlainA PlainF PlainG PlainH PlainI PlainJ PlainK PlainL PlainM PlainN PlainO Ya. -/
import Derived.Test.YtmdacedmjbiekaaGreatDoorR31
import Derived.Test.YtmdacedmjbiekaaGreatDoorR24
import Derived.Test.YtmdacedmjbiekaaGreatDoorR18
import Derived.Test.YtmdacedmjbiekaaGreatDoorR9
import Derived.Deep.AppendLies
import Derived.Test.YtmdacedmjbiekaaGreatDoorR0
import Derived.Test.YtmdacedmjbiekaaGreatDoorR5
import Derived.Test.YtmdacedmjbiekaaGreatDoorR22
import Derived.LaidEqlPtr
namespace Go.Proofs.YtmdacedmjbiekaaGreatDoor
open Go.ChangeShapes Go.WideShapes Go.ChangeAt Go.RowKit Go.Lib
set_option linter.unusedVariables false
set_option linter.unusedSimpArgs false
theorem stands_sign (sb:Nat) (k:Wf.K) (x:Wf.Sc) (w:World) (h:(∃ k',k=.list k')∨∃ k',k=.opt k'):Calls Tryz.prog 84 #[ptr sb,kV k] w fun e w'=>e=.returned (tx (Wf.stands x 9 k))∧Below w.heap.size w w':=by
 have hs:=fun wz=>sign k wz
 rcases h with⟨k',rfl⟩|⟨k',rfl⟩
 ·exact(st_sign sb _ _ _ w 91 (.inl rfl) hs).mono fun e w' ⟨h1,h2⟩=>⟨by rw[h1];rfl,h2⟩
 ·exact(st_sign sb _ _ _ w 63 (.inr rfl) hs).mono fun e w' ⟨h1,h2⟩=>⟨by rw[h1];rfl,h2⟩
theorem stands_plain (sb:Nat) (k:Wf.K) (x:Wf.Sc) (w:World) (h:k=.num∨k=.txt∨k=.flag):Calls Tryz.prog 84 #[ptr sb,kV k] w fun e w'=>e=.returned (tx (Wf.stands x 9 k))∧Below w.heap.size w w':=by
 have hs:=fun wz=>sign k wz
 rcases h with rfl|rfl|rfl
 ·exact st_plain sb _ _ _ w hs ⟨#[48]⟩ (.inl ⟨rfl,rfl⟩)
 ·exact st_plain sb _ _ _ w hs ⟨#[39,39]⟩ (.inr (.inl ⟨rfl,rfl⟩))
 ·exact st_plain sb _ _ _ w hs ⟨#[110,111]⟩ (.inr (.inr ⟨rfl,rfl⟩))
theorem standsN (x:Wf.Sc) (hx:Wf.ScOk x) (lo sb:Nat) (W:World) (H:ScL W lo sb x):∀ (n:Nat) (k:Wf.K) (w:World),Below W.heap.size W w→k.text.length≤12→Wf.hasRef x k=true→(∀ t,refT x k=some t→Wf.endsIn x n t=true) →
  Calls Tryz.prog 84 #[ptr sb,kV k] w fun e w'=>e=.returned (tx (Wf.stands x 9 k))∧Below w.heap.size w w':=by
 intro n
 induction n with
 | zero =>
  intro k w hW hk hr he
  cases k with
  | ref nm =>
   obtain⟨t,ht⟩:=Option.isSome_iff_exists.1 (show(x.find nm).isSome=true by simpa[Wf.hasRef,Wf.K.base,Wf.K.name] using hr)
   have:=he t ht
   simp[Wf.endsIn] at this
  | num=>exact stands_plain sb _ x w (.inl rfl)
  | txt=>exact stands_plain sb _ x w (.inr (.inl rfl))
  | flag=>exact stands_plain sb _ x w (.inr (.inr rfl))
  | list k=>exact stands_sign sb _ x w (.inl ⟨_,rfl⟩)
  | opt k=>exact stands_sign sb _ x w (.inr ⟨_,rfl⟩)
 | succ n ih =>
  intro k w hW hk hr he
  cases k with
  | num=>exact stands_plain sb _ x w (.inl rfl)
  | txt=>exact stands_plain sb _ x w (.inr (.inl rfl))
  | flag=>exact stands_plain sb _ x w (.inr (.inr rfl))
  | list k=>exact stands_sign sb _ x w (.inl ⟨_,rfl⟩)
  | opt k=>exact stands_sign sb _ x w (.inr ⟨_,rfl⟩)
  | ref nm =>
   have hs:=fun wz=>sign (.ref nm) wz
   obtain⟨mb,hsz,hc1,hnm⟩:=H.named
   obtain⟨t,ht⟩:=Option.isSome_iff_exists.1 (show(x.find nm).isSome=true by simpa[Wf.hasRef,Wf.K.base,Wf.K.name] using hr)
   have hnl:nm.length≤12:=by have:=kname_len (.ref nm);simp only[Wf.K.name] at this;omega
   have hm:=(Wf.find_mem ht).1
   have hok:=hx.tys t hm
   have hend:=he t ht
   have hst:=stands_ref ht
   rcases hnm ⟨nm.toArray⟩ (by rw[tx_size];omega) with⟨h0,_⟩|⟨t',b,h1,hT,hl⟩
   ·rw[show(⟨nm.toArray⟩:ByteArray).data.toList=nm from rfl,ht] at h0;cases h0
   rw[show(⟨nm.toArray⟩:ByteArray).data.toList=nm from rfl,ht] at h1
   obtain rfl:t=t':=Option.some.inj h1
   have HA:At W lo sb ⟨nm.toArray⟩ t mb b:=⟨hsz,hc1,hT,hl⟩
   by_cases h82:t.sort=82
   ·rw[hst,if_pos h82]
    exact st_rec W lo sb _ _ t mb b HA w hW hs h82
   ·rw[if_neg h82] at hst
    obtain⟨f,fs,hfs⟩:∃ f fs,t.fields=f::fs:=List.exists_cons_of_ne_nil (hok.some h82)
    have hfd:=hok.fds f (by rw[hfs];exact List.mem_cons_self ..)
    have htag:f.tag≤999999:=by have:=hfd.tag2;omega
    rw[hfs] at hst
    dsimp only at hst
    by_cases h69:t.sort=69
    ·rw[hst,if_pos h69]
     exact st_enum W lo sb _ _ t mb b HA w hW hs h69 f fs hfs htag ⟨(35::Wf.dec f.tag).toArray⟩ rfl
    ·rw[if_neg h69] at hst
     have h85:t.sort=85:=by
      rcases hok.sort with h|h|h
      ·exact absurd h h82
      ·exact h
      ·exact absurd h h69
     obtain⟨s0,hs0⟩:=hfd.kind h69
     have hfl:f.kind.text.length≤12:=parseK_len hs0
     have hfr:Wf.hasRef x f.kind=true:=by
      have:=hx.refs t hm h69 f (by rw[hfs];exact List.mem_cons_self ..)
      exact this
     have hs2:=stands_len hx 9 f.kind
     rw[hst,← stands89 hx f.kind]
     refine st_union W lo sb _ _ t mb b HA w hW hs h85 f fs hfs htag ⟨(Wf.stands x 9 f.kind).toArray⟩ ⟨(60::(Wf.dec f.tag++61::(Wf.stands x 9 f.kind++[62]))).toArray⟩ (by rw[tx_size];omega) rfl fun wz hz=>ih f.kind wz (hW.trans (hz.mono hW.size)) hfl hfr fun t' ht' => ?_
     have:=ends_step (x:=x) (m:=n) h85 hfs
     rw[ht',hend] at this
     exact this.symm
theorem stands (x:Wf.Sc) (hx:Wf.ScOk x) (lo sb:Nat) (k:Wf.K) (W w:World) (hW:Below W.heap.size W w) (H:ScL W lo sb x) (hk:k.text.length≤12) (hr:Wf.hasRef x k=true) :
  Calls Tryz.prog 84 #[ptr sb,kV k] w fun e w'=>e=.returned (tx (Wf.stands x 9 k))∧Below w.heap.size w w' :=
 standsN x hx lo sb W H 9 k w hW hk hr fun t ht=>hx.ends t (refT_mem ht)
set_option maxRecDepth 20000 in
set_option maxHeartbeats 1000000 in
theorem of_w (sb fb o:Nat) (SG BS NM GV O:ByteArray) (w:World) (k0:w.cell? ⟨fb,o+2,none⟩=some (.string SG)) (k1:w.cell? ⟨fb,o+3,none⟩=some (.string BS)) (k2:w.cell? ⟨fb,o+4,none⟩=some (.string NM)) (k3:w.cell? ⟨fb,o+5,none⟩=some (.string GV))
  (h:(GV.toList.isEmpty=false∧O=GV)∨(GV.toList.isEmpty=true∧∀ wz,Below w.heap.size w wz→Calls Tryz.prog 84 #[ptr sb, .agg #[.string SG, .string BS, .string NM]] wz fun e w'=>e=.returned (.string O)∧Below wz.heap.size wz w')) :
  Calls Tryz.prog 48 #[ptr sb, .pointer (some ⟨fb,o,none⟩)] w fun e w'=>e=.returned (.string O)∧Below w.heap.size w w':=by
 rcases h with⟨h1,rfl⟩|⟨h1,h2⟩
 ·go_enter Tryz.func48,Tryz.ntmps48
  go_wp2_with fail
  go_ret
  exact⟨rfl,Below.refl _ _⟩
 ·have H2:=hid h2
  clear h2
  go_enter Tryz.func48,Tryz.ntmps48
  go_wp2_with (go_at_call 84;refine(H2.out _ (Below.refl _ _)).mono ?_;rintro e w2 ⟨rfl,hb2⟩;have HB2:=hid hb2;clear hb2)
  go_ret
  exact⟨rfl,HB2.out⟩
theorem of (x:Wf.Sc) (hx:Wf.ScOk x) (lo sb fb o:Nat) (sort:UInt8) (f:Wf.Fd) (W w:World) (hW:Below W.heap.size W w) (H:ScL W lo sb x) (h69:sort≠69) (hf:FdAt W fb o sort f) (hk:f.kind.text.length≤12) (hr:Wf.hasRef x f.kind=true) :
  Calls Tryz.prog 48 #[ptr sb, .pointer (some ⟨fb,o,none⟩)] w fun e w'=>e=.returned (tx (Wf.standF x f))∧Below w.heap.size w w':=by
 have hf':=hf.2
 have e0:fdC sort f=[.int .i64 f.tag,tx f.name,tx f.kind.signs,tx f.kind.base,tx f.kind.name,tx f.given]:=by unfold fdC;rw[if_neg h69]
 rw[e0] at hf'
 have cc:=fun j u hu=>(hW.cell (p:=⟨fb,o+j,none⟩) hf.1).trans (hf' j u hu)
 refine of_w sb fb o ⟨f.kind.signs.toArray⟩ ⟨f.kind.base.toArray⟩ ⟨f.kind.name.toArray⟩ ⟨f.given.toArray⟩ ⟨(Wf.standF x f).toArray⟩ w (cc 2 _ rfl) (cc 3 _ rfl) (cc 4 _ rfl) (cc 5 _ rfl) ?_
 unfold Wf.standF
 by_cases hg:f.given=[]
 ·right
  refine⟨by rw[ByteArray.toList_eq,hg];rfl,fun wz hz => ?_⟩
  rw[if_pos hg]
  exact stands x hx lo sb f.kind W wz (hW.trans (hz.mono hW.size)) H hk hr
 ·left
  refine⟨by rw[ByteArray.toList_eq];cases hh:f.given with|nil=>exact absurd hh hg|cons a r=>rfl,by rw[if_neg hg]⟩

theorem RowAt.nth {w:World} {b:Nat} {a:Option Addr} {n c:Nat} {xs:List Value} (h:RowAt w b (.slice a n c) xs) {i:Nat} (hi:i<xs.length):∃ o,a=Option.some ⟨b,o,none⟩∧b<w.heap.size∧n≤c∧c≤maxLen∧w.cell? ⟨b,o+i,none⟩=Option.some xs[i]:=by
 obtain⟨a',c',h1,h2,h3,h4⟩:=h
 simp only[Value.slice.injEq] at h1
 obtain⟨rfl,rfl,rfl⟩:=h1
 rcases h4 with h4|⟨o,g1,g2,g3⟩
 ·rw[h4] at hi;simp at hi
 ·exact⟨o,g1,g2,h2,h3,(g3 i hi).1⟩
theorem kind_laid (w:World) (SG BS NM:ByteArray):(w.alloc (.cells #[.string SG, .string BS, .string NM] 57)).cell? ⟨w.heap.size,0,none⟩=some (.string SG)∧(w.alloc (.cells #[.string SG, .string BS, .string NM] 57)).cell? ⟨w.heap.size,1,none⟩=some (.string BS)∧(w.alloc (.cells #[.string SG, .string BS, .string NM] 57)).cell? ⟨w.heap.size,2,none⟩=some (.string NM):=by
 refine⟨?_, ?_, ?_⟩ <;> simp[go_sem]
theorem run_append_none {P:Program} (w:World) (t ty e:TypeId) (i:TypeInfo) (ht:P.underlying t=some (.slice e)) (hi:P.info? e=some i) (b:Option Addr) (n cap:Nat) (hn:n≤cap) (x:Option Addr) (c:Nat) :
  (Builtin.append_ #[t,t] ty #[.slice b n cap, .slice x 0 c]).run P w=.ok (.slice b n cap) w:=by
 have h0:(Builtin.firstCells i.size 0 (.slice x 0 c)).run P w=.ok #[] w:=by
  cases x with
  | none=>rfl
  | some a=>simp[Builtin.firstCells,loadCells,loadCellsFrom]
 cases b <;> simp[Builtin.append_,run_underlying ht,sizeOf,typeInfo,hi,Builtin.lenOf,hn,h0,storeCells,Result.andThen]
theorem run_append_row {P:Program} (w:World) (base:Nat) (t ty e:TypeId) (i:TypeInfo) (z:Value) (bytes:Nat) (ht:P.underlying t=some (.slice e)) (hi:P.info? e=some i) (hz:i.zero=some z) (hsize:i.size=1) (hby:i.bytes=bytes) (hzs:z.cells.size=1)
  (v:Value) (n:Nat) (xs:List Value) (hown:w.ownsRow base e 1 v n xs) (rb:Nat) (x:Value) (news:List Value) (hr:RowAt w rb x news) (h1:∀ u∈news,u.oneCell'=true)
  (h63:n+news.length≤maxLen) (hbytes:(n+news.length) * bytes≤140737488355328) (hbase:base≤w.heap.size) :
  ∃ v' w',(Builtin.append_ #[t,t] ty #[v,x]).run P w=.ok v' w'∧w'.ownsRow base e 1 v' (n+news.length) (xs++news)∧w.grownBy w' v.ownBlock:=by
 obtain⟨ao,c,rfl,_,_,h4⟩:=hr
 rcases Nat.eq_zero_or_pos news.length with hm|hm
 ·have hn0:news=[]:=List.eq_nil_of_length_eq_zero hm
  subst hn0
  obtain⟨a,cap,hv,hc⟩:∃ a cap,v=.slice a n cap∧n≤cap:=by
   rcases hown.2 with⟨rfl,hz⟩|⟨g,cap,cur,rfl,_,_,h,_⟩
   ·exact⟨none,0,by rw[hz],by omega⟩
   ·exact⟨_,cap,rfl,h⟩
  subst hv
  refine⟨_,w,run_append_none w t ty e i ht hi a n cap hc ao c,by rw[List.append_nil];exact hown, ?_⟩
  exact⟨rfl,rfl,rfl,Nat.le_refl _,fun _ _ _=>rfl⟩
 ·rcases h4 with h4|⟨o,rfl,_,hcell⟩
  ·rw[h4] at hm;exact absurd hm (by simp)
  ·obtain⟨v',w',hr,h2,h3,_⟩:=run_append_own (P:=P) w base t ty e i z 1 bytes ht hi hz hsize hby hzs (by decide) v n xs hown ⟨rb,o,none⟩ news.length c news (by omega) (fun j u hj=>by
    obtain⟨hlt,rfl⟩:=List.getElem?_eq_some_iff.1 hj
    have hadd:(⟨rb,o,none⟩:Addr).add j=⟨rb,o+j,none⟩:=by unfold Addr.add;split <;> simp_all
    rw[hadd]
    exact(hcell j hlt).1) h1 h63 hbytes hbase
   exact⟨v',w',hr,h2,h3⟩
theorem step_app_row {ops:Array Oper} {o:Oper} {act:Act} {K:Act→World→Prop} {Q:Exit→Act→World→Prop} {E:Prop} {wx:World} {base n:Nat} {v:Value} {xs:List Value} (s x:Operand) (hgd:o.guard=none) (ho:o.op=.call { callee:=.builtin .append,args:=#[s,x],argTypes:=#[22,22] })
  (hb:base≤wx.heap.size) (hown:wx.ownsRow base 9 1 v n xs) {rb:Nat} {y:Value} {news:List Value} (hr:RowAt wx rb y news) (h1:∀ u∈news,u.oneCell'=true) (hn:n+news.length≤1000) (hs:act.eval s=v) (hx:act.eval x=y)
  (h:∀ v' w4,w4.ownsRow base 9 1 v' (n+news.length) (xs++news)→wx.grownBy w4 v.ownBlock→Below base wx w4→K (act.put o.dst v') w4) :
  if Region.wanted o (yielded ops act.tmps)=true then Oper.wp Tryz.prog o act wx K Q else E:=by
 have hw:Region.wanted o (yielded ops act.tmps)=true:=by simp[Region.wanted,hgd]
 rw[if_pos hw]
 obtain⟨i0,hi0,hz0,hz1,hz2⟩:=info_parts info_tx
 obtain⟨v',w4,hrun,h2,h3⟩:=run_append_row (P:=Tryz.prog) wx base 22 o.type 9 i0 (.string ⟨#[]⟩) 16 Tryz.underlying22 hi0 hz0 hz1 hz2 rfl v n xs hown rb y news hr h1 (by unfold maxLen;omega) (by omega) hb
 unfold Oper.wp execOp
 simp only[ho,resolve,invoke,builtin,Sem.run_bind,Sem.run_pure,Result.andThen_ok,List.map_toArray,List.map_cons,List.map_nil,hs,hx,hrun]
 exact h v' w4 h2 h3 (below_grown2 h3 (fun g hg=>(owns_lt hown g hg).1) hb)
theorem RowAt.one {w:World} {zb:Nat} {x:Value} {T:TypeId} (hz:w.heap[zb]? = Option.some (.cells #[x] T)):RowAt w zb (.slice (Option.some ⟨zb,0,none⟩) 1 1) [x]:=by
 refine⟨_,1,rfl,Nat.le_refl _,by unfold maxLen;omega, .inr ⟨0,rfl,(Array.getElem?_eq_some_iff.1 hz).1,fun i hi => ?_⟩⟩
 have hi0:i=0:=by simpa using hi
 subst hi0
 simp[World.cell?,World.frozen?,hz]
theorem RowAt.cut {w0:World} {b n c:Nat} {a:Option Addr} {xs:List Value} (h:RowAt w0 b (.slice a n c) xs) {k:Nat} (hk:k≤n) :
  ∃ y z,(∀ wz,(Instr.slice 22 (.slice a n c) none (Option.some (.int .i64 k)) none).run Tryz.prog wz=.ok y wz)∧(∀ wz,(Instr.slice 22 (.slice a n c) (Option.some (.int .i64 k)) none none).run Tryz.prog wz=.ok z wz)∧RowAt w0 b y (xs.take k)∧RowAt w0 b z (xs.drop k):=by
 obtain⟨a',c',h1,h2,h3,h4⟩:=h
 simp only[Value.slice.injEq] at h1
 obtain⟨rfl,rfl,rfl⟩:=h1
 obtain⟨i0,hi0,hz0,hz1,hz2⟩:=info_parts info_tx
 have hu:Tryz.prog.underlying 22=Option.some (.slice (Tryz.prog.elem 22)):=by kernel_rfl
 have hsz:∀ wz,(sizeOf (Tryz.prog.elem 22)).run Tryz.prog wz=.ok 1 wz:=fun wz=>by
  have he:Tryz.prog.elem 22=9:=by kernel_rfl
  rw[he]
  simp[sizeOf,typeInfo,hi0,hz1]
 refine⟨sliced a 0 k c 1,sliced a k xs.length c 1,fun wz => ?_,fun wz => ?_, ?_, ?_⟩
 ·rw[run_slice_h (ht:=hu) (h0:=by omega) (h2:=by omega),hsz wz];simp
 ·rw[run_slice_l (ht:=hu) (h0:=by omega) (h1:=by omega),hsz wz];simp
 ·refine⟨_,c,by rw[sliced,List.length_take,Nat.min_eq_left hk];rfl,by rw[List.length_take];omega,h3, ?_⟩
  rcases h4 with rfl|⟨o,rfl,h5,h6⟩
  ·exact .inl (by simp)
  ·refine .inr ⟨o,by split <;> simp[Addr.add],h5,fun i hi => ?_⟩
   rw[List.length_take] at hi
   rw[List.getElem_take]
   exact h6 i (by omega)
 ·refine⟨_,c-k,by rw[sliced,List.length_drop],by rw[List.length_drop];omega,by omega, ?_⟩
  rcases h4 with rfl|⟨o,rfl,h5,h6⟩
  ·exact .inl (by simp)
  ·by_cases hck:c=k
   ·exact .inl (List.drop_eq_nil_of_le (by omega))
   ·refine .inr ⟨o+k,by rw[if_neg hck];simp[Addr.add],h5,fun i hi => ?_⟩
    rw[List.length_drop] at hi
    rw[List.getElem_drop,Nat.add_assoc]
    exact h6 (k+i) (by omega)
end Go.Proofs.YtmdacedmjbiekaaGreatDoor

namespace Wf
set_option linter.unusedVariables false
set_option linter.unusedSimpArgs false
def putN (n:Nat):Bs:=if n<128 then [UInt8.ofNat n] else UInt8.ofNat (128+n % 128)::putN (n / 128)
termination_by n
decreasing_by omega
theorem toNat_ofNat {n:Nat} (h:n<256):(UInt8.ofNat n).toNat=n:=by simp[UInt8.toNat_ofNat'];omega
end Wf

namespace Wf
set_option linter.unusedVariables false
set_option linter.unusedSimpArgs false
end Wf

namespace Wf
set_option linter.unusedVariables false
set_option linter.unusedSimpArgs false
end Wf

namespace Wf
set_option linter.unusedVariables false
set_option linter.unusedSimpArgs false
end Wf

namespace Wf
set_option linter.unusedVariables false
set_option linter.unusedSimpArgs false
def formB (what:UInt8) (text:Bs) (tag:Nat) (parts:List Bs):Bs :=
 if what=110 then putN (val text)
 else if what=116 then putN text.length++text
 else if what=102 then (if text=[121,101,115] then [1] else [0])
 else if what=91 then putN parts.length++parts.flatten
 else if what=63 then (if parts=[] then [0] else 1::parts.flatten)
 else if what=69 then putN tag
 else if what=85∨what=61 then putN tag++(putN parts.flatten.length++parts.flatten)
 else parts.flatten++[0]
mutual
def V.bytes:V→Bs
 | .mk what text tag kids=>formB what text tag (V.bytess kids)
def V.bytess:List V→List Bs
 | []=>[]
 | v::l=>v.bytes::V.bytess l
end
def whole (p:Reads) (s:Bs):Option V :=
 match p s with
 | none=>none
 | some (v,r)=>if r=[] then some v else none
end Wf

namespace Wf
set_option linter.unusedVariables false
set_option linter.unusedSimpArgs false
end Wf

namespace Wf
set_option linter.unusedVariables false
set_option linter.unusedSimpArgs false
end Wf

namespace Wf
set_option linter.unusedVariables false
set_option linter.unusedSimpArgs false
end Wf

namespace Wf
set_option linter.unusedVariables false
set_option linter.unusedSimpArgs false
theorem hasRef_ref {x:Sc} {nm:Bs} (h:hasRef x (.ref nm)=true):∃ t,x.find nm=some t:=by
 simp only[hasRef,K.base,K.name,ne_eq,not_true_eq_false,decide_false,Bool.false_or] at h
 exact Option.isSome_iff_exists.1 h
end Wf

namespace Wf
set_option linter.unusedVariables false
set_option linter.unusedSimpArgs false
def K.refN:K→Option Bs
 | .ref n=>some n
 | .list k=>k.refN
 | .opt k=>k.refN
 | _=>none
def visit (x:Sc) (ins:Bs→List Bs→List Bs):Nat→K→List Bs→List Bs
 | 0,_,out=>out
 | n+1,k,out =>
  match k.refN with
  | none=>out
  | some nm =>
   if nm∈out then out else
   match x.find nm with
   | none=>ins nm out
   | some t=>if t.sort=69 then ins nm out else t.fields.foldl (fun o f=>visit x ins n f.kind o) (ins nm out)
structure Ins (ins:Bs→List Bs→List Bs):Prop where
 mem:∀ a l b,b∈ins a l↔b=a∨b∈l
theorem foldl_inv {α β:Type} (P:α→Prop) (f:α→β→α) (hf:∀ a b,P a→P (f a b)):∀ (l:List β) (a:α),P a→P (l.foldl f a):=by
 intro l
 induction l with
 | nil=>intro a h;exact h
 | cons b l ih=>intro a h;exact ih _ (hf a b h)
theorem visit_sub {x:Sc} {ins:Bs→List Bs→List Bs} (hi:Ins ins):∀ (n:Nat) (k:K) (out:List Bs),∀ a,a∈out→a∈visit x ins n k out:=by
 intro n
 induction n with
 | zero=>intro k out a h;exact h
 | succ n ih =>
  intro k out a h
  simp only[visit]
  split
  ·exact h
  ·split
   ·exact h
   ·have h':∀ nm,a∈ins nm out:=fun nm=>(hi.mem nm out a).2 (.inr h)
    split
    ·exact h' _
    ·split
     ·exact h' _
     ·exact foldl_inv (fun o=>a∈o) _ (fun o f ho=>ih f.kind o a ho) _ _ (h' _)
theorem visit_within {x:Sc} {ins:Bs→List Bs→List Bs} (hi:Ins ins) {C:Bs→Prop}
  (hC:∀ nm t,C nm→x.find nm=some t→t.sort≠69→∀ f,f∈t.fields→∀ m,f.kind.refN=some m→C m) :
  ∀ (n:Nat) (k:K) (out:List Bs),(∀ m,k.refN=some m→C m)→(∀ a,a∈out→C a)→∀ a,a∈visit x ins n k out→C a:=by
 intro n
 induction n with
 | zero=>intro k out _ h2;exact h2
 | succ n ih =>
  intro k out h1 h2
  simp only[visit]
  split
  ·exact h2
  ·rename_i nm hnm
   have hc:=h1 nm hnm
   have h3:∀ a,a∈ins nm out→C a:=fun a ha=>by
    rcases(hi.mem nm out a).1 ha with rfl|h
    ·exact hc
    ·exact h2 a h
   split
   ·exact h2
   ·split
    ·exact h3
    ·rename_i t ht
     split
     ·exact h3
     ·rename_i hs
      -- along the fields
      have key:∀ (l:List Fd),(∀ f,f∈l→f∈t.fields)→∀ o,(∀ a,a∈o→C a)→∀ a,a∈l.foldl (fun o f=>visit x ins n f.kind o) o→C a:=by
       intro l
       induction l with
       | nil=>intro _ o ho;exact ho
       | cons f l ihl =>
        intro hl o ho
        exact ihl (fun g hg=>hl g (by simp[hg])) _ (ih f.kind o (fun m hm=>hC nm t hc ht hs f (hl f (by simp)) m hm) ho)
      exact key t.fields (fun f hf=>hf) _ h3
def left (x:Sc) (out:List Bs):Nat:=(x.filter fun t=>decide (t.name ∉ out)).length
theorem left_le {x:Sc} {o p:List Bs} (h:∀ a,a∈o→a∈p):left x p≤left x o:=by
 unfold left
 induction x with
 | nil=>simp
 | cons t x ih =>
  by_cases h1:t.name∈o
  ·have h2:=h _ h1
   simp only[List.filter_cons,h1,h2,not_true_eq_false,decide_false,Bool.false_eq_true,if_false]
   exact ih
  ·by_cases h2:t.name∈p
   ·simp only[List.filter_cons,h1,h2,not_true_eq_false,not_false_eq_true,decide_false,decide_true,Bool.false_eq_true,if_false,if_true,List.length_cons]
    omega
   ·simp only[List.filter_cons,h1,h2,not_false_eq_true,decide_true,if_true,List.length_cons]
    omega
theorem left_lt {x:Sc} {ins:Bs→List Bs→List Bs} (hi:Ins ins) {o:List Bs} {nm:Bs} {t:Ty} (ht:x.find nm=some t) (hn:nm ∉ o):left x (ins nm o)<left x o:=by
 obtain⟨h1,h2⟩:=find_mem ht
 subst h2
 clear ht
 unfold left
 induction x with
 | nil=>simp at h1
 | cons u x ih =>
  have hle:(x.filter fun t'=>decide (t'.name ∉ ins t.name o)).length≤(x.filter fun t'=>decide (t'.name ∉ o)).length :=
   left_le (fun a ha=>(hi.mem _ _ _).2 (.inr ha))
  by_cases hu:u.name=t.name
  ·have e1:u.name∈ins t.name o:=(hi.mem _ _ _).2 (.inl hu)
   have e2:u.name ∉ o:=by rw[hu];exact hn
   simp only[List.filter_cons,e1,e2,not_true_eq_false,not_false_eq_true,decide_false,decide_true,Bool.false_eq_true,if_false,if_true,List.length_cons]
   omega
  ·have hx:t∈x:=by
    rcases List.mem_cons.1 h1 with rfl|h
    ·exact absurd rfl hu
    ·exact h
   have:=ih hx
   by_cases h3:u.name∈o
   ·have h4:u.name∈ins t.name o:=(hi.mem _ _ _).2 (.inr h3)
    simp only[List.filter_cons,h3,h4,not_true_eq_false,decide_false,Bool.false_eq_true,if_false]
    exact this
   ·have h4:u.name ∉ ins t.name o:=fun h=>by
     rcases(hi.mem _ _ _).1 h with h|h
     ·exact hu h
     ·exact h3 h
    simp only[List.filter_cons,h3,h4,not_false_eq_true,decide_true,if_true,List.length_cons]
    omega
theorem visit_closed {x:Sc} {ins:Bs→List Bs→List Bs} (hi:Ins ins):∀ (n:Nat) (k:K) (out:List Bs),left x out<n →
  (∀ m,k.refN=some m→m∈visit x ins n k out) ∧
  (∀ nm,nm∈visit x ins n k out→nm ∉ out→∀ t,x.find nm=some t→t.sort≠69→∀ f,f∈t.fields→∀ m,f.kind.refN=some m→m∈visit x ins n k out):=by
 intro n
 induction n with
 | zero=>intro k out h;omega
 | succ n ih =>
  intro k out hl
  simp only[visit]
  cases hk:k.refN with
  | none=>simp only;exact⟨fun m h=>by simp at h,fun nm h1 h2=>absurd h1 h2⟩
  | some nm =>
   simp only
   by_cases hm:nm∈out
   ·rw[if_pos hm]
    exact⟨fun m h=>by simp only[Option.some.injEq] at h;subst h;exact hm,fun nm h1 h2=>absurd h1 h2⟩
   ·rw[if_neg hm]
    have hin:nm∈ins nm out:=(hi.mem _ _ _).2 (.inl rfl)
    cases ht:x.find nm with
    | none =>
     simp only
     refine⟨fun m h=>by simp only[Option.some.injEq] at h;subst h;exact hin,fun a h1 h2 t' ht' => ?_⟩
     rcases(hi.mem _ _ _).1 h1 with rfl|h
     ·rw[ht] at ht';simp at ht'
     ·exact absurd h h2
    | some t =>
     simp only
     by_cases hs:t.sort=69
     ·rw[if_pos hs]
      refine⟨fun m h=>by simp only[Option.some.injEq] at h;subst h;exact hin,fun a h1 h2 t' ht' hs' => ?_⟩
      rcases(hi.mem _ _ _).1 h1 with rfl|h
      ·rw[ht] at ht';simp only[Option.some.injEq] at ht';subst ht';exact absurd hs hs'
      ·exact absurd h h2
     ·rw[if_neg hs]
      have hlt:left x (ins nm out)<n:=by have:=left_lt hi ht hm;omega
      -- along the fields
      have key:∀ (l:List Fd) (o:List Bs),left x o<n →
        (∀ a,a∈o→a∈l.foldl (fun o f=>visit x ins n f.kind o) o) ∧
        (∀ f,f∈l→∀ m,f.kind.refN=some m→m∈l.foldl (fun o f=>visit x ins n f.kind o) o) ∧
        (∀ b,b∈l.foldl (fun o f=>visit x ins n f.kind o) o→b ∉ o→∀ t,x.find b=some t→t.sort≠69→∀ f,f∈t.fields→∀ m,f.kind.refN=some m→m∈l.foldl (fun o f=>visit x ins n f.kind o) o):=by
       intro l
       induction l with
       | nil=>intro o _;exact⟨fun a h=>h,by simp,fun b h1 h2=>absurd h1 h2⟩
       | cons f l ihl =>
        intro o ho
        have hs1:=visit_sub hi (x:=x) n f.kind o
        obtain⟨c1,c2⟩:=ih f.kind o ho
        obtain⟨d1,d2,d3⟩:=ihl (visit x ins n f.kind o) (by have:=left_le (x:=x) hs1;omega)
        refine⟨fun a h=>d1 a (hs1 a h), ?_, ?_⟩
        ·intro g hg m hgm
         rcases List.mem_cons.1 hg with rfl|hg
         ·exact d1 m (c1 m hgm)
         ·exact d2 g hg m hgm
        ·intro b hb hbo t' ht' hs' g hg m hgm
         by_cases hbv:b∈visit x ins n f.kind o
         ·exact d1 m (c2 b hbv hbo t' ht' hs' g hg m hgm)
         ·exact d3 b hb hbv t' ht' hs' g hg m hgm
      obtain⟨k1,k2,k3⟩:=key t.fields (ins nm out) hlt
      refine⟨fun m h=>by simp only[Option.some.injEq] at h;subst h;exact k1 _ hin,fun a h1 h2 t' ht' hs' f hf m hfm => ?_⟩
      by_cases ha:a∈ins nm out
      ·rcases(hi.mem _ _ _).1 ha with rfl|h
       ·rw[ht] at ht';simp only[Option.some.injEq] at ht';subst ht'
        exact k2 f hf m hfm
       ·exact absurd h h2
      ·exact k3 a h1 ha t' ht' hs' f hf m hfm
theorem left_len (x:Sc) (o:List Bs):left x o≤x.length:=List.length_filter_le _ _
theorem visit_trans {x:Sc} {ins:Bs→List Bs→List Bs} (hi:Ins ins) {n m:Nat} (hn:x.length<n) {k:K} {nm:Bs} (h:nm∈visit x ins n k []) :
  ∀ a,a∈visit x ins m (.ref nm) []→a∈visit x ins n k []:=by
 obtain⟨c1,c2⟩:=visit_closed (x:=x) hi n k [] (by have:=left_len x [];omega)
 exact visit_within hi (C:=fun a=>a∈visit x ins n k []) (fun b t hb ht hs f hf l hl=>c2 b hb (by simp) t ht hs f hf l hl) m (.ref nm) []
  (fun l hl=>by simp only[K.refN,Option.some.injEq] at hl;subst hl;exact h) (by simp)
theorem visit_same {x:Sc} {i j:Bs→List Bs→List Bs} (hi:Ins i) (hj:Ins j):∀ (n:Nat) (k:K) (o p:List Bs),(∀ a,a∈o↔a∈p)→∀ a,a∈visit x i n k o↔a∈visit x j n k p:=by
 intro n
 induction n with
 | zero=>intro k o p h;exact h
 | succ n ih =>
  intro k o p h
  simp only[visit]
  cases k.refN with
  | none=>exact h
  | some nm =>
   simp only
   by_cases hm:nm∈o
   ·rw[if_pos hm,if_pos ((h nm).1 hm)];exact h
   ·rw[if_neg hm,if_neg (fun e=>hm ((h nm).2 e))]
    have h':∀ a,a∈i nm o↔a∈j nm p:=fun a=>by rw[hi.mem,hj.mem,h a]
    cases x.find nm with
    | none=>exact h'
    | some t =>
     simp only
     split
     ·exact h'
     ·have key:∀ (l:List Fd) (o p:List Bs),(∀ a,a∈o↔a∈p)→∀ a,a∈l.foldl (fun o f=>visit x i n f.kind o) o↔a∈l.foldl (fun o f=>visit x j n f.kind o) p:=by
       intro l
       induction l with
       | nil=>intro o p h;exact h
       | cons f l ihl=>intro o p h;exact ihl _ _ (ih f.kind o p h)
      exact key _ _ _ h'
end Wf

namespace Wf
set_option linter.unusedVariables false
set_option linter.unusedSimpArgs false
def insB (a:Bs) (l:List Bs):List Bs:=l.takeWhile (fun b=>decide (b<a))++a::l.dropWhile (fun b=>decide (b<a))
def insE (a:Bs) (l:List Bs):List Bs:=l++[a]
theorem insB_ok:Ins insB:=⟨fun a l b=>by
 unfold insB
 constructor
 ·intro h
  rcases List.mem_append.1 h with h|h
  ·exact .inr ((List.takeWhile_sublist _).subset h)
  ·rcases List.mem_cons.1 h with h|h
   ·exact .inl h
   ·exact .inr ((List.dropWhile_sublist _).subset h)
 ·rintro(rfl|h)
  ·simp
  ·rw[← List.takeWhile_append_dropWhile (p:=fun c=>decide (c<a)) (l:=l)] at h
   rcases List.mem_append.1 h with h|h
   ·exact List.mem_append.2 (.inl h)
   ·exact List.mem_append.2 (.inr (List.mem_cons_of_mem _ h))⟩
theorem insE_ok:Ins insE:=⟨fun a l b=>by simp[insE,or_comm]⟩
theorem bs_irrefl (a:Bs):¬ a<a:=List.lt_irrefl a
theorem bs_trans {a b c:Bs} (h1:a<b) (h2:b<c):a<c:=List.lt_trans h1 h2
theorem bs_total {a b:Bs} (h1:¬ a<b) (h2:a≠b):b<a:=by
 have h:=List.not_lt.1 h1
 rcases List.le_iff_lt_or_eq.1 h with h|h
 ·exact h
 ·exact absurd h.symm h2
def AscB (l:List Bs):Prop:=l.Pairwise (· < ·)
theorem asc_insB {l:List Bs} (h:AscB l) (a:Bs) (ha:a ∉ l):AscB (insB a l):=by
 unfold insB AscB
 induction l with
 | nil=>simp
 | cons b l ih =>
  obtain⟨h1,h2⟩:=List.pairwise_cons.1 h
  have hab:a≠b:=fun e=>ha (by simp[e])
  have hal:a ∉ l:=fun e=>ha (List.mem_cons_of_mem _ e)
  by_cases hb:b<a
  ·rw[List.takeWhile_cons_of_pos (by simpa using hb),List.dropWhile_cons_of_pos (by simpa using hb),List.cons_append]
   refine List.pairwise_cons.2 ⟨fun c hc => ?_,ih h2 hal⟩
   rcases List.mem_append.1 hc with hc|hc
   ·exact h1 c ((List.takeWhile_sublist _).subset hc)
   ·rcases List.mem_cons.1 hc with rfl|hc
    ·exact hb
    ·exact h1 c ((List.dropWhile_sublist _).subset hc)
  ·rw[List.takeWhile_cons_of_neg (by simpa using hb),List.dropWhile_cons_of_neg (by simpa using hb),List.nil_append]
   refine List.pairwise_cons.2 ⟨fun c hc => ?_,h⟩
   have hba:a<b:=bs_total hb (Ne.symm hab)
   rcases List.mem_cons.1 hc with rfl|hc
   ·exact hba
   ·exact bs_trans hba (h1 c hc)
theorem asc_ext:∀ {l m:List Bs},AscB l→AscB m→(∀ a,a∈l↔a∈m)→l=m
 | [],[],_,_,_=>rfl
 | [],b::m,_,_,h=>absurd ((h b).2 (by simp)) (by simp)
 | a::l,[],_,_,h=>absurd ((h a).1 (by simp)) (by simp)
 | a::l,b::m,h1,h2,h=>by
  obtain⟨p1,p2⟩:=List.pairwise_cons.1 h1
  obtain⟨q1,q2⟩:=List.pairwise_cons.1 h2
  have hab:a=b:=by
   rcases List.mem_cons.1 ((h a).1 (by simp)) with e|e
   ·exact e
   ·rcases List.mem_cons.1 ((h b).2 (by simp)) with e'|e'
    ·exact e'.symm
    ·exact absurd (bs_trans (q1 a e) (p1 b e')) (bs_irrefl b)
  subst hab
  congr 1
  refine asc_ext p2 q2 fun c => ?_
  constructor
  ·intro hc
   rcases List.mem_cons.1 ((h c).1 (List.mem_cons_of_mem _ hc)) with rfl|e
   ·exact absurd (p1 c hc) (bs_irrefl c)
   ·exact e
  ·intro hc
   rcases List.mem_cons.1 ((h c).2 (List.mem_cons_of_mem _ hc)) with rfl|e
   ·exact absurd (q1 c hc) (bs_irrefl c)
   ·exact e
theorem sort_asc (l:List Bs) (hn:l.Nodup):AscB (l.mergeSort fun a b=>decide (a≤b)):=by
 have h1:=List.pairwise_mergeSort (le:=fun a b:Bs=>decide (a≤b)) (fun a b c h1 h2=>by
   simp only[decide_eq_true_eq] at *;exact List.le_trans h1 h2) (fun a b=>by
   simp only[Bool.or_eq_true,decide_eq_true_eq];exact List.le_total a b) l
 have h2:(l.mergeSort fun a b=>decide (a≤b)).Nodup:=(List.mergeSort_perm l _).nodup_iff.2 hn
 unfold AscB
 refine(List.Pairwise.and h1 h2).imp fun⟨h,hne⟩ => ?_
 rcases List.le_iff_lt_or_eq.1 (of_decide_eq_true h) with h|h
 ·exact h
 ·exact absurd h hne
theorem sort_mem (l:List Bs) (a:Bs):a∈(l.mergeSort fun a b=>decide (a≤b))↔a∈l:=List.mem_mergeSort
end Wf

namespace Go.Proofs.YtmdacedmjbiekaaGreatDoor
open Go.ChangeShapes Go.WideShapes Go.ChangeAt Go.RowKit Go.Lib
set_option linter.unusedVariables false
set_option linter.unusedSimpArgs false
structure BlkIs (w:World) (lo mb:Nat) (x:Wf.Sc) (blk:List UInt8→Nat):Prop where
 no:∀ s:ByteArray,s.size≤1048576→x.find s.data.toList=none→∀ wz,Below w.heap.size w wz→(Instr.lookup 129 (.map (some mb)) (.string s) false).run Tryz.prog wz=.ok (.pointer none) wz
 yes:∀ s:ByteArray,s.size≤1048576→∀ t,x.find s.data.toList=some t→TyL w lo (blk s.data.toList) t∧∀ wz,Below w.heap.size w wz→(Instr.lookup 129 (.map (some mb)) (.string s) false).run Tryz.prog wz=.ok (ptr (blk s.data.toList)) wz
 inj:∀ s s' t t',x.find s=some t→x.find s'=some t'→blk s=blk s'→s=s'
theorem ScL.blk {w:World} {lo sb:Nat} {x:Wf.Sc} (h:ScL w lo sb x):∃ mb blk,sb<w.heap.size∧w.cell? ⟨sb,1,none⟩=some (.map (some mb))∧BlkIs w lo mb x blk:=by
 obtain⟨mb,n,rb,a,c,bs,h1,h2,h2',h3,c0,c1,hr,hm,hl,hp,ht⟩:=h
 have hlk:=fun(s:ByteArray) (hs:s.size≤1048576) wz (hb:Below w.heap.size w wz)=>(hm.below hb).look s (by unfold maxLen;omega)
 refine⟨mb,fun nm=>(blkOf x bs nm).getD 0,h3,c1,fun s hs hf wz hb => ?_,fun s hs t hf => ?_,fun s s' t t' hf hf' he => ?_⟩
 ·rw[hlk s hs wz hb,blkOf_none hf];rfl
 ·obtain⟨i,g1,g2,g3,g4⟩:=blkOf_some hl hf
  refine⟨?_,fun wz hb => ?_⟩
  ·rw[g4,← g3];exact ht i g2 g1
  ·rw[hlk s hs wz hb,g4];rfl
 ·obtain⟨i,g1,g2,g3,g4⟩:=blkOf_some hl hf
  obtain⟨j,k1,k2,k3,k4⟩:=blkOf_some hl hf'
  rw[g4,k4] at he
  simp only[Option.getD_some] at he
  have hij:i=j:=by
   rcases Nat.lt_trichotomy i j with h|h|h
   ·have:=List.pairwise_iff_getElem.1 hp i j g2 k2 h;omega
   ·exact h
   ·have:=List.pairwise_iff_getElem.1 hp j i k2 g2 h;omega
  subst hij
  have e1:=(Wf.find_mem hf).2
  have e2:=(Wf.find_mem hf').2
  rw[← e1,← e2,← g3,← k3]
def Whole (w:World) (b:Nat):Prop:=∃ cs T,w.heap[b]? = some (.cells cs T (0,0))
theorem TyL.whole {w:World} {lo b:Nat} {t:Wf.Ty} (h:TyL w lo b t):Whole w b:=by
 obtain⟨_,_,_,line,_,_,_,_,_,_,c3,_⟩:=h
 exact⟨_,_,c3⟩
theorem eql_ptr (w:World) (p q:Nat) (hp:Whole w p) (hq:Whole w q):(binOp .eql 62 (ptr p) (ptr q)).run Tryz.prog w=.ok (.bool (decide (p=q))) w:=by
 obtain⟨j,hj,hz⟩:∃ j,Tryz.prog.info? 65=some j∧j.size≠0:=by
  have h:(Tryz.prog.info? 65).map (fun i=>decide (i.size≠0))=some true:=by kernel_rfl
  cases hi:Tryz.prog.info? 65 with
  | none=>rw[hi] at h;cases h
  | some j=>rw[hi] at h;exact⟨j,rfl,by simpa using h⟩
 have hu:Tryz.prog.underlying 62=some (.pointer 65):=by kernel_rfl
 by_cases h:p=q
 ·subst h
  rw[decide_eq_true rfl]
  exact run_eql_ptr_same w ⟨p,0,none⟩ hu hj
 ·rw[decide_eq_false h]
  obtain⟨c1,t1,h1⟩:=hp
  obtain⟨c2,t2,h2⟩:=hq
  exact run_eql_ptr_other w hu hj hz (fun e=>h (by injection e)) h1 h2
set_option maxRecDepth 20000 in
set_option maxHeartbeats 1000000 in
theorem indexP (a:Option Addr) (n c b:Nat) (bs:List Nat) (p:Nat) (w:World) (hl:bs.length=n) (hn:n≤1000) (hr:RowAt w b (.slice a n c) (bs.map ptr)) (hp:Whole w p) (hb:∀ q∈bs,Whole w q):Calls Tryz.prog 109 #[.slice a n c,ptr p] w fun e w'=>(∃ k:Int,e=.returned (.int .i64 k)∧decide (0≤k)=decide (p∈bs))∧w=w':=by
 have HR:=hid hr
 have HL:=hid hl
 have HE:=hid fun q (hq:q∈bs)=>eql_ptr w p q hp (hb q hq)
 clear hr hl hp hb
 go_enter Tryz.func109,Tryz.ntmps109
 go_wp2_with fail
 go_loopw [8] (fun s8 wr=>∃ i:Nat,s8=.int .i64 i∧i≤n∧wr=w∧Hid (∀ j (hj:j<bs.length),j<i→bs[j]≠p)) (fun s8 _=>n-(RowKit.intOf s8).toNat)
 case atStart=>exact⟨0,rfl,Nat.zero_le _,rfl,hid fun j hj h=>by omega⟩
 case round =>
  obtain⟨i,rfl,hi,rfl,hno⟩:=hrel
  by_cases hlt:i<n
  ·have hix:i<bs.length:=by rw[HL.out];exact hlt
   obtain⟨o,rfl,htb,_,_,ct⟩:=HR.out.nth (i:=i) (by rw[List.length_map];exact hix)
   rw[List.getElem_map] at ct
   obtain⟨u,hu⟩:∃ u,bs[i]=u:=⟨_,rfl⟩
   rw[hu] at ct
   have HU:=hid hu
   have he:=HE.out u (by rw[← hu];exact List.getElem_mem hix)
   clear hu
   by_cases hg:p=u
   ·subst hg
    rw[decide_eq_true rfl] at he
    have HM:=hid (show p∈bs by rw[← HU.out];exact List.getElem_mem hix)
    go_wp2_with fail
    exact bodyPost_ret (v:=.int .i64 i) (by simp[results,Tryz.results109,go_sem, *]) rfl ⟨⟨_,rfl,by rw[decide_eq_true HM.out];exact decide_eq_true (by omega)⟩,rfl⟩
   ·have HG:=hid hg
    rw[decide_eq_false hg] at he
    clear hg
    go_wp2_with fail
    go_roundw
    case rel=>exact⟨i+1,by go_num,by omega,trivial,hid fun j hj hjk=>by
     by_cases hj2:j=i
     ·subst hj2;rw[HU.out];exact fun e=>HG.out e.symm
     ·exact hno.out j hj (by omega)⟩
    case measure=>simp[RowKit.intOf];omega
  ·have hin:i=n:=by omega
   subst hin
   have HM:=hid (show ¬ p∈bs from fun h=>by
    obtain⟨j,hj,e⟩:=List.getElem_of_mem h
    exact hno.out j hj (by rw[← HL.out];exact hj) e)
   go_wp2_with fail
   exact bodyPost_ret (v:=.int .i64 (-1)) (by simp[results,Tryz.results109,go_sem, *]) rfl ⟨⟨_,rfl,by rw[decide_eq_false HM.out];rfl⟩,rfl⟩
set_option maxRecDepth 20000 in
theorem containsP (a:Option Addr) (n c b:Nat) (bs:List Nat) (p:Nat) (w:World) (hl:bs.length=n) (hn:n≤1000) (hr:RowAt w b (.slice a n c) (bs.map ptr)) (hp:Whole w p) (hb:∀ q∈bs,Whole w q):Calls Tryz.prog 79 #[.slice a n c,ptr p] w fun e w'=>e=.returned (.bool (decide (p∈bs)))∧w=w':=by
 have HI:=hid (indexP a n c b bs p w hl hn hr hp hb)
 clear hr hp hb
 obtain⟨B,hB⟩:∃ B,decide (p∈bs)=B:=⟨_,rfl⟩
 rw[hB] at HI ⊢
 clear hB
 go_enter Tryz.func79,Tryz.ntmps79
 go_wp2_with (go_at_call 109;refine HI.out.mono ?_;rintro e w2 ⟨⟨k,rfl,hk⟩,rfl⟩)
 exact bodyPost_ret (v:=.bool B) (by simp[results,Tryz.results79,go_sem, *]) rfl ⟨rfl,rfl⟩
end Go.Proofs.YtmdacedmjbiekaaGreatDoor
