/- Packed. -/
import Derived.Test.YtidjpalnmnehmaaGreatDoorP41
set_option maxRecDepth 99999
set_option maxHeartbeats 40000000
set_option linter.all false
namespace Go.Proofs.YtidjpalnmnehmaaGreatDoor
open Go.ChangeShapes Go.WideShapes Go.ChangeAt Go.RowKit Go.Lib
theorem bytesPut_s (s kt v:ByteArray) (w:World) (hs:s.size<=1048576) (hv:v.size<=1048576):Calls Tryz.prog 12 #[.string s,.string kt,.string v] w fun e w'=>e=.returned (vfV (bytesVal s.data.toList kt.data.toList v.data.toList))/\Below w.heap.size w w':=by
 have HG:=hid (l4Of s kt v w hs hv);cases hvo:valOf s.data.toList kt.data.toList v.data.toList with
 | none =>
  have HD:=hid (show vfV (bytesVal s.data.toList kt.data.toList v.data.toList)=.tuple #[.string ⟨#[]⟩,.bool false] by unfold bytesVal;rw[hvo];rfl);have HO:=hid fun(e:Ending) (w':World) (h:cE s.data.toList kt.data.toList v.data.toList w.heap.size e w')=>(by unfold cE at h;rw[hvo] at h;exact h:∃ a n c p,e=.returned (.tuple #[.slice a n c,.pointer p,.bool false]));clear hvo;go_enter Tryz.func12,Tryz.ntmps12;go_wp2_with (go_at_call 29;refine HG.out.mono ?_;rintro e w2 ⟨ho,hb2⟩;obtain⟨a,n,c,p,rfl⟩:=HO.out _ _ ho;have HB2:=hid hb2;clear ho hb2)
  go_ret2
  exact⟨by rw[HD.out];rfl,HB2.out⟩
 | some y =>
  obtain⟨⟨x,k⟩,u⟩:=y;obtain⟨_,hvi⟩:=eN hvo;obtain⟨hty,hsv,hlv⟩:=Wf.gD hvi;have hbv:bytesVal s.data.toList kt.data.toList v.data.toList=some u.bytes:=by unfold bytesVal;rw[hvo];rfl
  have hl:=bytesVal_len hbv;obtain⟨R,hR⟩:∃ R:ByteArray,(⟨u.bytes.toArray⟩:ByteArray)=R:=⟨_,rfl⟩;have hRs:R.size<=400:=by rw[<-hR];exact hl
  have HD:=hid (show vfV (bytesVal s.data.toList kt.data.toList v.data.toList)=.tuple #[.string R,.bool true] by rw[hbv,<-hR];rfl);have HBY:=hid fun(pb:Nat) (W wz:World) (hlv:LV W (fun z=>w.heap.size<=z) u pb) (hz:Below W.heap.size W wz)=>lbytes 12 k u hty _ pb W wz hlv hz (by rw[<-hsv];omega);simp only[tx,hR] at HBY;have HO:=hid fun(e:Ending) (w':World) (h:cE s.data.toList kt.data.toList v.data.toList w.heap.size e w')=>(by unfold cE at h;rw[hvo] at h;exact h:∃ b a c p,e=.returned (.tuple #[.slice a x.length c,ptr p,.bool true])/\ScSp w' w.heap.size b (.slice a x.length c) x/\LV w' (fun z=>w.heap.size<=z) u p);clear hvo hvi hty hbv hl hR hsv;go_enter Tryz.func12,Tryz.ntmps12;go_wp2_with (first|(go_at_call 30;have _u:=B3;refine(HBY.out _ w2 _ HLV.out HB23.out).mono ?_;rintro e w4 ⟨rfl,hb4⟩;have B4:=hid (aC B3.out hb4);clear hb4)|(go_at_call 30;refine(HBY.out _ w2 _ HLV.out (Below.refl _ _)).mono ?_;rintro e w3 ⟨rfl,hb3⟩;have HB23:=hid hb3;have B3:=hid (aC HB2.out hb3);clear hb3)|(go_at_call 29;refine HG.out.mono ?_;rintro e w2 ⟨ho,hb2⟩;obtain⟨b,a,c,p,rfl,_,hlv⟩:=HO.out _ _ ho;have HLV:=hid hlv;have HB2:=hid hb2;clear ho hb2 hlv))
  go_ret2
  exact⟨by rw[HD.out];rfl,B4.out⟩

theorem a6C (rb k:Nat) (n:Int) (w:World) (H:Rd w rb k) (hk:k<=1000000) (hn:n<=9223372036854775807):∃ v:Int,(1<=n->0<=v/\v<n)/\Calls Tryz.prog 62 #[.pointer (some ⟨rb,0,none⟩),.int .i64 n] w fun e w'=>e=.returned (.int .i64 v)/\Rd w' rb (k+1)/\aA rb w w':=by
 obtain⟨a,len,cap,p,h1,h2,h3,h4,h5,h6,h7,h8⟩:=H;have R:=Rd.step h1 h2 h3 h4 h5 h6 h7 h8;have Bs:=aA.set rb w 1 (.int .i64 (p+1));rcases Int.lt_or_le n 1 with hn1|hn1
 ·refine⟨0,fun h=>by omega,(qG rb a len cap p n w h2 h3 h4 h5 (by omega) hn1).mono ?_⟩
  rintro e w' ⟨rfl,rfl⟩;exact⟨rfl,R,Bs⟩
 ·by_cases hl:len=0
  ·subst hl
   refine⟨0,fun h=>by omega,(qC rb a cap p n w h2 h3 h4 h5 (by omega) hn1).mono ?_⟩;rintro e w' ⟨rfl,rfl⟩;exact⟨rfl,R,Bs⟩
  ·obtain⟨l1,l2,h0|⟨b,off,rfl,hb,hc⟩⟩:=h1
   ·exact absurd h0 hl
   ·by_cases hpl:p<len
    ·obtain⟨m,m1,m2,m3⟩:=hc p.toNat (by omega)
     refine⟨m % n,fun h=>⟨Int.emod_nonneg _ (by omega),Int.emod_lt_of_pos _ (by omega)⟩,(sR rb b off len cap p n m w h2 h3 h4 h5 (by omega) hn1 (by omega) h7 hpl (by omega) m1 m2 m3).mono ?_⟩;rintro e w' ⟨rfl,rfl⟩;exact⟨rfl,R,Bs⟩
    ·have hlp:(0:Int)<len:=by omega
     have q1:p.tmod len=p % len:=Int.tmod_eq_emod_of_nonneg h5;have q2:(p*7+3).tmod len=(p*7+3) % len:=Int.tmod_eq_emod_of_nonneg (by omega);have q3:p.tdiv len=p / len:=Int.tdiv_eq_ediv_of_nonneg h5;have a1:=Int.emod_nonneg p (b:=len) (by omega);have a2:=Int.emod_lt_of_pos p hlp;have a3:=Int.emod_nonneg (p*7+3) (b:=len) (by omega);have a4:=Int.emod_lt_of_pos (p*7+3) hlp;have a5:0<=p / len:=Int.ediv_nonneg h5 (by omega);have a6:p / len<=p:=Int.ediv_le_self _ h5;obtain⟨m,m1,m2,m3⟩:=hc (p % len).toNat (by omega);obtain⟨m',m1',m2',m3'⟩:=hc ((p*7+3) % len).toNat (by omega);refine⟨(bits .xor .i64 (m*131+m' * 1117+p*29+p / len*53) ((m*131+m' * 1117+p*29+p / len*53) / 64)).tmod n,fun h=>⟨Int.tmod_nonneg _ (pZ _ (by omega) (by omega)),Int.tmod_lt_of_pos _ (by omega)⟩,(oT rb b off len cap p n m m' (p % len) ((p*7+3) % len) (p / len) w h2 h3 h4 h5 (by omega) hn1 hn (by omega) h7 hpl (by omega) m1 m2 m1' m2' q1 q2 q3 a1 a2 a3 a4 a5 (by omega) m3 m3').mono ?_⟩;rintro e w' ⟨rfl,k1,rfl⟩;exact⟨rfl,R.drewN _,Bs.drewN _⟩
theorem a2A {ops:Array Oper} {o:Oper} {act:Act} {K:Act->World->Prop} {Q:Exit->Act->World->Prop} {E:Prop} {wx:World} {base m c:Nat} {a:Option Addr} {xs:List Value} {G:Nat} (s x:Operand) (hgd:o.guard=none) (ho:o.op=.call { callee:=.builtin .append,args:=#[s,x],argTypes:=#[32,32] })
  (hb:base<=wx.heap.size) (hown:wx.ownsRow base 3 1 (.slice a m c) m xs) (hm1:m<=1000) {zb:Nat} (hz:wx.heap[zb]? = some (.cells #[.int .i64 G] 3)) (hs:act.eval s=.slice a m c) (hx2:act.eval x=.slice (some ⟨zb,0,none⟩) 1 1)
  (h:∀ g cap w4,w4.ownsRow base 3 1 (.slice (some ⟨g,0,none⟩) (m+1) cap) (m+1) (xs++[ix G])->wx.grownBy w4 (Value.slice a m c).ownBlock->((Value.slice a m c).ownBlock=some g\/g=wx.heap.size)->Below base wx w4->K (act.put o.dst (.slice (some ⟨g,0,none⟩) (m+1) cap)) w4) :
  if Region.wanted o (yielded ops act.tmps)=true then Oper.wp Tryz.prog o act wx K Q else E:=by
 obtain⟨i0,hi0,hz0,hz1,hz2⟩:=info_parts kQ;refine step_append_lies wx hgd s x 32 ho base 3 i0 (.int .i64 0) 1 8 Tryz.underlying32 hi0 hz0 hz1 hz2 rfl (by decide) (.slice a m c) m _ hs hown ⟨zb,0,none⟩ 1 1 [.int .i64 G] hx2 rfl (World.news_of_block hz) (by intro u hu;rw[List.mem_singleton.1 hu];rfl) (by decide) (by unfold maxLen;omega) (by omega) hb _ rfl fun g cap w4 h1 h2 h3 h4=>?_;exact h g cap w4 h1 h2 h3 (aW h2 (fun g hg=>(aT hown g hg).1) hb)
theorem zL {ops:Array Oper} {rest:List Oper} {o:Oper} {act:Act} {Q:Exit->Act->World->Prop} {wx:World} {base m c:Nat} {a:Option Addr} {xs:List Value} {p:Nat} (s x:Operand) (hgd:o.guard=none) (ho:o.op=.call { callee:=.builtin .append,args:=#[s,x],argTypes:=#[101,101] })
  (hb:base<=wx.heap.size) (hown:wx.ownsRow base 57 1 (.slice a m c) m xs) (hm1:m<=1000) {zb:Nat} (hz:wx.heap[zb]? = some (.cells #[ptr p] 57)) (hs:act.eval s=.slice a m c) (hx2:act.eval x=.slice (some ⟨zb,0,none⟩) 1 1)
  (h:∀ g cap w4,w4.ownsRow base 57 1 (.slice (some ⟨g,0,none⟩) (m+1) cap) (m+1) (xs++[ptr p])->wx.grownBy w4 (Value.slice a m c).ownBlock->((Value.slice a m c).ownBlock=some g\/g=wx.heap.size)->Below base wx w4->wpList Tryz.prog ops Q rest (act.put o.dst (.slice (some ⟨g,0,none⟩) (m+1) cap)) w4) :
  wpList Tryz.prog ops Q (o::rest) act wx:=by
 obtain⟨i0,hi0,hz0,hz1,hz2⟩:=info_parts iR;refine wpList_append_lies wx hgd s x 101 ho base 57 i0 (.pointer none) 1 8 Tryz.underlying101 hi0 hz0 hz1 hz2 rfl (by decide) (.slice a m c) m _ hs hown ⟨zb,0,none⟩ 1 1 [ptr p] hx2 rfl (World.news_of_block hz) (fT _) (by decide) (by unfold maxLen;omega) (by omega) hb _ rfl fun g cap w4 h1 h2 h3 h4=>?_;exact h g cap w4 h1 h2 h3 (aW h2 (fun g hg=>(aT hown g hg).1) hb)
structure RW (w wr:World) (rb tb vb:Nat) (fv:Value) (KT:ByteArray) (k:Nat) (ta:Option Addr) (mt tc:Nat) (a:Option Addr) (m c:Nat) (gs:List Nat) (l:List Wf.V) (bs:List Nat):Prop where
 rr:RB w wr vb (vb+1) ta mt tc a m c gs l bs
 bes:aA rb w wr
 rd:Rd wr rb k
 tl:tb<vb
 tle:w.heap.size<=tb
 t2:wr.cell? ⟨tb,2,none⟩=some fv
 v0:wr.cell? ⟨vb,0,none⟩=some (.string KT)
 v1:wr.cell? ⟨vb,1,none⟩=some (.string ⟨#[82]⟩)
section
variable {w wr:World} {rb tb vb k mt tc m c:Nat} {fv:Value} {KT:ByteArray} {ta a:Option Addr} {gs:List Nat} {l:List Wf.V} {bs:List Nat}
theorem RB.cW {base:Nat} (h:RB w wr vb base ta mt tc a m c gs l bs) {w2:World} (hb:aA rb wr w2) (hr:rb<w.heap.size):RB w w2 vb base ta mt tc a m c gs l bs:=by
 have hv:vb<wr.heap.size:=Nat.lt_of_lt_of_le h.lt h.sz;have h1:=h.le;have h2:=h.lt;have hn:vb≠rb:=by omega
 exact⟨h.lt,h.le,Nat.le_trans h.sz hb.size,(hb.cell (p:=⟨vb,2,none⟩) hv hn).trans h.v2,(hb.frozen (p:=⟨vb,2,none⟩) hv hn).trans h.f2,(hb.cell (p:=⟨vb,3,none⟩) hv hn).trans h.v3,(hb.frozen (p:=⟨vb,3,none⟩) hv hn).trans h.f3,iC h.ownT hb (by omega),iC h.ownK hb (by omega),h.apart,h.hg,h.hl,LVs.keep (fun y hy hlt=>⟨hy,hb.block y hlt (by have:=hy.1;omega)⟩) hb.size _ _ h.vals⟩
theorem RW.cW (h:RW w wr rb tb vb fv KT k ta mt tc a m c gs l bs) {w2:World} {k2:Nat} (hb:aA rb wr w2) (hr:rb<w.heap.size) (hk:Rd w2 rb k2):RW w w2 rb tb vb fv KT k2 ta mt tc a m c gs l bs:=by
 have h1:=h.rr.le;have h2:=h.rr.lt;have h3:=h.rr.sz;have h4:=h.tl;have h5:=h.tle;have e1:tb<wr.heap.size:=by omega
 have e2:tb≠rb:=by omega
 have e3:vb<wr.heap.size:=by omega
 have e4:vb≠rb:=by omega
 exact⟨h.rr.cW hb hr,h.bes.trans hb,hk,h.tl,h.tle,(hb.cell (p:=⟨tb,2,none⟩) e1 e2).trans h.t2,(hb.cell (p:=⟨vb,0,none⟩) e3 e4).trans h.v0,(hb.cell (p:=⟨vb,1,none⟩) e3 e4).trans h.v1⟩
theorem RW.low (h:RW w wr rb tb vb fv KT k ta mt tc a m c gs l bs) (hr:rb<w.heap.size) {wx w4:World} (hx:Below wr.heap.size wr wx) (h4:Below (vb+1) wx w4) (j:Nat) (hj:2<=j) (S:Value) {ta' a':Option Addr} {mt' tc' m' c':Nat} {gs' bs':List Nat} {l':List Wf.V} (hb:RB w (w4.setCell ⟨vb,j,none⟩ S) vb (vb+1) ta' mt' tc' a' m' c' gs' l' bs'):RW w (w4.setCell ⟨vb,j,none⟩ S) rb tb vb fv KT k ta' mt' tc' a' m' c' gs' l' bs':=by
 have h1:=h.rr.le;have h3:=h.rr.sz;have hB1:Below (vb+1) wr w4:=(hx.mono h3).trans h4;have hB:Below w.heap.size wr (w4.setCell ⟨vb,j,none⟩ S):=(hB1.mono (by omega)).setCell h1 _;have h5:=h.tl;exact⟨hb,gK h.bes hB (Nat.le_refl _),h.rd.below hB hr,h.tl,h.tle,(World.cell?_setCell_other w4 _ _ _ (by simp <;> omega)).trans ((hB1.cell (p:=⟨tb,2,none⟩) (by show tb<vb+1;omega)).trans h.t2),(World.cell?_setCell_other w4 _ _ _ (by simp <;> omega)).trans ((hB1.cell (p:=⟨vb,0,none⟩) (by show vb<vb+1;omega)).trans h.v0),(World.cell?_setCell_other w4 _ _ _ (by simp <;> omega)).trans ((hB1.cell (p:=⟨vb,1,none⟩) (by show vb<vb+1;omega)).trans h.v1)⟩
theorem RW.tag {w5:World} {k5:Nat} (h0:RW w wr rb tb vb fv KT k ta mt tc a m c gs l bs) (h:RW w w5 rb tb vb fv KT k5 ta mt tc a m c gs l bs) (hr:rb<w.heap.size) {wx w6:World} {g cap G p:Nat} {u:Wf.V} (hv:LV w5 (fun z=>wr.heap.size<=z) u p) (hx:Below w5.heap.size w5 wx)
  (hg:wx.grownBy w6 (Value.slice ta mt tc).ownBlock) (ho:w6.ownsRow (vb+1) 3 1 (.slice (some ⟨g,0,none⟩) (mt+1) cap) (mt+1) (gs.map ix++[ix G])) (hat:(Value.slice ta mt tc).ownBlock=some g\/g=wx.heap.size) :
  RW w (w6.setCell ⟨vb,2,none⟩ (.slice (some ⟨g,0,none⟩) (mt+1) cap)) rb tb vb fv KT k5 (some ⟨g,0,none⟩) (mt+1) cap a m c (gs++[G]) l bs/\LV (w6.setCell ⟨vb,2,none⟩ (.slice (some ⟨g,0,none⟩) (mt+1) cap)) (fun y=>vb+1<=y/\some y≠(Value.slice a m c).ownBlock/\some y≠(Value.slice (some ⟨g,0,none⟩) (mt+1) cap).ownBlock) u p:=by
 obtain⟨r1,r2⟩:=h.rr.putT hx hg ho hat;have hs:=h.rr.step hx;have hB:Below (vb+1) wx w6:=aW hg (fun y hy=>(aT hs.ownT y hy).1) hs.sz;have h3:=h0.rr.sz;refine⟨h.low hr hx hB 2 (by decide) _ r1,LV.keep (fun y hp hlt=>?_) (by simpa using hB.size) _ _ (hv.below hx)⟩;have hy:wr.heap.size<=y:=hp;have n1:some y≠(Value.slice a m c).ownBlock:=fun e=>by have:=(aT h0.rr.ownK y e.symm).2;omega
 have n2:some y≠(Value.slice ta mt tc).ownBlock:=fun e=>by have:=(aT h0.rr.ownT y e.symm).2;omega
 obtain⟨q1,q2⟩:=r2 y (by omega) hlt n1 n2;exact⟨⟨by omega,n1,q1⟩,q2⟩
theorem RW.kid (h:RW w wr rb tb vb fv KT k ta mt tc a m c gs l bs) (hr:rb<w.heap.size) {w6:World} {g cap p:Nat} {u:Wf.V} (hv:LV wr (fun y=>vb+1<=y/\some y≠(Value.slice a m c).ownBlock/\some y≠(Value.slice ta mt tc).ownBlock) u p)
  (hg:(wr.alloc (.cells #[ptr p] 57)).grownBy w6 (Value.slice a m c).ownBlock) (ho:w6.ownsRow (vb+1) 57 1 (.slice (some ⟨g,0,none⟩) (m+1) cap) (m+1) (bs.map ptr++[ptr p])) (hat:(Value.slice a m c).ownBlock=some g\/g=(wr.alloc (.cells #[ptr p] 57)).heap.size) :
  RW w (w6.setCell ⟨vb,3,none⟩ (.slice (some ⟨g,0,none⟩) (m+1) cap)) rb tb vb fv KT k ta mt tc (some ⟨g,0,none⟩) (m+1) cap gs (l++[u]) (bs++[p]):=by
 have hx:=(Below.refl wr.heap.size wr).alloc (Nat.le_refl _) (.cells #[ptr p] 57);have hs:=h.rr.step hx;have hB:Below (vb+1) (wr.alloc (.cells #[ptr p] 57)) w6:=aW hg (fun y hy=>(aT hs.ownK y hy).1) hs.sz;exact h.low hr hx hB 3 (by decide) _ (h.rr.putK hx hg ho hat (hv.below hx))
end
