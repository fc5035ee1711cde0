/- Packed. -/
import Derived.Test.YtmdacedmjbiekaaGreatDoorA45
set_option maxRecDepth 99999
set_option maxHeartbeats 40000000
set_option linter.all false
namespace Go.Proofs.YtmdacedmjbiekaaGreatDoor
open Go.ChangeShapes Go.WideShapes Go.ChangeAt Go.RowKit Go.Lib
theorem tN:∀ (L:List (Wf.Fd × Wf.V)),fl (L.map fun e=>e.1.tag) (L.map (·.2))=L.map fun e=>.mk 61 [] e.1.tag [e.2]:=by
 intro L;induction L with
 | nil=>rfl
 | cons e L ih =>
  simp only[fl,List.map_cons,List.zipWith_cons_cons] at ih ⊢;rw[ih]
theorem WB.record {v:Value} {w wr:World} {vb base m mt tc c:Nat} {ta a:Option Addr} {gs:List Nat} {us:List Wf.V} {bs:List Nat} {rb:Nat} {KT:ByteArray} (h:WB w wr vb base ta mt tc a m c gs bs) (hgl:gs.length=us.length) (hv:VBk v w wr rb vb KT ⟨#[82]⟩) (hk:KT.data.toList.head? = some 64) (hu:LVs w (fun _=>True) us bs):LV wr (fun _=>True) (.mk 82 [] 0 (fl gs us)) vb:=by
 have hbl:(bs.map ptr).length=m:=by rw[List.length_map,h.hl]
 have hgm:(gs.map ix).length=mt:=by rw[List.length_map,h.hg]
 obtain⟨b,hb,hrow⟩:=aJ.bJ (xs:=bs.map ptr) (by rw[hbl];exact h.ownK);obtain⟨b2,hb2,hrow2⟩:=aJ.bJ (xs:=gs.map ix) (by rw[hgm];exact h.ownT);have ht:bE 82 0 (fl gs us)=gs:=by unfold bE;rw[if_pos rfl,qG hgl]
 exact LV.mk (kd:=KT.data.toList) (t:=[82]) (tb:=b2) (kb:=b) (bs:=bs) (by decide) trivial hv.lt hv.v0 hv.v1 h.v2 h.v3 (by rw[ht];exact hrow2) (.inr trivial) hrow (.inr trivial) ⟨hk,rfl⟩ (mZ hgl (LVs.keep (fun y hp hlt=>⟨trivial,hv.bl.block y hlt⟩) hv.bl.size _ _ hu))
def WV (v:Value) (w wr:World) (rb vb:Nat) (KT:ByteArray) (ta:Option Addr) (mt tc:Nat) (a:Option Addr) (m c:Nat) (gs bs:List Nat):Prop :=
 VBk v w wr rb vb KT ⟨#[82]⟩/\WB w wr vb (vb+1) ta mt tc a m c gs bs/\rb<vb
section
variable {v:Value} {w wr:World} {rb vb mt tc m c:Nat} {KT:ByteArray} {ta a:Option Addr} {gs bs:List Nat}
theorem WV.reT (h:WV v w wr rb vb KT ta mt tc a m c gs bs) {wx w4:World} (hx:Below wr.heap.size wr wx) (hg:wx.grownBy w4 (Value.slice ta mt tc).ownBlock):w4.cell? ⟨vb,2,none⟩=some (.slice ta mt tc)/\w4.frozen? ⟨vb,2,none⟩=false:=by
 have hs:=h.2.1.step hx;have hB:Below (vb+1) wx w4:=aU hg (fun g hgk=>(aL hs.ownT g hgk).1) hs.sz;exact⟨(hB.cell (p:=⟨vb,2,none⟩) (Nat.lt_succ_self _)).trans hs.v2,(hB.frozen (p:=⟨vb,2,none⟩) (Nat.lt_succ_self _)).trans hs.f2⟩
theorem WV.reK (h:WV v w wr rb vb KT ta mt tc a m c gs bs) {wx w4:World} (hx:Below wr.heap.size wr wx) (hg:wx.grownBy w4 (Value.slice a m c).ownBlock):w4.cell? ⟨vb,3,none⟩=some (.slice a m c)/\w4.frozen? ⟨vb,3,none⟩=false:=by
 have hs:=h.2.1.step hx;have hB:Below (vb+1) wx w4:=aU hg (fun g hgk=>(aL hs.ownK g hgk).1) hs.sz;exact⟨(hB.cell (p:=⟨vb,3,none⟩) (Nat.lt_succ_self _)).trans hs.v3,(hB.frozen (p:=⟨vb,3,none⟩) (Nat.lt_succ_self _)).trans hs.f3⟩
theorem WV.putT (h:WV v w wr rb vb KT ta mt tc a m c gs bs) {wx w4:World} (hx:Below wr.heap.size wr wx) (hg:wx.grownBy w4 (Value.slice ta mt tc).ownBlock) {g cap g0:Nat}
  (ho:w4.ownsRow (vb+1) 3 1 (.slice (some ⟨g,0,none⟩) (mt+1) cap) (mt+1) (gs.map ix++[ix g0])) (hat:(Value.slice ta mt tc).ownBlock=some g\/g=wx.heap.size) :
  WV v w (w4.setCell ⟨vb,2,none⟩ (.slice (some ⟨g,0,none⟩) (mt+1) cap)) rb vb KT (some ⟨g,0,none⟩) (mt+1) cap a m c (gs++[g0]) bs:=by
 have hs:=h.2.1.step hx;have hB:Below (vb+1) wx w4:=aU hg (fun g hgk=>(aL hs.ownT g hgk).1) hs.sz;have hr:=h.2.2;exact⟨(h.1.step (h.1.bl.trans (hx.mono h.1.bl.size)) hx h.1.rlt h.1.lt).put hB h.2.1.le (Nat.lt_succ_self _) (by omega) 2 (Nat.le_refl _) _,h.2.1.putT hx hg ho hat,hr⟩
theorem WV.putK (h:WV v w wr rb vb KT ta mt tc a m c gs bs) {wx w4:World} (hx:Below wr.heap.size wr wx) (hg:wx.grownBy w4 (Value.slice a m c).ownBlock) {g cap b:Nat}
  (ho:w4.ownsRow (vb+1) 96 1 (.slice (some ⟨g,0,none⟩) (m+1) cap) (m+1) (bs.map ptr++[ptr b])) (hat:(Value.slice a m c).ownBlock=some g\/g=wx.heap.size) :
  WV v w (w4.setCell ⟨vb,3,none⟩ (.slice (some ⟨g,0,none⟩) (m+1) cap)) rb vb KT ta mt tc (some ⟨g,0,none⟩) (m+1) cap gs (bs++[b]):=by
 have hs:=h.2.1.step hx;have hB:Below (vb+1) wx w4:=aU hg (fun g hgk=>(aL hs.ownK g hgk).1) hs.sz;have hr:=h.2.2;exact⟨(h.1.step (h.1.bl.trans (hx.mono h.1.bl.size)) hx h.1.rlt h.1.lt).put hB h.2.1.le (Nat.lt_succ_self _) (by omega) 3 (by omega) _,h.2.1.putK hx hg ho hat,hr⟩
end
theorem WV.step {v:Value} {w wr w2:World} {rb vb mt tc m c:Nat} {KT:ByteArray} {ta a:Option Addr} {gs bs:List Nat} (h:WV v w wr rb vb KT ta mt tc a m c gs bs) (hx:Below wr.heap.size wr w2):WV v w w2 rb vb KT ta mt tc a m c gs bs :=
 ⟨h.1.step (h.1.bl.trans (hx.mono h.1.bl.size)) hx h.1.rlt h.1.lt,h.2.1.step hx,h.2.2⟩
theorem xC (w:World) (b:Nat) (KD:ByteArray) (hb:b<w.heap.size) (c0:w.cell? ⟨b,0,none⟩=some (.string KD)) (W1:World) (hW1:w.alloc (.cells #[.string KD,.string ⟨#[82]⟩,.slice none 0 0,.slice none 0 0] 142)=W1):WV (.string KD) w W1 b w.heap.size KD none 0 0 none 0 0 [] []:=by
 have hB:Below w.heap.size w W1:=by
  rw[<-hW1];exact(Below.refl _ _).alloc (Nat.le_refl _) _
 have h0:=(hB.cell (p:=⟨b,0,none⟩) hb).trans c0;have h1:b<W1.heap.size:=Nat.lt_of_lt_of_le hb hB.size;subst hW1;refine⟨⟨hB,?_,h1,h0,?_,?_⟩,⟨?_,?_,?_,?_,?_,?_,?_,World.ownsRow_nil _ _ _ _,World.ownsRow_nil _ _ _ _,?_,rfl,rfl⟩,hb⟩;all_goals first|(simp[go_sem];done)|(simp[go_sem];omega)|omega|(intro y h;cases h)
theorem xL {o:Option (Wf.Fd × Wf.V)} {T:Nat} {dn:Bool} {es:List (Wf.Fd × Wf.V)} {i:Nat} (hi:i<es.length):Wf.withL o (T:Int) dn (es.drop i)=(if dn=false/\(T:Int)<((es[i]).1.tag:Int) then o.toList else [])++(if ((es[i]).1.tag:Int)≠(T:Int) then [es[i]] else [])++Wf.withL o (T:Int) (dn || decide ((T:Int)<((es[i]).1.tag:Int))) (es.drop (i+1)):=by
 rw[List.drop_eq_getElem_cons hi];rfl
def WL (o:Option (Wf.Fd × Wf.V)) (T:Nat) (dn:Bool) (es:List (Wf.Fd × Wf.V)) (w:World) (gs bs:List Nat) (rest:List (Wf.Fd × Wf.V)):Prop :=
 ∃ L:List (Wf.Fd × Wf.V),gs=L.map (fun e=>e.1.tag)/\LVs w (fun _=>True) (L.map (·.2)) bs/\L++rest=Wf.withL o (T:Int) o.isNone es/\(dn=false->o≠none)
theorem WL.put {o:Option (Wf.Fd × Wf.V)} {T:Nat} {dn:Bool} {es:List (Wf.Fd × Wf.V)} {w:World} {gs bs:List Nat} {e:Wf.Fd × Wf.V} {rest:List (Wf.Fd × Wf.V)} (h:WL o T dn es w gs bs ([e]++rest)) {b:Nat} (hb:LV w (fun _=>True) e.2 b) {dn2:Bool} (hd:dn2=false->dn=false):WL o T dn2 es w (gs++[e.1.tag]) (bs++[b]) rest:=by
 obtain⟨L,h1,h2,h3,h4⟩:=h;refine⟨L++[e],by rw[h1,List.map_append];rfl,?_,by rw[List.append_assoc];exact h3,fun h=>h4 (hd h)⟩;rw[List.map_append];exact LVs.snoc hb h2
theorem a6E {dn B1:Bool} (h:¬ (dn=false/\B1=true)):(dn || B1)=dn/\(!dn&&B1)=false:=by
 cases dn <;> cases B1 <;> first|exact⟨rfl,rfl⟩|exact absurd ⟨rfl,rfl⟩ h
theorem oR {ops:Array Oper} {rest:List Oper} {o:Oper} {act:Act} {Q:Exit->Act->World->Prop} {wx:World} {base m c:Nat} {a:Option Addr} {xs:List Value} {G:Nat} (s x:Operand) (hgd:o.guard=none) (ho:o.op=.call { callee:=.builtin .append,args:=#[s,x],argTypes:=#[139,139] })
  (hb:base<=wx.heap.size) (hown:wx.ownsRow base 3 1 (.slice a m c) m xs) (hm1:m<=1000) {zb:Nat} (hz:wx.heap[zb]? = some (.cells #[.int .i64 G] 3)) (hs:act.eval s=.slice a m c) (hx2:act.eval x=.slice (some ⟨zb,0,none⟩) 1 1)
  (h:∀ g cap w4,w4.ownsRow base 3 1 (.slice (some ⟨g,0,none⟩) (m+1) cap) (m+1) (xs++[ix G])->wx.grownBy w4 (Value.slice a m c).ownBlock->((Value.slice a m c).ownBlock=some g\/g=wx.heap.size)->Below base wx w4->wpList Tryz.prog ops Q rest (act.put o.dst (.slice (some ⟨g,0,none⟩) (m+1) cap)) w4) :
  wpList Tryz.prog ops Q (o::rest) act wx:=by
 obtain⟨i0,hi0,hz0,hz1,hz2⟩:=info_parts nY;refine wpList_append_lies wx hgd s x 139 ho base 3 i0 (.int .i64 0) 1 8 Tryz.underlying139 hi0 hz0 hz1 hz2 rfl (by decide) (.slice a m c) m _ hs hown ⟨zb,0,none⟩ 1 1 [.int .i64 G] hx2 rfl (World.news_of_block hz) (by intro u hu;rw[List.mem_singleton.1 hu];rfl) (by decide) (by unfold maxLen;omega) (by omega) hb _ rfl fun g cap w4 h1 h2 h3 h4=>?_;exact h g cap w4 h1 h2 h3 (aU h2 (fun g hg=>(aL hown g hg).1) hb)
theorem oO (es:List (Wf.Fd × Wf.V)) (hes:es.length<=400) (f:Wf.Fd) (o:Option Wf.V) (yv:Value) (b:Nat) (w:World) (hv:LV w (fun _=>True) (Wf.recV es) b) (ho:(o=none/\yv=.pointer none)\/∃ u yb,o=some u/\yv=ptr yb/\LV w (fun _=>True) u yb):Calls Tryz.prog 65 #[ptr b,.int .i64 f.tag,yv] w fun e w'=>(∃ p,e=.returned (ptr p)/\LV w' (fun _=>True) (Wf.recV (Wf.withL (o.map fun u=>(f,u)) (f.tag:Int) o.isNone es)) p)/\Below w.heap.size w w':=by
 obtain⟨hlt,kd,tt,tv,kv,tb,kb,bs0,c0,c1,c2,c3,r1,r2,hs,hk⟩:=hv.at (show(82:UInt8)≠61 by decide) (Below.refl _ _);have htt:tt=[82]:=hs.2;have hkd:kd.head? = some 64:=hs.1;subst htt;have hk2:LVs w (fun _=>True) (es.map (·.2)) bs0:=LVs.fields hk;have hr1:aJ w tb tv ((es.map fun e=>e.1.tag).map ix):=by
  have h:bE (Wf.recV es).what (Wf.recV es).tag (Wf.recV es).kids=es.map (fun e=>e.1.tag):=mR es;rw[h] at r1;exact r1
 obtain⟨n,hn⟩:∃ n,es.length=n:=⟨_,rfl⟩;have hbl:bs0.length=n:=by rw[hk2.len,List.length_map,hn]
 obtain⟨ta0,tc0,rfl,htc1,htc2⟩:=hr1.form;obtain⟨ka0,kc0,rfl,hkc1,hkc2⟩:=r2.form;have e1:((es.map fun e=>e.1.tag).map ix).length=n:=by rw[List.length_map,List.length_map,hn]
 have e2:(bs0.map ptr).length=n:=by rw[List.length_map,hbl]
 rw[e1] at c2 htc1 hr1;rw[e2] at c3 hkc1 r2;obtain⟨KD,hKD⟩:∃ KD:ByteArray,(⟨kd.toArray⟩:ByteArray)=KD:=⟨_,rfl⟩;have HKD:=hid (show KD.data.toList.head? = some 64 by rw[<-hKD];exact hkd);have c0':w.cell? ⟨b,0,none⟩=some (.string KD):=by rw[<-hKD];exact c0
 have c1':w.cell? ⟨b,1,none⟩=some (.string ⟨#[82]⟩):=c1;obtain⟨T,hT⟩:∃ T,f.tag=T:=⟨_,rfl⟩;rw[hT];have HT:=hid hT;have ST:=hid fun W1 h=>xC w b KD hlt c0' W1 h;have HR1:=hid hr1;have HR2:=hid r2;have HK:=hid hk2;have HN:=hid hn;have HBL:=hid hbl;have HE1:=hid e1;have HE2:=hid e2;have HC2:=hid c2;have HC3:=hid c3;have hn1:n<=400:=by omega
 obtain⟨oo,hoo⟩:∃ oo,(o.map fun u=>(f,u))=oo:=⟨_,rfl⟩;have hon:oo.isNone=o.isNone:=by rw[<-hoo];cases o <;> rfl
 have HON:=hid hon;have HO:=hid fun(h:oo≠none)=>(by
  rcases ho with⟨h1,h2⟩|⟨u,yb,h1,h2,h3⟩
  ·rw[h1] at hoo;exact absurd hoo.symm h
  ·exact⟨u,yb,by rw[<-hoo,h1];rfl,h2,h3⟩:∃ u yb,oo=some (f,u)/\yv=ptr yb/\LV w (fun _=>True) u yb)
 have hyv:(o.isNone=true/\yv=.pointer none)\/∃ yb,o.isNone=false/\yv=ptr yb:=by
  rcases ho with⟨h1,h2⟩|⟨u,yb,h1,h2,h3⟩
  ·exact .inl ⟨by rw[h1];rfl,h2⟩
  ·exact .inr ⟨yb,by rw[h1];rfl,h2⟩
 obtain⟨dn0,hdn0⟩:∃ dn0,o.isNone=dn0:=⟨_,rfl⟩;rw[hdn0] at hyv;have HDN:=hid hdn0;unfold maxLen at htc2 hkc2;clear hr1 r2 hk hk2 hn hbl e1 e2 hs hv ho hon hdn0 hT hkd c0 c1 hKD hes;rw[HDN.out,hoo];clear hoo;go_enter Tryz.func65,Tryz.ntmps65;go_upto_region 1 with fail
 go_cut [7] (fun s7 wx=>s7=ptr w.heap.size/\Hid (WV (.string KD) w wx b w.heap.size KD none 0 0 none 0 0 [] []))
 case first =>
  go_region
  all_goals (go_wp2_with fail;go_meet)
  all_goals exact⟨rfl,hid (by
   have h:=ST.out _ rfl;first|exact h|exact h.step (bdn (Below.refl _ _) _))⟩
 case rest =>
  obtain⟨rfl,hst⟩:=hcut;obtain⟨W1,hW1⟩:∃ W1,W1=wc:=⟨_,rfl⟩;subst hW1;go_upto_region 2 with fail
  go_cut [8] (fun s8 wx=>s8=.bool dn0/\wx=W1)
  case first =>
   rcases hyv with⟨rfl,rfl⟩|⟨yb,rfl,rfl⟩;all_goals (go_wp2_with fail;go_meet)
   all_goals exact⟨rfl,rfl⟩
  obtain⟨rfl,hwc⟩:=hcut;subst hwc;clear hyv;go_wp2_with fail
  go_loopw [8,9] (fun s8 s9 wr=>∃ (i:Nat) (dn:Bool) (ta:Option Addr) (m tc:Nat) (a:Option Addr) (c:Nat) (gs bs:List Nat),s8=.bool dn/\s9=.int .i64 i/\i<=n/\m<=2*i/\Hid (WV (.string KD) w wr b w.heap.size KD ta m tc a m c gs bs/\WL oo T dn es w gs bs (Wf.withL oo (T:Int) dn (es.drop i)))) (fun _ s9 _=>n-(RowKit.intOf s9).toNat)
  case atStart=>exact⟨0,dn0,none,0,0,none,0,[],[],rfl,rfl,Nat.zero_le _,Nat.le_refl _,hid ⟨hst.out,[],rfl,by simp only[List.map_nil,LVs],by rw[List.nil_append,List.drop_zero,HON.out,HDN.out],fun h h2=>by have:=HON.out;rw[h2,HDN.out,h] at this;cases this⟩⟩
  case round =>
   obtain⟨i,dn,ta,m,tc,a,c,gs,bs,rfl,rfl,hi,hmi,hh⟩:=hrel;have hlr:=hh.out.1.1.rlt;have hcb2:=(hh.out.1.1.bl.cell (p:=⟨b,2,none⟩) hlt).trans HC2.out;have hcb3:=(hh.out.1.1.bl.cell (p:=⟨b,3,none⟩) hlt).trans HC3.out;by_cases hlt2:i<n
   ·have hix:i<es.length:=by rw[HN.out];exact hlt2
    obtain⟨to',rfl,htb,_,_,ct⟩:=HR1.out.get (i:=i) (by rw[HE1.out];exact hlt2);obtain⟨ko,rfl,hkb,_,_,ck⟩:=HR2.out.get (i:=i) (by rw[HE2.out];exact hlt2);rw[List.getElem_map,List.getElem_map] at ct;rw[List.getElem_map] at ck;obtain⟨E,hE⟩:∃ E,es[i]=E:=⟨_,rfl⟩;obtain⟨Ti,hTi⟩:∃ Ti,E.1.tag=Ti:=⟨_,rfl⟩;obtain⟨u,hu⟩:∃ u,bs0[i]'(by rw[HBL.out];exact hlt2)=u:=⟨_,rfl⟩;rw[hE,hTi] at ct;rw[hu] at ck;have HU:=hid (show LV w (fun _=>True) E.2 u by
     have:=HK.out.get i (by rw[List.length_map];exact hix) (by rw[HBL.out];exact hlt2);rw[List.getElem_map,hE,hu] at this;exact this)
    have HTI:=hid hTi;have F:=hid fun(wz:World) (hz:Below w.heap.size w wz)=>(show wz.cell? ⟨b,2,none⟩=some (.slice (some ⟨tb,to',none⟩) n tc0)/\wz.cell? ⟨b,3,none⟩=some (.slice (some ⟨kb,ko,none⟩) n kc0)/\wz.cell? ⟨tb,to'+i,none⟩=some (ix Ti)/\wz.cell? ⟨kb,ko+i,none⟩=some (ptr u) from⟨(hz.cell (p:=⟨b,2,none⟩) hlt).trans HC2.out,(hz.cell (p:=⟨b,3,none⟩) hlt).trans HC3.out,(hz.cell (p:=⟨tb,to'+i,none⟩) htb).trans ct,(hz.cell (p:=⟨kb,ko+i,none⟩) hkb).trans ck⟩);have HSTEP:=hid (xL (o:=oo) (T:=T) (dn:=dn) hix);rw[hE,hTi] at HSTEP;obtain⟨q2,q3,q4,q5⟩:=F.out wr hh.out.1.1.bl;obtain⟨B1,hB1⟩:∃ B1,decide ((T:Int)<(Ti:Int))=B1:=⟨_,rfl⟩;have HB1:=hid hB1;have hB2:decide (T<Ti)=B1:=(by rw[<-hB1];congr 1;exact propext Int.ofNat_lt.symm);have hq4:wr.cell? ⟨tb,to'+i,none⟩=some (.int .i64 Ti):=q4;clear ct ck hE hTi hu hcb2 hcb3 q4;go_upto_region 6 with fail
    go_cut [43] from 22 to 104 (fun s43 wx=>s43=.bool (!dn&&B1)/\wx=wr)
    case first =>
     cases dn;all_goals (go_wp2_with fail;go_meet)
     all_goals exact⟨by first|rfl|(rw[hB2];rfl),rfl⟩
    case rest =>
     obtain⟨rfl,hwc⟩:=hcut;subst hwc;clear hB2;go_upto_if 43 with fail
     go_cut [8] from 22 to 104 (fun s8 wx=>∃ (ta:Option Addr) (m tc:Nat) (a:Option Addr) (c:Nat) (gs bs:List Nat),s8=.bool (dn || B1)/\m<=2*i+1/\Hid (WV (.string KD) w wx b w.heap.size KD ta m tc a m c gs bs/\WL oo T (dn || B1) es w gs bs ((if (Ti:Int)≠(T:Int) then [E] else [])++Wf.withL oo (T:Int) (dn || B1) (es.drop (i+1)))))
     case first =>
      have HL:=hid (show WL oo T dn es w gs bs ((if dn=false/\(T:Int)<(Ti:Int) then oo.toList else [])++((if (Ti:Int)≠(T:Int) then [E] else [])++Wf.withL oo (T:Int) (dn || B1) (es.drop (i+1)))) by
       have h:=hh.out.2;rw[HSTEP.out,HB1.out,List.append_assoc] at h;exact h)
      by_cases hb:dn=false/\B1=true
      ·obtain⟨rfl,rfl⟩:=hb
       have hoy:=HL.out;obtain⟨y,yb,hy1,rfl,hy3⟩:=HO.out (by obtain⟨L,_,_,_,h4⟩:=HL.out;exact h4 rfl);have HY3:=hid hy3;have HYY:=hid hy1;clear hoy hy3 hy1;have HWV:=hid hh.out.1;have HX1:=hid (((Below.refl wc.heap.size wc).alloc (Nat.le_refl _) (.cells #[ix T] 3)));have v82:=HWV.out.2.1.v2;have f82:=HWV.out.2.1.f2;have hvw:w.heap.size<wc.heap.size:=HWV.out.1.lt;have hnb1:¬ wc.heap.size=w.heap.size:=(by omega);go_upto_region 8 with(at_builtin;refine oR (base:=w.heap.size+1) (a:=ta) (m:=m) (c:=tc) (G:=T) (xs:=gs.map ix) (.tmp 48) (.tmp 50) rfl rfl (by simp;omega) (HWV.out.2.1.ownT.alloc _) (by omega) (heap_alloc_last wc _) (by rfl) (by rfl) ?_;intro g cap w4 hown4 hgrow4 hat4 b4;obtain⟨u2,uf⟩:=HWV.out.reT HX1.out hgrow4;have WVT:=hid (HWV.out.putT HX1.out hgrow4 hown4 hat4);clear hown4 hgrow4 hat4 b4)
       obtain⟨w5,hw5⟩:∃ w5,w4.setCell ⟨w.heap.size,2,none⟩ (.slice (some ⟨g,0,none⟩) (m+1) cap)=w5:=⟨_,rfl⟩;rw[hw5] at WVT ⊢;have v53:=WVT.out.2.1.v3;have f53:=WVT.out.2.1.f3;have hv5:w.heap.size<w5.heap.size:=WVT.out.1.lt;have hnb2:¬ w5.heap.size=w.heap.size:=(by omega);have HX2:=hid ((Below.refl w5.heap.size w5).alloc (Nat.le_refl _) (.cells #[ptr yb] 96));clear hw5 u2 uf v82 f82 HX1;go_wp2_with (at_builtin;refine lI (base:=w.heap.size+1) (a:=a) (m:=m) (c:=c) (p:=yb) (xs:=bs.map ptr) (.tmp 58) (.tmp 60) rfl rfl (by simp;omega) (WVT.out.2.1.ownK.alloc _) (by omega) (heap_alloc_last w5 _) (by rfl) (by rfl) ?_;intro g2 cap2 w6 hown6 hgrow6 hat6 b6;obtain⟨u3,uf3⟩:=WVT.out.reK HX2.out hgrow6;have WVN:=hid (WVT.out.putK HX2.out hgrow6 hown6 hat6);clear hown6 hgrow6 hat6 b6)
       clear u3 uf3;go_meet
       exact⟨some ⟨g,0,none⟩,m+1,cap,some ⟨g2,0,none⟩,cap2,gs++[T],bs++[yb],(by first|rfl|trivial),by omega,hid ⟨WVN.out,by
        have h:=HL.out;rw[if_pos (by first|exact⟨rfl,of_decide_eq_true HB1.out⟩|exact⟨trivial,of_decide_eq_true HB1.out⟩),HYY.out] at h;have h2:=WL.put (e:=(f,y)) h HY3.out (dn2:=(false || true)) (fun h=>by cases h);rw[show((f,y):Wf.Fd × Wf.V).1.tag=T from HT.out] at h2;rw[HYY.out];exact h2⟩⟩
      ·obtain⟨hdb,hnb⟩:=a6E hb
       have HW2:=hid (show WL oo T (dn || B1) es w gs bs ((if (Ti:Int)≠(T:Int) then [E] else [])++Wf.withL oo (T:Int) (dn || B1) (es.drop (i+1))) by
        have h:=HL.out;rw[if_neg (fun h=>hb ⟨h.1,by rw[<-HB1.out];exact decide_eq_true h.2⟩),List.nil_append] at h;rw[hdb] at h ⊢;exact h)
       have HDB:=hid hdb;clear hb hdb;rw[hnb];clear hnb;go_wp2_with fail
       go_meet
       exact⟨ta,m,tc,a,c,gs,bs,(by first|rfl|trivial|rw[HDB.out]),by omega,hid ⟨hh.out.1,HW2.out⟩⟩
     case rest =>
      clear hmi hlr;obtain⟨ta,m,tc,a,c,gs,bs,rfl,hmi,hc2⟩:=hcut;obtain⟨W8,hW8⟩:∃ W8,W8=wc:=⟨_,rfl⟩;subst hW8;have hlr:=hc2.out.1.1.rlt;obtain⟨dn2,hdn2⟩:∃ dn2,(dn || B1)=dn2:=⟨_,rfl⟩;rw[hdn2] at hc2 ⊢;clear hdn2 hB1 q2 q3 hq4 q5 HB1;obtain⟨q2,q3,q4,q5⟩:=F.out W8 hc2.out.1.1.bl;have hq4:W8.cell? ⟨tb,to'+i,none⟩=some (.int .i64 Ti):=q4;clear q4;by_cases hg:(Ti:Int)=(T:Int)
      ·have tg:((Ti:Int)==(T:Int))=true:=beq_iff_eq.2 hg
       have tg2:((Ti:Int) != (T:Int))=false:=(by simp[hg]);have HL:=hid (show WL oo T dn2 es w gs bs (Wf.withL oo (T:Int) dn2 (es.drop (i+1))) by
        have h:=hc2.out.2;rw[if_neg (fun h=>h hg),List.nil_append] at h;exact h)
       clear hg;go_wp2_with fail
       go_roundw
       case rel=>exact⟨i+1,dn2,ta,m,tc,a,c,gs,bs,rfl,by go_num,by omega,by omega,hid ⟨hc2.out.1,HL.out⟩⟩
       case measure=>simp[RowKit.intOf];omega
      ·have tg:((Ti:Int)==(T:Int))=false:=beq_eq_false_iff_ne.2 hg
       have tg2:((Ti:Int) != (T:Int))=true:=(by simp[hg]);have HL:=hid (show WL oo T dn2 es w gs bs ([E]++Wf.withL oo (T:Int) dn2 (es.drop (i+1))) by
        have h:=hc2.out.2;rw[if_pos hg] at h;exact h)
       clear hg;have HWV:=hid hc2.out.1;have HX1:=hid (((Below.refl W8.heap.size W8).alloc (Nat.le_refl _) (.cells #[ix Ti] 3)).drew);have v82:=HWV.out.2.1.v2;have f82:=HWV.out.2.1.f2;have hvw:w.heap.size<W8.heap.size:=HWV.out.1.lt;have hnb1:¬ W8.heap.size=w.heap.size:=(by omega);go_wp2_with fail
       go_region_law (refine oL (base:=w.heap.size+1) (a:=ta) (m:=m) (c:=tc) (G:=Ti) (xs:=gs.map ix) (.tmp 77) (.tmp 85) rfl rfl (by simp;omega) ((HWV.out.2.1.ownT.alloc _).drew) (by omega) (heap_alloc_last W8 _) (by simp[Act.eval,Act.put]) (by simp[Act.eval,Act.put]) ?_;intro g cap w4 hown4 hgrow4 hat4 b4;obtain⟨u2,uf⟩:=HWV.out.reT HX1.out hgrow4;have WVT:=hid (HWV.out.putT HX1.out hgrow4 hown4 hat4);clear hown4 hgrow4 hat4 b4)
       all_goals
        obtain⟨w5,hw5⟩:∃ w5,w4.setCell ⟨w.heap.size,2,none⟩ (.slice (some ⟨g,0,none⟩) (m+1) cap)=w5:=⟨_,rfl⟩;rw[hw5] at WVT ⊢;have v53:=WVT.out.2.1.v3;have f53:=WVT.out.2.1.f3;have hv5:w.heap.size<w5.heap.size:=WVT.out.1.lt;have hnb2:¬ w5.heap.size=w.heap.size:=(by omega);have HX2:=hid (((Below.refl w5.heap.size w5).alloc (Nat.le_refl _) (.cells #[ptr u] 96)).drew);clear hw5 u2 uf;obtain⟨q2,q3,q4,q5⟩:=F.out w5 WVT.out.1.bl;go_wp2_with fail
        go_region_law (refine mP (base:=w.heap.size+1) (a:=a) (m:=m) (c:=c) (p:=u) (xs:=bs.map ptr) (.tmp 93) (.tmp 101) rfl rfl (by simp;omega) ((WVT.out.2.1.ownK.alloc _).drew) (by omega) (heap_alloc_last w5 _) (by simp[Act.eval,Act.put]) (by simp[Act.eval,Act.put]) ?_;intro g2 cap2 w6 hown6 hgrow6 hat6 b6;obtain⟨u3,uf3⟩:=WVT.out.reK HX2.out hgrow6;have WVN:=hid (WVT.out.putK HX2.out hgrow6 hown6 hat6);clear hown6 hgrow6 hat6 b6)
        all_goals
         clear u3 uf3;go_wp2_with fail
         go_roundw
         case rel=>exact⟨i+1,dn2,some ⟨g,0,none⟩,m+1,cap,some ⟨g2,0,none⟩,cap2,gs++[Ti],bs++[u],rfl,by go_num,by omega,by omega,hid ⟨WVN.out,by
          have h2:=WL.put (e:=E) HL.out HU.out (dn2:=dn2) (fun h=>h);rw[HTI.out] at h2;exact h2⟩⟩
         case measure=>simp[RowKit.intOf];omega
   ·have hin:i=n:=by omega
    subst hin;have hd0:es.drop i=[]:=List.drop_eq_nil_of_le (by rw[HN.out];exact Nat.le_refl _);have HL:=hid (show WL oo T dn es w gs bs (if dn then [] else oo.toList) by
     have h:=hh.out.2;rw[hd0] at h;exact h)
    clear hd0;cases dn with
    | true =>
     have HD:=hid (show LV wr (fun _=>True) (Wf.recV (Wf.withL oo (T:Int) dn0 es)) w.heap.size by
      obtain⟨L,rfl,h2,h3,_⟩:=HL.out;have h:=hh.out.1.2.1.record (us:=L.map (·.2)) (by rw[List.length_map,List.length_map]) hh.out.1.1 HKD.out h2;rw[tN] at h;rw[if_pos rfl,List.append_nil,HON.out,HDN.out] at h3;rw[<-h3];exact h)
     go_wp2_with fail
     exact bodyPost_ret (v:=ptr w.heap.size) (by simp[results,Tryz.results65,go_sem, *]) rfl ⟨⟨w.heap.size,rfl,HD.out⟩,hh.out.1.1.bl⟩
    | false =>
     obtain⟨y,yb,hy1,rfl,hy3⟩:=HO.out (by obtain⟨L,_,_,_,h4⟩:=HL.out;exact h4 rfl);have HY3:=hid hy3;have HYY:=hid hy1;clear hy3 hy1;have HWV:=hid hh.out.1;have HX1:=hid (((Below.refl wr.heap.size wr).alloc (Nat.le_refl _) (.cells #[ix T] 3)));have v82:=HWV.out.2.1.v2;have f82:=HWV.out.2.1.f2;have hvw:w.heap.size<wr.heap.size:=HWV.out.1.lt;have hnb1:¬ wr.heap.size=w.heap.size:=(by omega);go_upto_region 15 with(at_builtin;refine oR (base:=w.heap.size+1) (a:=ta) (m:=m) (c:=tc) (G:=T) (xs:=gs.map ix) (.tmp 111) (.tmp 113) rfl rfl (by simp;omega) (HWV.out.2.1.ownT.alloc _) (by omega) (heap_alloc_last wr _) (by rfl) (by rfl) ?_;intro g cap w4 hown4 hgrow4 hat4 b4;obtain⟨u2,uf⟩:=HWV.out.reT HX1.out hgrow4;have WVT:=hid (HWV.out.putT HX1.out hgrow4 hown4 hat4);clear hown4 hgrow4 hat4 b4)
     obtain⟨w5,hw5⟩:∃ w5,w4.setCell ⟨w.heap.size,2,none⟩ (.slice (some ⟨g,0,none⟩) (m+1) cap)=w5:=⟨_,rfl⟩;rw[hw5] at WVT ⊢;have v53:=WVT.out.2.1.v3;have f53:=WVT.out.2.1.f3;have hv5:w.heap.size<w5.heap.size:=WVT.out.1.lt;have hnb2:¬ w5.heap.size=w.heap.size:=(by omega);have HX2:=hid ((Below.refl w5.heap.size w5).alloc (Nat.le_refl _) (.cells #[ptr yb] 96));clear hw5 u2 uf v82 f82 HX1;go_wp2_with (at_builtin;refine lI (base:=w.heap.size+1) (a:=a) (m:=m) (c:=c) (p:=yb) (xs:=bs.map ptr) (.tmp 121) (.tmp 123) rfl rfl (by simp;omega) (WVT.out.2.1.ownK.alloc _) (by omega) (heap_alloc_last w5 _) (by rfl) (by rfl) ?_;intro g2 cap2 w6 hown6 hgrow6 hat6 b6;obtain⟨u3,uf3⟩:=WVT.out.reK HX2.out hgrow6;have WVN:=hid (WVT.out.putK HX2.out hgrow6 hown6 hat6);clear hown6 hgrow6 hat6 b6)
     clear u3 uf3;have HD:=hid (show LV (w6.setCell ⟨w.heap.size,3,none⟩ (.slice (some ⟨g2,0,none⟩) (m+1) cap2)) (fun _=>True) (Wf.recV (Wf.withL oo (T:Int) dn0 es)) w.heap.size by
      have h:=HL.out;rw[if_neg (by decide),HYY.out] at h;obtain⟨L,h1,h2,h3,_⟩:=WL.put (e:=(f,y)) (rest:=[]) h HY3.out (dn2:=false) (fun h=>h);rw[show((f,y):Wf.Fd × Wf.V).1.tag=T from HT.out] at h1;have hw:=WVN.out;rw[h1] at hw;have h:=hw.2.1.record (us:=L.map (·.2)) (by rw[List.length_map,List.length_map]) hw.1 HKD.out h2;rw[tN] at h;rw[List.append_nil,<-HYY.out,HON.out,HDN.out] at h3;rw[<-h3];exact h)
     exact bodyPost_ret (v:=ptr w.heap.size) (by simp[results,Tryz.results65,go_sem, *]) rfl ⟨⟨w.heap.size,rfl,HD.out⟩,WVN.out.1.bl⟩
