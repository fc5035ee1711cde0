/- Packed. -/
import Derived.Test.YtidjpalnmnehmaaGreatDoorP38
import Derived.Deep.WholeRow
set_option maxRecDepth 99999
set_option maxHeartbeats 40000000
set_option linter.all false
namespace Go.Proofs.YtidjpalnmnehmaaGreatDoor
open Go.ChangeShapes Go.WideShapes Go.ChangeAt Go.RowKit Go.Lib
theorem cI.form {l kt:List UInt8} {lo:Nat} {e:Ending} {w':World} (h:cI l kt lo e w'):∃ a n c b,e=.returned (.tuple #[.slice a n c,.bool b]):=by
 unfold cI at h;cases hk:aX l kt with
 | none=>rw[hk] at h;obtain⟨a,n,c,rfl⟩:=h;exact⟨_,_,_,_,rfl⟩
 | some y=>rw[hk] at h;obtain⟨b,a,c,rfl,_⟩:=h;exact⟨_,_,_,_,rfl⟩
theorem a5J (rb k:Nat) (w:World) (H:Rd w rb k) (hk:k<=900000) :
  Calls Tryz.prog 103 #[.pointer (some ⟨rb,0,none⟩)] w fun e w'=>∃ b:List UInt8,e=.returned (tx (39::(b++[39])))/\b.all Wf.aF=true/\b.length<=12/\Rd w' rb (k+1)/\aA rb w w':=by
 have R0:=H.lt;go_enter Tryz.func103,Tryz.ntmps103;go_wp2_with (go_at_call 62;refine(pick rb k 6 _ (H.alloc _) (by omega) (by omega)).mono ?_;rintro e w3 ⟨n,rfl,hn,_,hR3,hBs3⟩;obtain⟨hn0,hn1⟩:=hn (by omega);obtain⟨x,hx0,hx1,hxc⟩:=cM 12 [[],[97],[104,105],[97,32,98],[122,122,57],[97,98,99,100,101,102,103,104,105,106,107,108]] hBs3 R0 n hn0 hn1 (by decide);have B3:=Lib.hid (((aA.refl rb w).alloc _).trans hBs3);clear hBs3)
 have hall:=List.all_eq_true.1 (show([[],[97],[104,105],[97,32,98],[122,122,57],[97,98,99,100,101,102,103,104,105,106,107,108]]:List (List UInt8)).all (fun b=>b.all Wf.aF&&decide (b.length<=12))=true by decide) _ hx1;rw[Bool.and_eq_true,decide_eq_true_eq] at hall;go_ret
 refine⟨x.data.toList,?_,hall.1,hall.2,hR3,B3.out⟩;refine congrArg (fun s=>Ending.returned (Value.string s)) ?_;rw[aR];simp[ByteArray.data_append]
theorem uL (rb k:Nat) (s:ByteArray) (hs:s.size<=1048576) (w:World) (H:Rd w rb k) (hk:k<=800000) :
  Calls Tryz.prog 38 #[.pointer (some ⟨rb,0,none⟩),.string s] w fun e w'=>∃ K:ByteArray,e=.returned (.string K)/\K.size<=100/\Rd w' rb (k+10)/\aA rb w w':=by
 have R0:=H.lt;have HK:=hid fun(kt:ByteArray) (wz:World)=>mH s kt wz hs;go_enter Tryz.func38,Tryz.ntmps38;go_wp2_with (first|(go_at_call 50;refine(HK.out x _).mono ?_;rintro e w4 ⟨ho,hb4⟩;obtain⟨a,n,c,b,rfl⟩:=ho.form;have R4:=hid (hR3.below hb4 hR3.lt);have B4:=hid (B3.out.trans (aA.aI hb4 (Nat.le_refl _)));clear ho hb4;cases b)|(go_at_call 64;refine(pS rb (k+1) _ hR2 (by omega)).mono ?_;rintro e w3 ⟨K,rfl,hK,hR4,hBs4⟩;have B5:=hid (B2.out.trans hBs4);clear hBs4)|(go_at_call 62;have _u:=hR2;refine(pick rb (k+1) 11 _ (hR2.alloc _) (by omega) (by omega)).mono ?_;rintro e w3 ⟨n,rfl,hn,_,hR3,hBs3⟩;obtain⟨hn0,hn1⟩:=hn (by omega);obtain⟨x,hx0,hx1,hxc⟩:=cM 4 [[64,97,59],[64,97,59],[64,97,59],[64,98,59],[64,99,59],[91,110],[63,64,97,59],[110],[116],[91,64,98,59],[63,91,102]] hBs3 hR2.lt n hn0 hn1 (by decide);have B3:=Lib.hid ((B2.out.alloc _).trans hBs3);clear hBs3)|(go_at_call 62;refine(pick rb k 30 _ H (by omega) (by omega)).mono ?_;rintro e w2 ⟨v,rfl,hv,_,hR2,hBs⟩;obtain⟨hv0,hv1⟩:=hv (by omega);have B2:=Lib.hid hBs;clear hBs hv;rcases(Bool.eq_false_or_eq_true (v==(0:Int))) with hq|hq))
 all_goals go_ret
 all_goals first|exact⟨K,rfl,by omega,hR4.mono (by omega),B5.out⟩|exact⟨_,rfl,by decide,R4.out.mono (by omega),B4.out⟩|exact⟨x,rfl,by omega,R4.out.mono (by omega),B4.out⟩

def DrV (x:Wf.Sc) (v:Value) (rb lo bsc:Nat) (d:Int) (k:Wf.K) (C B N:Nat):Prop:=∀ (w:World) (k0:Nat),Rd w rb k0->k0+C<=900000->ScSp w lo bsc v x->rb<lo->Calls Tryz.prog 65 #[.pointer (some ⟨rb,0,none⟩),v,tx k.text,.int .i64 d] w fun e w'=>∃ (u:Wf.V) (p:Nat),e=.returned (ptr p)/\Wf.Typed x N k u/\u.print.length<=B/\LV w' (fun z=>w.heap.size<=z) u p/\Rd w' rb (k0+C)/\aA rb w w'
theorem DrV.mono {x:Wf.Sc} {v:Value} {rb lo bsc:Nat} {d:Int} {k:Wf.K} {C B N C' B' N':Nat} (h:DrV x v rb lo bsc d k C B N) (hC:C<=C') (hB:B<=B') (hN:N<=N'):DrV x v rb lo bsc d k C' B' N':=fun w k0 hr hk hs hl =>
 (h w k0 hr (by omega) hs hl).mono fun e w' ⟨u,p,h1,h2,h3,h4,h5,h6⟩=>⟨u,p,h1,Wf.nZ _ _ _ h2 _ hN,by omega,h4,h5.mono (by omega),h6⟩
abbrev vNew (KT:ByteArray):Obj:=.cells #[.string KT,.string ⟨#[]⟩,.slice none 0 0,.slice none 0 0] 103
theorem eO {w w3:World} {rb:Nat} {KT:ByteArray} (hr:rb<w.heap.size) (hb:aA rb (w.alloc (vNew KT)) w3):w.heap.size<w3.heap.size/\w3.cell? ⟨w.heap.size,0,none⟩=some (.string KT)/\w3.cell? ⟨w.heap.size,1,none⟩=some (.string ⟨#[]⟩)/\w3.cell? ⟨w.heap.size,2,none⟩=some (.slice none 0 0)/\w3.cell? ⟨w.heap.size,3,none⟩=some (.slice none 0 0)/\w3.frozen? ⟨w.heap.size,1,none⟩=false/\w3.frozen? ⟨w.heap.size,2,none⟩=false/\w3.frozen? ⟨w.heap.size,3,none⟩=false:=by
 have hlt:w.heap.size<(w.alloc (vNew KT)).heap.size:=by simp
 have hne:w.heap.size≠rb:=by omega
 have hblk:=hb.block w.heap.size hlt hne;have cd:=fun o=>World.cell?_of_block (w:=w.alloc (vNew KT)) (w':=w3) (a:=⟨w.heap.size,o,none⟩) hblk;have cf:=fun o=>World.frozen?_of_block (w:=w.alloc (vNew KT)) (w':=w3) (a:=⟨w.heap.size,o,none⟩) hblk;refine⟨Nat.lt_of_lt_of_le hlt hb.size,(cd 0).trans ?_,(cd 1).trans ?_,(cd 2).trans ?_,(cd 3).trans ?_,(cf 1).trans ?_,(cf 2).trans ?_,(cf 3).trans ?_⟩ <;> simp[vNew,go_sem]
theorem LV.leaf {w w3:World} {rb:Nat} {KT X:ByteArray} {what:UInt8} {text:List UInt8} (hr:rb<w.heap.size) (hb:aA rb (w.alloc (vNew KT)) w3) (hs:aZ what text KT.data.toList X.data.toList) (h61:what≠61) (ht:bG what 0 []=[]):LV (w3.setCell ⟨w.heap.size,1,none⟩ (.string X)) (fun z=>w.heap.size<=z) (.mk what text 0 []) w.heap.size:=by
 obtain⟨hlt,c0,c1,c2,c3,_,_,_⟩:=eO hr hb;refine LV.mk (kd:=KT.data.toList) (t:=X.data.toList) (bs:=[]) (tb:=0) (kb:=0) (tv:=.slice none 0 0) (kv:=.slice none 0 0) h61 (Nat.le_refl _) (by simpa using hlt) ((World.cell?_setCell_other w3 _ _ _ (by simp)).trans c0) (World.cell?_setCell_same w3 _ _ c1) ((World.cell?_setCell_other w3 _ _ _ (by simp)).trans c2) ((World.cell?_setCell_other w3 _ _ _ (by simp)).trans c3) (by rw[ht];exact dU _ _) (.inl ht) (dU _ _) (.inl rfl) hs (by simp only[LVs])
theorem jY {rb:Nat} {w w3:World} (h:aA rb w w3) {p:Addr} (hp:w.heap.size<=p.block) (u:Value):aA rb w (w3.setCell p u):=by
 have hb:=(Below.refl w.heap.size w3).setCell hp u;exact⟨hb.os.trans h.os,hb.tape.trans h.tape,hb.output.trans h.output,Nat.le_trans h.size hb.size,fun k hk hr=>(Below.heap_setCell w3 p u k (by omega)).trans (h.block k hk hr)⟩
theorem a3A {w4:World} {a:Addr} {c:Value} {p:Nat} (hp:p<=999999) (hc:c∈[Value.int .i64 0,.int .i64 5,.int .i64 (p:Int),.int .i64 127,.int .i64 128,.int .i64 16383,.int .i64 16384,.int .i64 999999]) (hcc:w4.cell? a=some c):∃ y:Nat,y<=999999/\w4.cell? a=some (.int .i64 y):=by
 simp only[List.mem_cons,List.not_mem_nil,or_false] at hc;rcases hc with rfl|rfl|rfl|rfl|rfl|rfl|rfl|rfl
 ·exact⟨0,by omega,hcc⟩
 ·exact⟨5,by omega,hcc⟩
 ·exact⟨p,hp,hcc⟩
 ·exact⟨127,by omega,hcc⟩
 ·exact⟨128,by omega,hcc⟩
 ·exact⟨16383,by omega,hcc⟩
 ·exact⟨16384,by omega,hcc⟩
 ·exact⟨999999,by omega,hcc⟩
section
variable (x:Wf.Sc) (v:Value) (rb lo bsc:Nat) (d:Int)
theorem lN:DrV x v rb lo bsc d .txt 1 14 1:=fun w k0 H hk0 hsp hlo=>by
 have R0:=H.lt;obtain⟨KT,hKT⟩:∃ KT:ByteArray,(⟨(Wf.K.text .txt).toArray⟩:ByteArray)=KT:=⟨_,rfl⟩;have hk1:0<KT.size:=by rw[<-hKT];decide
 have ek:∀ h,(KT[0]'h).toNat=116:=by rw[<-hKT];intro h;rfl
 have HKH:=hid (show KT.data.toList.head? = some 116 by rw[<-hKT];rfl);rw[tx,hKT];clear hKT;go_enter Tryz.func65,Tryz.ntmps65;go_wp2_with (go_at_call 103;refine(a5J rb k0 _ (H.alloc _) (by omega)).mono ?_;rintro e w3 ⟨b,rfl,hb1,hb2,hR3,hBs3⟩;obtain⟨hlt,c0,c1,c2,c3,f1,f2,f3⟩:=eO R0 hBs3;have B3:=Lib.hid hBs3;have R3:=Lib.hid hR3;clear hBs3 hR3)
 go_ret
 refine⟨.mk 116 b 0 [],w.heap.size,rfl,⟨b,hb1,hb2,rfl⟩,by rw[Wf.eX];simp;omega,LV.leaf (X:=⟨(39::(b++[39])).toArray⟩) R0 B3.out ⟨HKH.out,rfl⟩ (by decide) rfl,R3.out.below ((Below.refl w.heap.size w3).setCell (Nat.le_refl _) _) R0,jY (((aA.refl rb w).alloc _).trans B3.out) (Nat.le_refl _) _⟩
theorem mR:DrV x v rb lo bsc d .flag 1 3 1:=fun w k0 H hk0 hsp hlo=>by
 have R0:=H.lt;obtain⟨KT,hKT⟩:∃ KT:ByteArray,(⟨(Wf.K.text .flag).toArray⟩:ByteArray)=KT:=⟨_,rfl⟩;have hk1:0<KT.size:=by rw[<-hKT];decide
 have ek:∀ h,(KT[0]'h).toNat=102:=by rw[<-hKT];intro h;rfl
 have HKH:=hid (show KT.data.toList.head? = some 102 by rw[<-hKT];rfl);have hr1:rb<(w.alloc (vNew KT)).heap.size:=Nat.lt_of_lt_of_le R0 (by simp);rw[tx,hKT];clear hKT;go_enter Tryz.func65,Tryz.ntmps65;go_wp2_with (go_at_call 62;refine(pick rb k0 2 _ ((H.alloc _).alloc _) (by omega) (by omega)).mono ?_;rintro e w3 ⟨n,rfl,hn,_,hR3,hBs3⟩;obtain⟨hn0,hn1⟩:=hn (by omega);obtain⟨X,hx0,hx1,hxc⟩:=cM 3 [[121,101,115],[110,111]] hBs3 hr1 n hn0 hn1 (by decide);have hxd:w3.cell? ⟨w.heap.size+1,n.toNat,none⟩=some (.string X):=(by have h:=hxc;rw[show(w.alloc (vNew KT)).heap.size=w.heap.size+1 by simp] at h;exact h);clear hxc;have B2:=Lib.hid (((aA.refl rb (w.alloc (vNew KT))).alloc _).trans hBs3);obtain⟨hlt,c0,c1,c2,c3,f1,f2,f3⟩:=eO R0 B2.out;have R3:=Lib.hid hR3;clear hBs3 hR3)
 go_ret
 have hX:X.data.toList=[121,101,115]\/X.data.toList=[110,111]:=by simpa using hx1
 refine⟨.mk 102 X.data.toList 0 [],w.heap.size,rfl,?_,by rw[Wf.dL,aD];exact hx0,LV.leaf (X:=X) R0 B2.out ⟨HKH.out,rfl⟩ (by decide) rfl,R3.out.below ((Below.refl w.heap.size w3).setCell (Nat.le_refl _) _) R0,jY (((aA.refl rb w).alloc _).trans B2.out) (Nat.le_refl _) _⟩;rcases hX with h|h
 ·exact .inl (by rw[h])
 ·exact .inr (by rw[h])
theorem mJ:DrV x v rb lo bsc d .num 2 6 1:=fun w k0 H hk0 hsp hlo=>by
 have R0:=H.lt;obtain⟨KT,hKT⟩:∃ KT:ByteArray,(⟨(Wf.K.text .num).toArray⟩:ByteArray)=KT:=⟨_,rfl⟩;have hk1:0<KT.size:=by rw[<-hKT];decide
 have ek:∀ h,(KT[0]'h).toNat=110:=by rw[<-hKT];intro h;rfl
 have HKH:=hid (show KT.data.toList.head? = some 110 by rw[<-hKT];rfl);have HD:=hid fun(m:Nat) (hm:m<=999999) (wz:World)=>eL m m wz (Nat.le_refl _) (by omega);rw[tx,hKT];clear hKT;go_enter Tryz.func65,Tryz.ntmps65;go_wp2_with (first|(go_at_call 89;have _u:=hxd;refine(HD.out y (by omega) _).mono ?_;rintro e w5 ⟨rfl,hb5⟩;have B5:=Lib.hid (B4.out.trans (aA.aI hb5 (Nat.le_refl _)));have R5:=Lib.hid (R4.out.below hb5 R4.out.lt);obtain⟨hlt,c0,c1,c2,c3,f1,f2,f3⟩:=eO R0 B5.out;clear hb5)|(go_at_call 62;have _u:=hr3;refine(pick rb (k0+1) 8 _ (R3.out.alloc _) (by omega) (by omega)).mono ?_;rintro e w4 ⟨n,rfl,hn,_,hR4,hBs4⟩;obtain⟨hn0,hn1⟩:=hn (by omega);obtain⟨c,hc,hcc⟩:=oO [.int .i64 0,.int .i64 5,.int .i64 (p:Int),.int .i64 127,.int .i64 128,.int .i64 16383,.int .i64 16384,.int .i64 999999] hBs4 hr3 n hn0 (by simpa using hn1);obtain⟨y,hy,hxd⟩:=a3A (p:=p) (by omega) hc hcc;clear hc hcc;have hl4:w3.heap.size<w4.heap.size:=Nat.lt_of_lt_of_le (by simp) hBs4.size;have B4:=Lib.hid (B3.out.trans (((aA.refl rb w3).alloc _).trans hBs4));have R4:=Lib.hid hR4;clear hBs4 hR4)|(go_at_call 62;refine(pick rb k0 200 _ (H.alloc _) (by omega) (by omega)).mono ?_;rintro e w3 ⟨p',rfl,hp,_,hR3,hBs3⟩;obtain⟨hp0,hp1⟩:=hp (by omega);obtain⟨p,rfl⟩:=Int.eq_ofNat_of_zero_le hp0;have B3:=Lib.hid hBs3;have R3:=Lib.hid hR3;have hr3:rb<w3.heap.size:=hR3.lt;clear hBs3 hR3))
 go_ret
 refine⟨.mk 110 (Wf.dec y) 0 [],w.heap.size,rfl,⟨y,hy,rfl⟩,by rw[Wf.fQ];exact Wf.bW hy,LV.leaf (X:=⟨(Wf.dec y).toArray⟩) R0 B5.out ⟨HKH.out,rfl⟩ (by decide) rfl,R5.out.below ((Below.refl w.heap.size w5).setCell (Nat.le_refl _) _) R0,jY (((aA.refl rb w).alloc _).trans B5.out) (Nat.le_refl _) _⟩
end

theorem ScSp.beside {w w':World} {lo b rb:Nat} {v:Value} {x:Wf.Sc} (h:ScSp w lo b v x) (hb:aA rb w w') (hr:rb<lo):ScSp w' lo b v x:=by
 obtain⟨cs,h0,h1,h2,h3⟩:=h;refine⟨cs,h0,h1.keep hb.size fun hx=>hb.block b hx (by omega),h2,fun i hi hi'=>?_⟩;obtain⟨fb,a,c,e1,e0,e2⟩:=h3 i hi hi';exact⟨fb,a,c,e1,e0,e2.keep hb.size fun hx=>hb.block fb hx (by omega)⟩
theorem KB.new {w:World} {KT:ByteArray}:KB w (w.alloc (vNew KT)) w.heap.size (w.heap.size+1) none 0 0 [] []:=by
 refine⟨by omega,Nat.le_refl _,by simp,?_,?_,World.ownsRow_nil _ _ _ _,rfl,by simp only[LVs]⟩;all_goals (simp[vNew,go_sem];done)
theorem KB.cW {w wr w2:World} {vb base m c rb:Nat} {a:Option Addr} {l:List Wf.V} {bs:List Nat} (h:KB w wr vb base a m c l bs) (hb:aA rb wr w2) (hr:rb<w.heap.size):KB w w2 vb base a m c l bs:=by
 have hv:vb<wr.heap.size:=Nat.lt_of_lt_of_le h.lt h.sz;have h1:=h.le;have h2:=h.lt;have hne:vb≠rb:=by omega
 have hblk:=hb.block vb hv hne;exact⟨h.lt,h.le,Nat.le_trans h.sz hb.size,(World.cell?_of_block (w:=wr) (w':=w2) (a:=⟨vb,3,none⟩) hblk).trans h.v3,(World.frozen?_of_block (w:=wr) (w':=w2) (a:=⟨vb,3,none⟩) hblk).trans h.f3,iC h.own hb (by omega),h.hl,LVs.keep (fun y hy hlt=>⟨hy,hb.block y hlt (by have:=hy.1;omega)⟩) hb.size _ _ h.vals⟩
theorem LV.empty {w w3:World} {rb:Nat} {KT:ByteArray} {what:UInt8} (hr:rb<w.heap.size) (hb:aA rb (w.alloc (vNew KT)) w3) (hs:aZ what [] KT.data.toList []) (h61:what≠61) (ht:bG what 0 []=[]):LV w3 (fun z=>w.heap.size<=z) (.mk what [] 0 []) w.heap.size:=by
 obtain⟨hlt,c0,c1,c2,c3,_,_,_⟩:=eO hr hb;exact LV.mk (kd:=KT.data.toList) (t:=[]) (bs:=[]) (tb:=0) (kb:=0) h61 (Nat.le_refl _) hlt c0 c1 c2 c3 (by rw[ht];exact dU _ _) (.inl ht) (dU _ _) (.inl rfl) hs (by simp only[LVs])
section
variable (x:Wf.Sc) (v:Value) (rb lo bsc:Nat) (d:Int)
theorem sC (k:Wf.K) (hd:decide ((0:Int)<d)=false):DrV x v rb lo bsc d (.opt k) 0 1 1:=fun w k0 H hk0 hsp hlo=>by
 have R0:=H.lt;obtain⟨KT,hKT⟩:∃ KT:ByteArray,(⟨(Wf.K.opt k).text.toArray⟩:ByteArray)=KT:=⟨_,rfl⟩;obtain⟨hk1,ek⟩:=bE (kd:=(Wf.K.opt k).text) (c:=63) rfl;rw[hKT] at hk1 ek;have ek2:∀ h,(KT[0]'h).toNat=63:=ek;have HKH:=hid (show KT.data.toList.head? = some 63 by rw[<-hKT];rfl);rw[tx,hKT];clear hKT ek;go_enter Tryz.func65,Tryz.ntmps65;go_wp2_with fail
 go_ret
 exact⟨.mk 63 [] 0 [],w.heap.size,rfl,.inl rfl,by rw[Wf.fB];simp,LV.empty R0 (aA.refl rb _) ⟨HKH.out,rfl⟩ (by decide) rfl,H.alloc _,(aA.refl rb w).alloc _⟩
end

theorem KB.put2 {w wr:World} {vb base m c:Nat} {a:Option Addr} {l:List Wf.V} {bs:List Nat} (h:KB w wr vb base a m c l bs) {wx w4:World} (hs:KB w wx vb base a m c l bs) (hg:wx.grownBy w4 (Value.slice a m c).ownBlock) {g cap b:Nat} {u:Wf.V}
  (ho:w4.ownsRow base 57 1 (.slice (some ⟨g,0,none⟩) (m+1) cap) (m+1) (bs.map ptr++[ptr b])) (hat:(Value.slice a m c).ownBlock=some g\/g=wx.heap.size) (hv:LV wx (fun y=>wr.heap.size<=y) u b) :
  KB w (w4.setCell ⟨vb,3,none⟩ (.slice (some ⟨g,0,none⟩) (m+1) cap)) vb base (some ⟨g,0,none⟩) (m+1) cap (l++[u]) (bs++[b]):=by
 have hlo:=aT hs.own;have hlo0:=aT h.own;have hB:Below base wx w4:=aW hg (fun g hgk=>(hlo g hgk).1) hs.sz;have hss:(w4.setCell ⟨vb,3,none⟩ (.slice (some ⟨g,0,none⟩) (m+1) cap)).heap.size=w4.heap.size:=by simp
 have c3:=(hB.cell (p:=⟨vb,3,none⟩) h.lt).trans hs.v3;have hloc:(Value.slice (some ⟨g,0,none⟩) (m+1) cap).ownBlock=(Value.slice a m c).ownBlock\/(Value.slice (some ⟨g,0,none⟩) (m+1) cap).ownBlock=some wx.heap.size:=by
  rcases hat with hat|hat
  ·exact .inl hat.symm
  ·exact .inr (by rw[<-hat];rfl)
 have hl:=h.lt;have hkeep:∀ y,base<=y->y<wx.heap.size->some y≠(Value.slice a m c).ownBlock->some y≠(Value.slice (some ⟨g,0,none⟩) (m+1) cap).ownBlock/\(w4.setCell ⟨vb,3,none⟩ (.slice (some ⟨g,0,none⟩) (m+1) cap)).heap[y]? = wx.heap[y]?:=fun y hy1 hy2 hy3=>by
  obtain⟨e1,e2⟩:=gQ hg hloc hy2 hy3;refine⟨e2,?_⟩;rw[Below.heap_setCell w4 ⟨vb,3,none⟩ _ _ (by show y≠vb;omega)];exact e1
 refine⟨h.lt,h.le,by rw[hss];exact Nat.le_trans hs.sz hB.size,World.cell?_setCell_same w4 _ _ c3,?_,?_,by rw[List.length_append,h.hl];rfl,LVs.snoc ?_ ?_⟩
 ·have:=(hB.frozen (p:=⟨vb,3,none⟩) h.lt).trans hs.f3
  simpa using this
 ·rw[List.map_append]
  exact ownsRow_setCell_below ho h.lt _
 ·exact LV.keep (fun y hp hlt=>by
   have hb1:base<=y:=Nat.le_trans h.sz hp;have hb3:some y≠(Value.slice a m c).ownBlock:=fun he=>by
    have h5:=(hlo0 y he.symm).2;have h6:wr.heap.size<=y:=hp;omega
   obtain⟨e1,e2⟩:=hkeep y hb1 hlt hb3;exact⟨⟨hb1,e1⟩,e2⟩) (by rw[hss];exact hB.size) _ _ hv
 ·exact LVs.keep (fun y hp hlt=>by
   obtain⟨e1,e2⟩:=hkeep y hp.1 hlt hp.2;exact⟨⟨hp.1,e1⟩,e2⟩) (by rw[hss];exact hB.size) _ _ hs.vals
theorem KB.val {w wr:World} {vb base m c:Nat} {a:Option Addr} {l:List Wf.V} {bs:List Nat} {KT:ByteArray} {what:UInt8} (h:KB w wr vb base a m c l bs) (h61:what≠61) (h0:wr.cell? ⟨vb,0,none⟩=some (.string KT)) (h1:wr.cell? ⟨vb,1,none⟩=some (.string ⟨#[]⟩)) (h2:wr.cell? ⟨vb,2,none⟩=some (.slice none 0 0)) (hs:aZ what [] KT.data.toList []) (ht:bG what 0 l=[]):LV wr (fun y=>w.heap.size<=y) (.mk what [] 0 l) vb:=by
 have hbl:(bs.map ptr).length=m:=by rw[List.length_map,h.hl]
 obtain⟨b,hb,hrow⟩:=aH.bS (xs:=bs.map ptr) (by rw[hbl];exact h.own);have e1:=h.lt;have e3:=h.le;have e4:=h.sz;exact LV.mk (kd:=KT.data.toList) (t:=[]) (tb:=0) (kb:=b) (bs:=bs) h61 e3 (by omega) h0 h1 h2 h.v3 (by rw[ht];exact dU _ _) (.inl ht) hrow (.inr (by omega)) hs (LVs.keep (fun y hp hlt=>⟨by have:=hp.1;omega,rfl⟩) (Nat.le_refl _) _ _ h.vals)
theorem gK {rb B:Nat} {w w3 w4:World} (h:aA rb w w3) (hb:Below B w3 w4) (hB:w.heap.size<=B):aA rb w w4 :=
 ⟨hb.os.trans h.os,hb.tape.trans h.tape,hb.output.trans h.output,Nat.le_trans h.size hb.size,fun k hk hr=>(hb.block k (by omega)).trans (h.block k hk hr)⟩
theorem tU {ops:Array Oper} {o:Oper} {act:Act} {K:Act->World->Prop} {Q:Exit->Act->World->Prop} {E:Prop} {wx:World} {base m c:Nat} {a:Option Addr} {xs:List Value} {p:Nat} (s x:Operand) (hgd:o.guard=none) (ho:o.op=.call { callee:=.builtin .append,args:=#[s,x],argTypes:=#[101,101] })
  (hb:base<=wx.heap.size) (hown:wx.ownsRow base 57 1 (.slice a m c) m xs) (hm1:m<=1000) {zb:Nat} (hz:wx.heap[zb]? = some (.cells #[ptr p] 57)) (hs:act.eval s=.slice a m c) (hx2:act.eval x=.slice (some ⟨zb,0,none⟩) 1 1)
  (h:∀ g cap w4,w4.ownsRow base 57 1 (.slice (some ⟨g,0,none⟩) (m+1) cap) (m+1) (xs++[ptr p])->wx.grownBy w4 (Value.slice a m c).ownBlock->((Value.slice a m c).ownBlock=some g\/g=wx.heap.size)->Below base wx w4->K (act.put o.dst (.slice (some ⟨g,0,none⟩) (m+1) cap)) w4) :
  if Region.wanted o (yielded ops act.tmps)=true then Oper.wp Tryz.prog o act wx K Q else E:=by
 obtain⟨i0,hi0,hz0,hz1,hz2⟩:=info_parts iR;refine step_append_lies wx hgd s x 101 ho base 57 i0 (.pointer none) 1 8 Tryz.underlying101 hi0 hz0 hz1 hz2 rfl (by decide) (.slice a m c) m _ hs hown ⟨zb,0,none⟩ 1 1 [ptr p] hx2 rfl (World.news_of_block hz) (fT _) (by decide) (by unfold maxLen;omega) (by omega) hb _ rfl fun g cap w4 h1 h2 h3 h4=>?_;exact h g cap w4 h1 h2 h3 (aW h2 (fun g hg=>(aT hown g hg).1) hb)
theorem oW {rb k:Nat} {w w3 w4:World} {KT:ByteArray} {ob:Obj} (R0:rb<w.heap.size) (hb3:aA rb w w3) (hlt:w.heap.size<w3.heap.size) (d0:w3.cell? ⟨w.heap.size,0,none⟩=some (.string KT)) (d1:w3.cell? ⟨w.heap.size,1,none⟩=some (.string ⟨#[]⟩)) (d2:w3.cell? ⟨w.heap.size,2,none⟩=some (.slice none 0 0)) (hr3:Rd w3 rb k) (b4:Below (w.heap.size+1) (w3.alloc ob) w4) (S:Value) :
  (w4.setCell ⟨w.heap.size,3,none⟩ S).cell? ⟨w.heap.size,0,none⟩=some (.string KT)/\(w4.setCell ⟨w.heap.size,3,none⟩ S).cell? ⟨w.heap.size,1,none⟩=some (.string ⟨#[]⟩)/\(w4.setCell ⟨w.heap.size,3,none⟩ S).cell? ⟨w.heap.size,2,none⟩=some (.slice none 0 0)/\Rd (w4.setCell ⟨w.heap.size,3,none⟩ S) rb k/\aA rb w (w4.setCell ⟨w.heap.size,3,none⟩ S):=by
 have cc:∀ j u,j≠3->w3.cell? ⟨w.heap.size,j,none⟩=some u->(w4.setCell ⟨w.heap.size,3,none⟩ S).cell? ⟨w.heap.size,j,none⟩=some u:=fun j u hj h =>
  (World.cell?_setCell_other w4 _ _ _ (by simp <;> omega)).trans ((b4.cell (p:=⟨w.heap.size,j,none⟩) (Nat.lt_succ_self _)).trans ((World.cell?_alloc_lt w3 _ ⟨w.heap.size,j,none⟩ hlt).trans h))
 have hB1:Below (w.heap.size+1) w3 w4:=((Below.refl _ w3).alloc (by omega) ob).trans b4;have hB:Below w.heap.size w3 (w4.setCell ⟨w.heap.size,3,none⟩ S):=(hB1.mono (Nat.le_succ _)).setCell (Nat.le_refl _) _;exact⟨cc 0 _ (by decide) d0,cc 1 _ (by decide) d1,cc 2 _ (by decide) d2,hr3.below hB R0,gK hb3 hB (Nat.le_refl _)⟩
section
variable (x:Wf.Sc) (v:Value) (rb lo bsc:Nat) (d:Int)
theorem a2R (k:Wf.K) (hd0:0<d) (hd1:d<=1000) (hkl:(Wf.K.opt k).text.length<=1000) (C B N:Nat) (IH:DrV x v rb lo bsc (d-1) k C B N):DrV x v rb lo bsc d (.opt k) (C+1) (B+1) (N+1):=fun w k0 H hk0 hsp hlo=>by
 have R0:=H.lt;obtain⟨KT,hKT⟩:∃ KT:ByteArray,(⟨(Wf.K.opt k).text.toArray⟩:ByteArray)=KT:=⟨_,rfl⟩;obtain⟨K1,hK1⟩:∃ K1:ByteArray,(⟨k.text.toArray⟩:ByteArray)=K1:=⟨_,rfl⟩;obtain⟨hk1,ek⟩:=bE (kd:=(Wf.K.opt k).text) (c:=63) rfl;rw[hKT] at hk1 ek;have ek2:∀ h,(KT[0]'h).toNat=63:=ek;have HKH:=hid (show KT.data.toList.head? = some 63 by rw[<-hKT];rfl);have hsl:∀ wz,(Instr.slice 9 (.string KT) (some (.int .i64 1)) none none).run Tryz.prog wz=.ok (.string K1) wz:=fun wz=>by
  have h:=bK KT 1 (by omega) wz;have e:KT.extract 1 KT.size=K1:=by
   rw[<-hKT,<-hK1];apply ByteArray.ext;apply Array.ext';rw[cN];rfl
  rw[e] at h;exact h
 have kd:IntKind.i64.wrap (d-1)=d-1:=IntWalk.i64_in _ (by omega);have hdd:decide ((0:Int)<d)=true:=decide_eq_true hd0;have HSP:=hid hsp;have HIH:=hid fun(wz:World) (kz:Nat) (hr:Rd wz rb kz) (hc:kz+C<=900000) (hs:ScSp wz lo bsc v x)=>(by
  have h:=IH wz kz hr hc hs hlo;rw[tx,hK1] at h;exact h)
 rw[tx,hKT];clear hKT ek hK1 IH hsp;go_enter Tryz.func65,Tryz.ntmps65;go_wp2_with (go_at_call 62;refine(pick rb k0 3 _ (H.alloc _) (by omega) (by omega)).mono ?_;rintro e w2 ⟨n,rfl,hn,_,hR2,hBs2⟩;obtain⟨hn0,hn1⟩:=hn (by omega);have B2:=Lib.hid hBs2;have R2:=Lib.hid hR2;clear hBs2 hR2 hn;rcases(Bool.eq_false_or_eq_true (decide ((0:Int)<n))) with hq|hq)
 ·have BW2:=hid (((aA.refl rb w).alloc _).trans B2.out)
  obtain⟨hlt2,c0,c1,c2,c3,f1,f2,f3⟩:=eO R0 B2.out;have K2:=hid (KB.new.cW (B2.out.trans (aA.drew (aA.refl rb w2))) R0);have hR2:=R2.out.lt;go_region_law (first|(refine tU (base:=w.heap.size+1) (.tmp 91) (.tmp 99) rfl rfl (by simp;omega) (World.ownsRow_nil _ _ _ _) (Nat.zero_le _) (heap_alloc_last w3 _) (by simp[Act.eval,Act.put]) (by simp[Act.eval,Act.put]) ?_;intro g cap w4 hown4 hgrow4 hat4 b4;have B4:=hid b4;have y3:=(b4.cell (p:=⟨w.heap.size,3,none⟩) (Nat.lt_succ_self _)).trans ((World.cell?_alloc_lt w3 _ ⟨w.heap.size,3,none⟩ hlt3).trans d3);have yf:=(b4.frozen (p:=⟨w.heap.size,3,none⟩) (Nat.lt_succ_self _)).trans ((((Below.refl w3.heap.size w3).alloc (Nat.le_refl _) _).frozen (p:=⟨w.heap.size,3,none⟩) hlt3).trans e3);have KX:=hid (KB.put2 K2.out ((K2.out.cW HB3.out R0).step ((Below.refl w3.heap.size w3).alloc (Nat.le_refl _) _)) hgrow4 hown4 hat4 (HLV.out.below ((Below.refl w3.heap.size w3).alloc (Nat.le_refl _) _)));have hl4:=b4.size;clear hown4 hgrow4 hat4 b4)|((try go_simp);go_at_call 65;refine(HIH.out w2.drew (k0+1) (R2.out.below (Below.drew (Below.refl _ _)) hR2) (by omega) (HSP.out.beside (BW2.out.trans (aA.drew (aA.refl rb w2))) hlo)).mono ?_;rintro e w3 ⟨u,p,rfl,ht,hpl,hlv,hr3,hb3⟩;obtain⟨hlt3,d0,d1,d2,d3,e1,e2,e3⟩:=eO R0 ((B2.out.trans (aA.drew (aA.refl rb w2))).trans hb3);have HT:=hid ht;have HPL:=hid hpl;have HLV:=hid hlv;have R3:=hid hr3;have HB3:=hid hb3;clear ht hpl hlv hr3 hb3))
  all_goals (go_wp2_with fail)
  all_goals
   obtain⟨q0,q1,q2,r5,b5⟩:=oW R0 (BW2.out.trans ((aA.drew (aA.refl rb w2)).trans HB3.out)) hlt3 d0 d1 d2 R3.out B4.out (.slice (some ⟨g,0,none⟩) 1 cap);go_ret
   exact⟨.mk 63 [] 0 [u],w.heap.size,rfl,.inr ⟨u,HT.out,rfl⟩,by rw[Wf.dV];have:=HPL.out;simp;omega,KX.out.val (by decide) q0 q1 q2 ⟨HKH.out,rfl⟩ rfl,r5.mono (by omega),b5⟩
 ·go_ret
  exact⟨.mk 63 [] 0 [],w.heap.size,rfl,.inl rfl,by rw[Wf.fB];simp,LV.empty R0 B2.out ⟨HKH.out,rfl⟩ (by decide) rfl,R2.out.mono (by omega),((aA.refl rb w).alloc _).trans B2.out⟩
end

theorem a4U {l:List Wf.V} {B m:Nat} (h:∀ u∈l,u.print.length<=B) (hm:l.length<=m):(Wf.V.mk 91 [] 0 l).print.length<=2+m*(B+1):=by
 rw[Wf.dG];have h1:=(Wf.qO (l.map Wf.V.print)).1;have h2:∀ (l:List Wf.V),(∀ u∈l,u.print.length<=B)->Wf.psum (l.map Wf.V.print)<=l.length*(B+1):=by
  intro l;induction l with
  | nil=>intro _;simp[Wf.psum]
  | cons v l ih =>
   intro h;have e:Wf.psum ((v::l).map Wf.V.print)=v.print.length+1+Wf.psum (l.map Wf.V.print):=(by unfold Wf.psum;simp);have:=ih fun u hu=>h u (List.mem_cons_of_mem _ hu);have:=h v (List.mem_cons_self ..);rw[e,List.length_cons,Nat.succ_mul];omega
 have h3:=h2 l h;have h4:l.length*(B+1)<=m*(B+1):=Nat.mul_le_mul_right _ hm;simp only[List.length_cons,List.length_append,List.length_nil];omega
section
variable (x:Wf.Sc) (v:Value) (rb lo bsc:Nat) (d:Int)
theorem oY (k:Wf.K) (hd0:¬ 0<d):DrV x v rb lo bsc d (.list k) 1 2 1:=fun w k0 H hk0 hsp hlo=>by
 have R0:=H.lt;obtain⟨KT,hKT⟩:∃ KT:ByteArray,(⟨(Wf.K.list k).text.toArray⟩:ByteArray)=KT:=⟨_,rfl⟩;obtain⟨hk1,ek⟩:=bE (kd:=(Wf.K.list k).text) (c:=91) rfl;rw[hKT] at hk1 ek;have ek2:∀ h,(KT[0]'h).toNat=91:=ek;have HKH:=hid (show KT.data.toList.head? = some 91 by rw[<-hKT];rfl);have hdd:decide ((0:Int)<d)=false:=decide_eq_false hd0;rw[tx,hKT];clear hKT ek hsp;go_enter Tryz.func65,Tryz.ntmps65;go_wp2_with (go_at_call 62;refine(pick rb k0 4 _ (H.alloc _) (by omega) (by omega)).mono ?_;rintro e w2 ⟨n,rfl,hn,_,hR2,hBs2⟩;obtain⟨hn0,hn1⟩:=hn (by omega);have B2:=Lib.hid hBs2;have R2:=Lib.hid hR2;clear hBs2 hR2 hn)
 go_loopw [10] (fun s10 wr=>s10=.int .i64 n/\wr=w2) (fun _ _=>0)
 case atStart=>exact⟨rfl,rfl⟩
 case round =>
  obtain⟨rfl,rfl⟩:=hrel;rcases(Bool.eq_false_or_eq_true (decide ((0:Int)<n))) with hq|hq;all_goals
   go_wp2_with fail
   go_ret
   exact⟨.mk 91 [] 0 [],w.heap.size,rfl,⟨[],by simp,by simp,rfl⟩,by rw[Wf.dG];simp[Wf.commas],LV.empty R0 B2.out ⟨HKH.out,rfl⟩ (by decide) rfl,R2.out,((aA.refl rb w).alloc _).trans B2.out⟩
theorem yH (k:Wf.K) (hd0:0<d) (hd1:d<=1000) (C B N:Nat) (hC:3*C<=900000) (IH:DrV x v rb lo bsc (d-1) k C B N):DrV x v rb lo bsc d (.list k) (1+3*C) (2+3*(B+1)) (N+1):=fun w k0 H hk0 hsp hlo=>by
 have R0:=H.lt;obtain⟨KT,hKT⟩:∃ KT:ByteArray,(⟨(Wf.K.list k).text.toArray⟩:ByteArray)=KT:=⟨_,rfl⟩;obtain⟨K1,hK1⟩:∃ K1:ByteArray,(⟨k.text.toArray⟩:ByteArray)=K1:=⟨_,rfl⟩;obtain⟨hk1,ek⟩:=bE (kd:=(Wf.K.list k).text) (c:=91) rfl;rw[hKT] at hk1 ek;have ek2:∀ h,(KT[0]'h).toNat=91:=ek;have HKH:=hid (show KT.data.toList.head? = some 91 by rw[<-hKT];rfl);have hsl:∀ wz,(Instr.slice 9 (.string KT) (some (.int .i64 1)) none none).run Tryz.prog wz=.ok (.string K1) wz:=fun wz=>by
  have h:=bK KT 1 (by omega) wz;have e:KT.extract 1 KT.size=K1:=by
   rw[<-hKT,<-hK1];apply ByteArray.ext;apply Array.ext';rw[cN];rfl
  rw[e] at h;exact h
 have kd:IntKind.i64.wrap (d-1)=d-1:=IntWalk.i64_in _ (by omega);have hdd:decide ((0:Int)<d)=true:=decide_eq_true hd0;have HSP:=hid hsp;have HIH:=hid fun(wz:World) (kz:Nat) (hr:Rd wz rb kz) (hc:kz+C<=900000) (hs:ScSp wz lo bsc v x)=>(by
  have h:=IH wz kz hr hc hs hlo;rw[tx,hK1] at h;exact h)
 rw[tx,hKT];clear hKT ek hK1 IH hsp;go_enter Tryz.func65,Tryz.ntmps65;go_wp2_with (go_at_call 62;refine(pick rb k0 4 _ (H.alloc _) (by omega) (by omega)).mono ?_;rintro e w2 ⟨n,rfl,hn,_,hR2,hBs2⟩;obtain⟨hn0,hn1⟩:=hn (by omega);have B2:=Lib.hid hBs2;have R2:=Lib.hid hR2;clear hBs2 hR2 hn)
 obtain⟨n0,rfl⟩:=Int.eq_ofNat_of_zero_le hn0;go_loopw [10] (fun s10 wr=>∃ (i m:Nat) (a:Option Addr) (c:Nat) (l:List Wf.V) (bs:List Nat),s10=.int .i64 i/\i+m<=3/\Hid (KB w wr w.heap.size (w.heap.size+1) a m c l bs/\aA rb w wr/\Rd wr rb (k0+1+m*C)/\l.length=m/\(∀ u∈l,Wf.Typed x N k u/\u.print.length<=B)/\wr.cell? ⟨w.heap.size,0,none⟩=some (.string KT)/\wr.cell? ⟨w.heap.size,1,none⟩=some (.string ⟨#[]⟩)/\wr.cell? ⟨w.heap.size,2,none⟩=some (.slice none 0 0))) (fun s10 _=>(RowKit.intOf s10).toNat)
 case atStart =>
  obtain⟨hlt2,c0,c1,c2,c3,f1,f2,f3⟩:=eO R0 B2.out;exact⟨n0,0,none,0,[],[],rfl,by omega,hid ⟨KB.new.cW B2.out R0,((aA.refl rb w).alloc _).trans B2.out,by rw[Nat.zero_mul];exact R2.out,rfl,by simp,c0,c1,c2⟩⟩
 case round =>
  obtain⟨i,m,a,c,l,bs,rfl,him,hh⟩:=hrel;by_cases hi:0<i
  ·have hq:decide ((0:Int)<(i:Int))=true:=decide_eq_true (by omega)
   have hm3:m<=2:=(by omega);have v3:=hh.out.1.v3;have vf:=hh.out.1.f3;have hvb:w.heap.size<wr.heap.size:=(by have:=hh.out.1.sz;omega);have hmc:m*C<=2*C:=Nat.mul_le_mul_right _ hm3;have K2:=hid (hh.out.1.cW (aA.drew (aA.refl rb wr)) R0);have BW:=hid hh.out.2.1;have RL:=hh.out.2.2.1.lt;have hnr:w.heap.size≠rb:=(by omega);go_wp2_with fail
   go_region_law (first|(refine tU (base:=w.heap.size+1) (.tmp 65) (.tmp 73) rfl rfl (by simp;omega) (((K2.out.cW HB3.out R0).step ((Below.refl w3.heap.size w3).alloc (Nat.le_refl _) _)).own) (by omega) (heap_alloc_last w3 _) (by simp[Act.eval,Act.put]) (by simp[Act.eval,Act.put]) ?_;intro g cap w4 hown4 hgrow4 hat4 b4;have B4:=hid b4;have y3:=(b4.cell (p:=⟨w.heap.size,3,none⟩) (Nat.lt_succ_self _)).trans ((World.cell?_alloc_lt w3 _ ⟨w.heap.size,3,none⟩ hlt3).trans d3);have yf:=(b4.frozen (p:=⟨w.heap.size,3,none⟩) (Nat.lt_succ_self _)).trans ((((Below.refl w3.heap.size w3).alloc (Nat.le_refl _) _).frozen (p:=⟨w.heap.size,3,none⟩) hlt3).trans e3);have KX:=hid (KB.put2 K2.out ((K2.out.cW HB3.out R0).step ((Below.refl w3.heap.size w3).alloc (Nat.le_refl _) _)) hgrow4 hown4 hat4 (HLV.out.below ((Below.refl w3.heap.size w3).alloc (Nat.le_refl _) _)));have hl4:=b4.size;clear hown4 hgrow4 hat4 b4)|((try go_simp);go_at_call 65;refine(HIH.out wr.drew (k0+1+m*C) (hh.out.2.2.1.below (Below.drew (Below.refl _ _)) RL) (by omega) (HSP.out.beside (BW.out.trans (aA.drew (aA.refl rb wr))) hlo)).mono ?_;rintro e w3 ⟨u,p,rfl,ht,hpl,hlv,hr3,hb3⟩;have HB3:=hid hb3;have hlt3:w.heap.size<w3.heap.size:=Nat.lt_of_lt_of_le hvb hb3.size;have d0:=(hb3.cell (p:=⟨w.heap.size,0,none⟩) hvb hnr).trans hh.out.2.2.2.2.2.1;have d1:=(hb3.cell (p:=⟨w.heap.size,1,none⟩) hvb hnr).trans hh.out.2.2.2.2.2.2.1;have d2:=(hb3.cell (p:=⟨w.heap.size,2,none⟩) hvb hnr).trans hh.out.2.2.2.2.2.2.2;have d3:w3.cell? ⟨w.heap.size,3,none⟩=some (.slice a m c):=(K2.out.cW hb3 R0).v3;have e3:=(K2.out.cW hb3 R0).f3;have HT:=hid ht;have HPL:=hid hpl;have HLV:=hid hlv;have R3:=hid hr3;clear ht hpl hlv hr3 hb3))
   all_goals (go_wp2_with fail)
   all_goals
    obtain⟨q0,q1,q2,r5,b5⟩:=oW R0 (BW.out.trans ((aA.drew (aA.refl rb wr)).trans HB3.out)) hlt3 d0 d1 d2 R3.out B4.out (.slice (some ⟨g,0,none⟩) (m+1) cap);have HQ:=hid (show Rd (w4.setCell ⟨w.heap.size,3,none⟩ (.slice (some ⟨g,0,none⟩) (m+1) cap)) rb (k0+1+(m+1)*C) by rw[show k0+1+(m+1)*C=k0+1+m*C+C by rw[Nat.succ_mul];omega];exact r5);have HB5:=hid b5;clear r5 b5;go_roundw
    case rel=>exact⟨i-1,m+1,some ⟨g,0,none⟩,cap,l++[u],bs++[p],by congr 1;omega,by omega,hid ⟨KX.out,HB5.out,HQ.out,by rw[List.length_append,hh.out.2.2.2.1];rfl,fun y hy=>by
     rcases List.mem_append.1 hy with hy|hy
     ·exact hh.out.2.2.2.2.1 y hy
     ·rw[List.mem_singleton.1 hy];exact⟨HT.out,HPL.out⟩,q0,q1,q2⟩⟩
    case measure=>simp[RowKit.intOf];omega
  ·have hq:decide ((0:Int)<(i:Int))=false:=decide_eq_false (by omega)
   have hmc:m*C<=3*C:=Nat.mul_le_mul_right _ (by omega);have HLL:=hid (show l.length<=3 by rw[hh.out.2.2.2.1];omega);go_wp2_with fail
   go_ret
   exact⟨.mk 91 [] 0 l,w.heap.size,rfl,⟨l,by have:=HLL.out;omega,fun u hu=>(hh.out.2.2.2.2.1 u hu).1,rfl⟩,a4U (fun u hu=>(hh.out.2.2.2.2.1 u hu).2) HLL.out,hh.out.1.val (by decide) hh.out.2.2.2.2.2.1 hh.out.2.2.2.2.2.2.1 hh.out.2.2.2.2.2.2.2 ⟨HKH.out,rfl⟩ rfl,hh.out.2.2.1.mono (by omega),hh.out.2.1⟩
end

def DtV (x:Wf.Sc) (v:Value) (rb lo bsc:Nat) (d:Int) (nm:List UInt8) (C B N:Nat):Prop:=∀ (w:World) (k0:Nat),Rd w rb k0->k0+C<=900000->ScSp w lo bsc v x->rb<lo->Calls Tryz.prog 104 #[.pointer (some ⟨rb,0,none⟩),v,tx (Wf.K.ref nm).text,.int .i64 d] w fun e w'=>∃ (u:Wf.V) (p:Nat),e=.returned (ptr p)/\Wf.Typed x N (.ref nm) u/\u.print.length<=B/\LV w' (fun z=>w.heap.size<=z) u p/\Rd w' rb (k0+C)/\aA rb w w'
def eH (rb:Nat) (w:World) (fb o:Nat) (t:Wf.Ty):Prop:=fb<w.heap.size/\fb≠rb/\∀ i (hi:i<t.fields.length) j u,(fdS t.sort t.fields[i])[j]? = some u->w.cell? ⟨fb,o+i*4+j,none⟩=some u
theorem eH.beside {rb:Nat} {w w':World} {fb o:Nat} {t:Wf.Ty} (h:eH rb w fb o t) (hb:aA rb w w'):eH rb w' fb o t :=
 ⟨Nat.lt_of_lt_of_le h.1 hb.size,h.2.1,fun i hi j u hu=>(hb.cell (p:=⟨fb,o+i*4+j,none⟩) h.1 h.2.1).trans (h.2.2 i hi j u hu)⟩
theorem eH.field {rb:Nat} {w:World} {fb o:Nat} {t:Wf.Ty} (h:eH rb w fb o t) {i:Nat} (hi:i<t.fields.length) (h69:t.sort≠69):fb<w.heap.size/\w.cell? ⟨fb,o+i*4,none⟩=some (.int .i64 (t.fields[i]).tag)/\w.cell? ⟨fb,o+i*4+1,none⟩=some (tx (t.fields[i]).name)/\w.cell? ⟨fb,o+i*4+2,none⟩=some (tx (t.fields[i]).kind.text)/\w.cell? ⟨fb,o+i*4+3,none⟩=some (tx (t.fields[i]).given):=by
 have h3:=h.2.2 i hi;unfold fdS at h3;rw[if_neg h69] at h3;exact⟨h.1,h3 0 _ rfl,h3 1 _ rfl,h3 2 _ rfl,h3 3 _ rfl⟩
structure TyB (w wr:World) (tb vb:Nat) (KT T1:ByteArray) (q:Nat) (fv:Value):Prop where
 tle:w.heap.size<=tb
 vle:w.heap.size<=vb
 tlt:tb<wr.heap.size
 vlt:vb<wr.heap.size
 ne:tb≠vb
 t0:wr.cell? ⟨tb,0,none⟩=some (.int .u8 q)
 t2:wr.cell? ⟨tb,2,none⟩=some fv
 v0:wr.cell? ⟨vb,0,none⟩=some (.string KT)
 v1:wr.cell? ⟨vb,1,none⟩=some (.string T1)
 v2:wr.cell? ⟨vb,2,none⟩=some (.slice none 0 0)
 v3:wr.cell? ⟨vb,3,none⟩=some (.slice none 0 0)
 f2:wr.frozen? ⟨vb,2,none⟩=false
 f3:wr.frozen? ⟨vb,3,none⟩=false
theorem TyB.beside {w wr w2:World} {rb tb vb q:Nat} {KT T1:ByteArray} {fv:Value} (h:TyB w wr tb vb KT T1 q fv) (hr:rb<w.heap.size) (hb:aA rb wr w2):TyB w w2 tb vb KT T1 q fv:=by
 have n1:tb≠rb:=by have:=h.tle;omega
 have n2:vb≠rb:=by have:=h.vle;omega
 exact⟨h.tle,h.vle,Nat.lt_of_lt_of_le h.tlt hb.size,Nat.lt_of_lt_of_le h.vlt hb.size,h.ne,(hb.cell (p:=⟨tb,0,none⟩) h.tlt n1).trans h.t0,(hb.cell (p:=⟨tb,2,none⟩) h.tlt n1).trans h.t2,(hb.cell (p:=⟨vb,0,none⟩) h.vlt n2).trans h.v0,(hb.cell (p:=⟨vb,1,none⟩) h.vlt n2).trans h.v1,(hb.cell (p:=⟨vb,2,none⟩) h.vlt n2).trans h.v2,(hb.cell (p:=⟨vb,3,none⟩) h.vlt n2).trans h.v3,(hb.frozen (p:=⟨vb,2,none⟩) h.vlt n2).trans h.f2,(hb.frozen (p:=⟨vb,3,none⟩) h.vlt n2).trans h.f3⟩
theorem mS {w w2:World} (hb:Below w.heap.size w w2) (KT N T1:ByteArray) (q:Nat) (fv:Value) (W3:World) (hW3:((w2.alloc (.cells #[.int .u8 q,.string N,fv] 143)).alloc (.cells #[.int .u8 q] 5)).alloc (.cells #[.string KT,.string T1,.slice none 0 0,.slice none 0 0] 103)=W3) :
  TyB w W3 w2.heap.size (w2.heap.size+1+1) KT T1 q fv/\Below w.heap.size w W3:=by
 have h0:=hb.size;subst hW3;refine⟨⟨h0,by omega,?_,?_,by omega,?_,?_,?_,?_,?_,?_,?_,?_⟩,((hb.alloc h0 _).alloc (by simp;omega) _).alloc (by simp;omega) _⟩;all_goals first|(simp[go_sem];done)|(simp[go_sem];omega)
theorem gS {t:Wf.Ty} (ht:Wf.TyOk t) {f:Wf.Fd} (hf:f∈t.fields):t.field f.tag=some f:=by
 have hp:=ht.tags;unfold Wf.Ty.field;generalize t.fields=l at hf hp;induction l with
 | nil=>cases hf
 | cons g l ih =>
  simp only[List.map_cons] at hp;obtain⟨h1,h2⟩:=List.pairwise_cons.1 hp;rcases List.mem_cons.1 hf with rfl|hf
  ·rw[List.find?_cons_of_pos (by simp)]
  ·have:=h1 _ (List.mem_map_of_mem hf)
   rw[List.find?_cons_of_neg (by simp;omega)];exact ih hf h2
theorem TyB.enm {w w4:World} {rb tb vb k G:Nat} {KT:ByteArray} {fv:Value} (h:TyB w w4 tb vb KT ⟨#[69]⟩ 69 fv) (hr:rb<w.heap.size) (hk:KT.data.toList.head? = some 64) (hb:aA rb w w4) (hrd:Rd w4 rb k) :
  LV ((w4.setCell ⟨vb,2,none⟩ (.slice (some ⟨w4.heap.size,0,none⟩) 1 1)).alloc (.cells #[.int .i64 G] 3)) (fun z=>w.heap.size<=z) (.mk 69 [] G []) vb/\Rd ((w4.setCell ⟨vb,2,none⟩ (.slice (some ⟨w4.heap.size,0,none⟩) 1 1)).alloc (.cells #[.int .i64 G] 3)) rb k/\aA rb w ((w4.setCell ⟨vb,2,none⟩ (.slice (some ⟨w4.heap.size,0,none⟩) 1 1)).alloc (.cells #[.int .i64 G] 3)):=by
 have hl:=h.vlt;have hv:=h.vle;obtain⟨W5,hW5⟩:∃ W5,w4.setCell ⟨vb,2,none⟩ (.slice (some ⟨w4.heap.size,0,none⟩) 1 1)=W5:=⟨_,rfl⟩;have hs:W5.heap.size=w4.heap.size:=by rw[<-hW5];simp
 have cc:=fun(j:Nat) u (hj:j≠2) (c:w4.cell? ⟨vb,j,none⟩=some u)=>(show W5.cell? ⟨vb,j,none⟩=some u by rw[<-hW5];exact(World.cell?_setCell_other w4 ⟨vb,2,none⟩ ⟨vb,j,none⟩ (.slice (some ⟨w4.heap.size,0,none⟩) 1 1) (by simp <;> omega)).trans c);have c2:W5.cell? ⟨vb,2,none⟩=some (.slice (some ⟨W5.heap.size,0,none⟩) 1 1):=by rw[hs,<-hW5];exact World.cell?_setCell_same _ _ _ h.v2
 have hB:Below w.heap.size w4 W5:=by rw[<-hW5];exact(Below.refl _ w4).setCell hv _
 rw[hW5];have hB6:=hB.alloc (by rw[hs];exact hb.size) (.cells #[.int .i64 (G:Int)] 3);have aa:=fun(j:Nat) u (c:W5.cell? ⟨vb,j,none⟩=some u)=>(World.cell?_alloc_lt W5 (.cells #[.int .i64 (G:Int)] 3) ⟨vb,j,none⟩ (by rw[hs];exact hl)).trans c;exact⟨LV.enm hv (by rw[hs];exact hb.size) (by simp;omega) (by simp) hk (aa 0 _ (cc 0 _ (by decide) h.v0)) (aa 1 _ (cc 1 _ (by decide) h.v1)) (aa 2 _ c2) (aa 3 _ (cc 3 _ (by decide) h.v3)) (by simp[go_sem]) (by simp[go_sem]),hrd.below hB6 hr,gK hb hB6 (Nat.le_refl _)⟩
section
variable (x:Wf.Sc) (v:Value) (rb lo bsc:Nat)
theorem lE (hx:Wf.ScOk x) (nm:List UInt8) (hnm:(Wf.K.ref nm).text.length<=1000000) (t:Wf.Ty) (hf:x.find nm=some t) (h1:1<=t.fields.length) (w:World) (hsp:ScSp w lo bsc v x) (hlo:rb<lo) :
  Calls Tryz.prog 122 #[v,tx (Wf.K.ref nm).text] w fun e w'=>(∃ fb o fc,e=.returned (.tuple #[.agg #[.int .u8 t.sort.toNat,tx t.name,.slice (some ⟨fb,o,none⟩) t.fields.length fc],.bool true])/\t.fields.length<=fc/\fc<=maxLen/\eH rb w fb o t)/\Below w.heap.size w w':=by
 refine(fX x lo bsc v (.ref nm) hnm w w (Below.refl _ _) (by have:=hx.len;omega) hsp).mono fun e w' ⟨g1,g2⟩=>⟨?_,g2⟩;rw[show refT x (.ref nm)=some t from hf] at g1;obtain⟨fb,a,c,g3,g4,g5⟩:=g1;obtain⟨a',c',e1,e2,e3,e4⟩:=g5;simp only[Value.slice.injEq] at e1;obtain⟨rfl,e1,rfl⟩:=e1;rw[List.length_map] at e1 e2;rcases e4 with e4|⟨o,k1,k2,k3⟩
 ·have:=congrArg List.length e4;rw[List.length_map,List.length_nil] at this;omega
 ·subst k1
  refine⟨fb,o,c,g3,by omega,e3,k2,by omega,fun i hi j u hu=>?_⟩;have hj:j<4:=by have:=(List.getElem?_eq_some_iff.1 hu).1;unfold fdS at this;simpa using this
  exact k3 i (by rw[List.length_map];exact hi) j u hj (by rw[List.getElem_map];exact hu)
end
section
variable (x:Wf.Sc) (v:Value) (rb lo bsc:Nat) (d:Int)
theorem oP (hx:Wf.ScOk x) (nm:List UInt8) (hnm:(Wf.K.ref nm).text.length<=1000000) (t:Wf.Ty) (hf:x.find nm=some t) (h69:t.sort=69):DtV x v rb lo bsc d nm 1 4 1:=fun w k0 H hk0 hsp hlo=>by
 have R0:=H.lt;have hto:=hx.tys t (Wf.bI hf).1;have hn1:1<=t.fields.length:=List.length_pos_iff.2 (hto.some (by rw[h69];decide));have hr:=lE x v rb lo bsc hx nm hnm t hf hn1 w hsp hlo;obtain⟨n,hn⟩:∃ n,t.fields.length=n:=⟨_,rfl⟩;have hn8:n<=8:=by have:=hto.len;omega
 obtain⟨KT,hKT⟩:∃ KT:ByteArray,(⟨(Wf.K.ref nm).text.toArray⟩:ByteArray)=KT:=⟨_,rfl⟩;obtain⟨N,hN⟩:∃ N:ByteArray,(⟨t.name.toArray⟩:ByteArray)=N:=⟨_,rfl⟩;have HKH:=hid (show KT.data.toList.head? = some 64 by rw[<-hKT];rfl);rw[hn,h69,tx,tx,hKT,hN] at hr;have HREF:=hid hr;rw[hn] at hn1;have kc1:=fun W (a:Addr) (c:Nat) (h:W.cell? a=some (.int .u8 69))=>(show(convert 22 9 (.slice (some a) 1 c)).run Tryz.prog W=.ok (.string ⟨#[69]⟩) W from run_convert_one (P:=Tryz.prog) 22 9 5 Tryz.underlying22 Tryz.underlying5 Tryz.underlying9 W a c 69 h);have HFL:=hid fun(wz:World) (fb o i:Nat) (hfd:eH rb wz fb o t) (hi:i<n)=>(show ∃ f:Wf.Fd,f∈t.fields/\fb<wz.heap.size/\wz.cell? ⟨fb,o+i*4,none⟩=some (.int .i64 f.tag) from⟨t.fields[i]'(by omega),List.getElem_mem _,hfd.1,by have h3:=hfd.2.2 i (by omega) 0;unfold fdS at h3;exact h3 _ rfl⟩);have HF:=hid hf;have H69:=hid h69;have HTO:=hid hto;rw[tx,hKT];clear hKT hN hsp hf hn h69 hto hx hr;go_enter Tryz.func104,Tryz.ntmps104;go_wp2_with (go_at_call 122;refine HREF.out.mono ?_;rintro e w2 ⟨⟨fb,o,fc,rfl,hnc,hcm,hfd⟩,hb2⟩;have HFD:=hid hfd;have HB2:=hid hb2;have hl2:=hb2.size;clear hfd hb2)
 obtain⟨W3,hW3⟩:∃ W3,((w2.alloc (.cells #[.int .u8 69,.string N,.slice (some ⟨fb,o,none⟩) n fc] 143)).alloc (.cells #[.int .u8 69] 5)).alloc (.cells #[.string KT,.string ⟨#[69]⟩,.slice none 0 0,.slice none 0 0] 103)=W3:=⟨_,rfl⟩;rw[hW3];obtain⟨tb0,hbl3⟩:=mS HB2.out KT N ⟨#[69]⟩ 69 (.slice (some ⟨fb,o,none⟩) n fc) W3 hW3;clear hW3;have TB:=hid tb0;have B3:=hid (aA.aI (rb:=rb) hbl3 (Nat.le_refl _));have R3:=hid (H.below hbl3 R0);have t2:=tb0.t2;have tlt:=tb0.tlt;have vlt:=tb0.vlt;have hrl:=R3.out.lt;clear tb0 hbl3;go_region_law ((try go_simp);go_at_call 62;refine(pick rb k0 n W3.drew (R3.out.below (Below.drew (Below.refl _ _)) hrl) (by omega) (by omega)).mono ?_;rintro e w4 ⟨i,rfl,hi,_,hr4,hb4⟩;obtain⟨hi0,hi1⟩:=hi (by omega);obtain⟨i',rfl⟩:=Int.eq_ofNat_of_zero_le hi0;have hin:i'<n:=(by omega);have BE4:=hid ((aA.drew (aA.refl rb W3)).trans hb4);obtain⟨f,hfm,hfb,hcf⟩:=HFL.out w4 fb o i' (HFD.out.beside (B3.out.trans BE4.out)) hin;have HFM:=hid hfm;have TB4:=hid (TB.out.beside R0 BE4.out);have t24:=TB4.out.t2;have v24:=TB4.out.v2;have vf4:=TB4.out.f2;have vl4:=TB4.out.vlt;have R4:=hid hr4;clear hr4 hb4 hfm hi)
 all_goals (go_wp2_with fail)
 all_goals
  obtain⟨h5,h6,h7⟩:=TB4.out.enm (G:=f.tag) R0 HKH.out (B3.out.trans BE4.out) R4.out;have hfo:=HTO.out.fds f HFM.out;have h8:(Wf.dec f.tag).length<=3:=Wf.dP f.tag 2 (by have:=hfo.tag2;omega);go_ret
  exact⟨.mk 69 [] f.tag [],_,rfl,⟨t,HF.out,.inl ⟨H69.out,f,gS HTO.out HFM.out,hfo.tag2,rfl⟩⟩,by rw[Wf.eY];simp;omega,h5,h6,h7⟩
end

theorem a6B (w:World) (SG BS NM:ByteArray):(w.alloc (.cells #[.string SG,.string BS,.string NM] 48)).cell? ⟨w.heap.size,0,none⟩=some (.string SG)/\(w.alloc (.cells #[.string SG,.string BS,.string NM] 48)).cell? ⟨w.heap.size,1,none⟩=some (.string BS)/\(w.alloc (.cells #[.string SG,.string BS,.string NM] 48)).cell? ⟨w.heap.size,2,none⟩=some (.string NM):=by
 refine⟨?_,?_,?_⟩ <;> simp[go_sem]
theorem iE (sb:Nat) (SG BS NM:ByteArray) (w:World) (h:SG.toList.isEmpty=false\/(SG.toList.isEmpty=true/\(BS.toList==[64])=false)):Calls Tryz.prog 36 #[ptr sb,.agg #[.string SG,.string BS,.string NM]] w fun e w'=>e=.returned (.tuple #[.pointer none,.bool false])/\Below w.heap.size w w':=by
 rcases h with h|⟨h,h2⟩;all_goals
  go_enter Tryz.func36,Tryz.ntmps36;go_wp2_with fail
  all_goals exact bodyPost_ret (v:=.tuple #[.pointer none,.bool false]) (by simp[results,Tryz.results36,go_sem, *]) rfl ⟨rfl,(Below.refl _ _).alloc (Nat.le_refl _) _⟩
theorem a2B (B:Bool) (sb mb tb q:Nat) (SG BS NM:ByteArray) (W w:World) (hW:Below W.heap.size W w) (hsb:sb<W.heap.size) (htb:tb<W.heap.size) (c1:W.cell? ⟨sb,1,none⟩=some (.map (some mb))) (t0:W.cell? ⟨tb,0,none⟩=some (.int .u8 q))
  (look:∀ wz,Below W.heap.size W wz->(Instr.lookup 114 (.map (some mb)) (.string NM) false).run Tryz.prog wz=.ok (ptr tb) wz) (hSG:SG.toList.isEmpty=true) (hSG2:SG.toList=[]) (hBS:BS.toList=[64]) (hq:((q:Int)==82)=B) :
  Calls Tryz.prog 36 #[ptr sb,.agg #[.string SG,.string BS,.string NM]] w fun e w'=>e=.returned (.tuple #[ptr tb,.bool B])/\Below w.heap.size w w':=by
 have HLK:=hid look;obtain⟨k0,k1,k2⟩:=a6B w SG BS NM;have hBS2:(BS.toList==[64])=true:=by rw[hBS];rfl
 have B3:=hid (hW.alloc hW.size (.cells #[.string SG,.string BS,.string NM] 48));have BW3:=hid ((Below.refl w.heap.size w).alloc (Nat.le_refl _) (.cells #[.string SG,.string BS,.string NM] 48));have l0:=HLK.out _ B3.out;have l1:=HLK.out _ B3.out.drew;have m1:=(B3.out.cell (p:=⟨sb,1,none⟩) hsb).trans c1;have u0:=(B3.out.cell (p:=⟨tb,0,none⟩) htb).trans t0;have hsw:sb<w.heap.size:=Nat.lt_of_lt_of_le hsb hW.size;have htw:tb<w.heap.size:=Nat.lt_of_lt_of_le htb hW.size;clear look c1 t0 hBS;cases B;all_goals
  go_enter Tryz.func36,Tryz.ntmps36;go_wp2_with fail
  obtain⟨W3,hW3⟩:∃ W3,w.alloc (.cells #[.string SG,.string BS,.string NM] 48)=W3:=⟨_,rfl⟩;rw[hW3] at k0 k1 k2 B3 BW3 l0 l1 m1 u0;rw[hW3];have hs3:w.heap.size<W3.heap.size:=by rw[<-hW3];simp
  have hsb3:sb<W3.heap.size:=by omega
  have htb3:tb<W3.heap.size:=by omega
  clear hW3;go_region_held3 (fun w'=>w'.cell? ⟨sb,1,none⟩=some (.map (some mb))/\w'.cell? ⟨w.heap.size,2,none⟩=some (.string NM)/\(Instr.lookup 114 (.map (some mb)) (.string NM) false).run Tryz.prog w'=.ok (ptr tb) w') (first|exact⟨m1,k2,l1⟩|go_keep) (fail)
  all_goals (go_wp2_with fail)
  all_goals (try go_quiet (fail))
  all_goals (go_wp2_with fail)
  all_goals exact bodyPost_ret (v:=.tuple #[ptr tb,.bool _]) (by simp[results,Tryz.results36,go_sem, *]) rfl ⟨rfl,by first|exact bdn BW3.out.drew _|exact bdn BW3.out _|exact BW3.out.drew⟩
theorem record (x:Wf.Sc) (hx:Wf.ScOk x) (lo sb:Nat) (k:Wf.K) (hk:KOk x k) (W w:World) (hsc:ScL W lo sb x) (hW:Below W.heap.size W w):Calls Tryz.prog 36 #[ptr sb,kV k] w fun e w'=>(match Wf.recTy x k with
  | some t=>∃ tb,e=.returned (.tuple #[ptr tb,.bool true])/\TyL W lo tb t
  | none=>∃ p,e=.returned (.tuple #[.pointer p,.bool false]))/\Below w.heap.size w w':=by
 cases k with
 | ref nm =>
  obtain⟨mb,hsz,hc1,hnm⟩:=hsc.named;obtain⟨t,ht⟩:=Wf.kX hk.ref;have hnl:nm.length<=12:=by have:=fJ (.ref nm);have h2:=hk.len;simp only[Wf.K.name] at this;omega
  rcases hnm ⟨nm.toArray⟩ (by rw[aU];omega) with⟨h0,_⟩|⟨t',b,h1,hT,hl⟩
  ·rw[show(⟨nm.toArray⟩:ByteArray).data.toList=nm from rfl,ht] at h0;cases h0
  rw[show(⟨nm.toArray⟩:ByteArray).data.toList=nm from rfl,ht] at h1;obtain rfl:t=t':=Option.some.inj h1;have hto:=hx.tys t (Wf.bI ht).1;have hq:((t.sort.toNat:Int)==82)=decide (t.sort=82):=by
   rcases hto.sort with h|h|h <;> rw[h] <;> rfl
  refine(a2B (decide (t.sort=82)) sb mb b t.sort.toNat ⟨#[]⟩ ⟨#[64]⟩ ⟨nm.toArray⟩ W w hW hsz hT.sort.1 hc1 hT.sort.2 hl (by rw[ByteArray.toList_eq];rfl) (by rw[ByteArray.toList_eq]) (by rw[ByteArray.toList_eq]) hq).mono fun e w' ⟨h1,h2⟩=>⟨?_,h2⟩;have hr:Wf.recTy x (.ref nm)=if t.sort=82 then some t else none:=by simp only[Wf.recTy,ht,Option.bind_some]
  rw[hr];by_cases h82:t.sort=82
  ·rw[if_pos h82]
   rw[decide_eq_true h82] at h1;exact⟨b,h1,hT⟩
  ·rw[if_neg h82]
   rw[decide_eq_false h82] at h1;exact⟨_,h1⟩
 | num=>exact(iE sb ⟨#[]⟩ ⟨#[110]⟩ ⟨#[]⟩ w (.inr ⟨by rw[ByteArray.toList_eq];rfl,by rw[ByteArray.toList_eq];rfl⟩)).mono fun e w' ⟨h1,h2⟩=>⟨⟨_,h1⟩,h2⟩
 | txt=>exact(iE sb ⟨#[]⟩ ⟨#[116]⟩ ⟨#[]⟩ w (.inr ⟨by rw[ByteArray.toList_eq];rfl,by rw[ByteArray.toList_eq];rfl⟩)).mono fun e w' ⟨h1,h2⟩=>⟨⟨_,h1⟩,h2⟩
 | flag=>exact(iE sb ⟨#[]⟩ ⟨#[102]⟩ ⟨#[]⟩ w (.inr ⟨by rw[ByteArray.toList_eq];rfl,by rw[ByteArray.toList_eq];rfl⟩)).mono fun e w' ⟨h1,h2⟩=>⟨⟨_,h1⟩,h2⟩
 | list k=>exact(iE sb ⟨(Wf.K.signs (.list k)).toArray⟩ ⟨(Wf.K.base (.list k)).toArray⟩ ⟨(Wf.K.name (.list k)).toArray⟩ w (.inl (by rw[ByteArray.toList_eq];rfl))).mono fun e w' ⟨h1,h2⟩=>⟨⟨_,h1⟩,h2⟩
 | opt k=>exact(iE sb ⟨(Wf.K.signs (.opt k)).toArray⟩ ⟨(Wf.K.base (.opt k)).toArray⟩ ⟨(Wf.K.name (.opt k)).toArray⟩ w (.inl (by rw[ByteArray.toList_eq];rfl))).mono fun e w' ⟨h1,h2⟩=>⟨⟨_,h1⟩,h2⟩
