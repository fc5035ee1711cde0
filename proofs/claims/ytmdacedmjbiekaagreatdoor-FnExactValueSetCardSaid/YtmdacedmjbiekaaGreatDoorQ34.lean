/- Packed by pack.py: Wi. -/
import Derived.Test.YtmdacedmjbiekaaGreatDoorQ33
import Derived.Test.YtmdacedmjbiekaaGreatDoorQ27
import Derived.Test.YtmdacedmjbiekaaGreatDoorQ22
import Derived.BigQuiet
import Derived.WalkSpells
namespace Go.Proofs.YtmdacedmjbiekaaGreatDoor
open Go.ChangeShapes Go.WideShapes Go.ChangeAt Go.RowKit Go.Lib
set_option linter.unusedVariables false
set_option linter.unusedSimpArgs false
abbrev vCells (q2:Nat) (T2:ByteArray) (g2:Nat) (a2:Option Addr) (n2 c2:Nat):Obj:=.cells #[.int .u8 q2, .string T2, .int .i64 g2, .slice a2 n2 c2] 92
structure PF (w W1:World) (fb o q2 g2 n2 c2:Nat) (T2:ByteArray) (a2 va:Option Addr) (n vc:Nat):Prop where
 bl:Below w.heap.size w W1
 sz:w.heap.size+5≤W1.heap.size
 s3:W1.cell? ⟨w.heap.size,3,none⟩=some (.slice va n vc)
 f:W1.cell? ⟨w.heap.size+1,0,none⟩=some (.pointer (some ⟨fb,o,none⟩))
 x0:W1.cell? ⟨w.heap.size+1+1,0,none⟩=some (.int .u8 q2)
 x1:W1.cell? ⟨w.heap.size+1+1,1,none⟩=some (.string T2)
 x2:W1.cell? ⟨w.heap.size+1+1,2,none⟩=some (.int .i64 g2)
 x3:W1.cell? ⟨w.heap.size+1+1,3,none⟩=some (.slice a2 n2 c2)
 r:Zero W1 (w.heap.size+1+1+1)
 v0:W1.cell? ⟨w.heap.size+1+1+1+1,0,none⟩=some (.int .u8 82)
 v1:W1.cell? ⟨w.heap.size+1+1+1+1,1,none⟩=some (.string ⟨#[]⟩)
 v2:W1.cell? ⟨w.heap.size+1+1+1+1,2,none⟩=some (.int .i64 0)
 v3:W1.cell? ⟨w.heap.size+1+1+1+1,3,none⟩=some (.slice none 0 0)
 vf:W1.frozen? ⟨w.heap.size+1+1+1+1,3,none⟩=false
section
variable {w W1:World} {fb o q2 g2 n2 c2 n vc:Nat} {T2:ByteArray} {a2 va:Option Addr}
theorem PF.below (h:PF w W1 fb o q2 g2 n2 c2 T2 a2 va n vc) {W2:World} (hb:Below W1.heap.size W1 W2):PF w W2 fb o q2 g2 n2 c2 T2 a2 va n vc:=by
 have hs:=h.sz
 have lt:∀ k,k<5→w.heap.size+k<W1.heap.size:=fun k hk=>by omega
 have cc:=fun(k j:Nat) (hk:k<W1.heap.size)=>hb.cell (p:=⟨k,j,none⟩) hk
 exact⟨h.bl.trans (hb.mono (by omega)),Nat.le_trans hs hb.size,(cc _ 3 (by omega)).trans h.s3,(cc _ 0 (by omega)).trans h.f,(cc _ 0 (by omega)).trans h.x0,(cc _ 1 (by omega)).trans h.x1,(cc _ 2 (by omega)).trans h.x2,(cc _ 3 (by omega)).trans h.x3,h.r.below hb (by omega),
  (cc _ 0 (by omega)).trans h.v0,(cc _ 1 (by omega)).trans h.v1,(cc _ 2 (by omega)).trans h.v2,(cc _ 3 (by omega)).trans h.v3,(hb.frozen (p:=⟨w.heap.size+1+1+1+1,3,none⟩) (by show w.heap.size+1+1+1+1<_;omega)).trans h.vf⟩
theorem start_put (w:World) (fb o q2 g2 n2 c2 n vc:Nat) (T2:ByteArray) (a2 va:Option Addr) (W1:World) (hW:((((w.alloc (.cells #[.int .u8 82, .string ⟨#[]⟩, .int .i64 0, .slice va n vc] 92)).alloc (.cells #[.pointer (some ⟨fb,o,none⟩)] 74)).alloc (.cells #[.int .u8 q2, .string T2, .int .i64 g2, .slice a2 n2 c2] 92)).alloc (.cells #[.int .u8 0, .string ⟨#[]⟩, .int .i64 0, .slice none 0 0] 92)).alloc (.cells #[.int .u8 82, .string ⟨#[]⟩, .int .i64 0, .slice none 0 0] 92)=W1):PF w W1 fb o q2 g2 n2 c2 T2 a2 va n vc:=by
 subst hW
 refine⟨?_,by simp, ?_, ?_, ?_, ?_, ?_, ?_, ?_, ?_, ?_, ?_, ?_, ?_⟩
 ·exact(((((Below.refl _ _).alloc (Nat.le_refl _) _).alloc (by simp) _).alloc (by simp;omega) _).alloc (by simp;omega) _).alloc (by simp;omega) _
 case refine_8=>refine⟨?_, ?_, ?_, ?_, ?_, ?_, ?_, ?_, ?_⟩ <;> simp[go_sem]
 all_goals simp[go_sem]
theorem PF.start (h:PF w W1 fb o q2 g2 n2 c2 T2 a2 va n vc):PS w (W1.alloc (.cells #[.bool false] 4)) (W1.alloc (.cells #[.bool false] 4)) (w.heap.size+1+1+1+1) W1.heap.size (W1.heap.size+1) false []:=by
 have hs:=h.sz
 have hb:Below W1.heap.size W1 (W1.alloc (.cells #[.bool false] 4)):=(Below.refl _ _).alloc (Nat.le_refl _) _
 have h2:=h.below hb
 refine⟨⟨none,0,[],h2.bl,by omega,by omega,by simp,h2.v0,h2.v1,h2.v2,h2.v3,h2.vf,World.ownsRow_nil _ _ _ _,by simp,rfl,by simp⟩,by simp,by simp,fun k _ _ _=>rfl,by omega,by omega,by omega⟩
end
theorem vnew (w:World) (q n c:Nat) (g:Nat) (T:ByteArray) (a:Option Addr):(w.alloc (vCells q T g a n c)).cell? ⟨w.heap.size,0,none⟩=some (.int .u8 q)∧(w.alloc (vCells q T g a n c)).cell? ⟨w.heap.size,1,none⟩=some (.string T)∧(w.alloc (vCells q T g a n c)).cell? ⟨w.heap.size,2,none⟩=some (.int .i64 g)∧(w.alloc (vCells q T g a n c)).cell? ⟨w.heap.size,3,none⟩=some (.slice a n c):=by
 refine⟨?_, ?_, ?_, ?_⟩ <;> simp[go_sem]
theorem add_len {told dn:Bool} {oo:Option (Wf.Fd × Wf.V)} {f:Wf.Fd} {y:Wf.V} {T:Nat} (h:oo=if told=true then some (f,y) else none) (hT:f.tag=T) (l:List (Wf.Fd × Wf.V)):(l.map Wf.tagged++if (told && !dn)=true then [.mk 61 [] T [y]] else [])=(l++if dn=false then oo.toList else []).map Wf.tagged:=by
 subst h;subst hT
 cases told <;> cases dn <;> simp[Wf.tagged]
theorem PS.app {w W0 wr:World} {vb db base:Nat} {dn:Bool} {l:List Wf.V} {a:Option Addr} {c m:Nat} {es:List (List Value)} (h:PS w W0 wr vb db base dn l) (hp:PB w wr vb base a c l es) (hm:es.length=m) {wx w4:World} (hx:Below wr.heap.size wr wx)
  (hg:wx.grownBy w4 (Value.slice a m c).ownBlock) {g cap:Nat} (ho:w4.ownsRow base 92 4 (.slice (some ⟨g,0,none⟩) (m+1) cap) (m+1) (es.flatten++[.int .u8 0,tx [], .int .i64 0, .slice none 0 0])) (hat:(Value.slice a m c).ownBlock=some g∨g=wx.heap.size)
  {v:Wf.V} {c0 c1 c2 c3:Value} (hv:VC w (fun _=>True) v [c0,c1,c2,c3]) :
  PS w W0 (((((w4.setCell ⟨g,m * 4,none⟩ c0).setCell ⟨g,m * 4+1,none⟩ c1).setCell ⟨g,m * 4+2,none⟩ c2).setCell ⟨g,m * 4+3,none⟩ c3).setCell ⟨vb,3,none⟩ (.slice (some ⟨g,0,none⟩) (m+1) cap)) vb db base dn (l++[v]):=by
 have hown:∀ z,(Value.slice a m c).ownBlock=some z→base≤z∧z<wr.heap.size:=fun z hz=>owns_lt (by rw[← hm] at hz;exact hp.own) z (by rw[← hm] at hz;exact hz)
 have hgb:=(owns_lt ho g rfl).1
 have hsz:=hp.sz
 have hvw:=hp.vw
 have hvl:=hp.vlt
 have hxs:=hx.size
 have d2:=h.d2
 have hb4:Below base wr w4:=(hx.mono hsz).trans (below_grown2 hg (fun z hz=>(hown z hz).1) (Nat.le_trans hsz hxs))
 have hs4:=hb4.size
 have hvc:VC w4 (fun b=>b<w.heap.size∨(base≤b∧b≠g)) v [c0,c1,c2,c3]:=VC.keep (fun b _ hlt=>⟨.inl hlt,(hb4.block b (by omega)).trans (hp.fr.block b hlt)⟩) (Nat.le_trans hp.fr.size hb4.size) _ _ hv
 have hcd:∀ k,k<base→k≠vb→(((((w4.setCell ⟨g,m * 4,none⟩ c0).setCell ⟨g,m * 4+1,none⟩ c1).setCell ⟨g,m * 4+2,none⟩ c2).setCell ⟨g,m * 4+3,none⟩ c3).setCell ⟨vb,3,none⟩ (.slice (some ⟨g,0,none⟩) (m+1) cap)).heap[k]? = wr.heap[k]?:=fun k h1 h2=>by
  rw[Below.heap_setCell _ ⟨vb,3,none⟩ _ k h2,(beside_set4 w4 g (m * 4) _ _ _ _).1.block k (by omega) (by omega)]
  exact hb4.block k h1
 exact⟨⟨_,_,_,hp.zput hm h.d0 h.d1 h.d2 hx hg ho hat (Below.refl _ _) hvc⟩,(World.cell?_of_block (w:=wr) (a:=⟨db,0,none⟩) (hcd db d2 h.d1)).trans h.cd,(World.frozen?_of_block (w:=wr) (a:=⟨db,0,none⟩) (hcd db d2 h.d1)).trans h.fd,fun k h1 h2 h3=>(hcd k h1 h2).trans (h.keep k h1 h2 h3),h.d0,h.d1,h.d2⟩
theorem PB.out {w wr W4:World} {vb base rs m:Nat} {a:Option Addr} {c:Nat} {l:List Wf.V} {es:List (List Value)} (h:PB w wr vb base a c l es) (hb:Beside rs wr W4) (hrs:w.heap.size≤rs) (hrl:rs<base) (hm:es.length=m):VC W4 (fun _=>True) (.mk 82 [] 0 l) [.int .u8 82, .string ⟨#[]⟩, .int .i64 0, .slice a m c]∧Below w.heap.size w W4:=by
 subst hm
 obtain⟨b,hb1,hrow⟩:=RowK.of_owns h.own h.he
 refine⟨?_,Beside.below h.fr h.fr.size hrs hb⟩
 exact VC.keep (P:=fun b=>b<w.heap.size∨base≤b) (fun b hp hlt=>⟨trivial,hb.block b hlt (by rcases hp with hp|hp <;> omega)⟩) hb.size _ _ (VC.row 82 [] 0 ⟨by omega,fun _=>.inr (.inr (.inr (.inl rfl))),fun h=>by cases h⟩ hrow (.inr (.inr hb1)) h.hl fun i g1 g2=>(h.vals i g1 g2).mono fun b hp _=>hp.imp id fun h=>h.1)
theorem put_step {o:Option (Wf.Fd × Wf.V)} {g:Int} {dn:Bool} {es:List (Wf.Fd × Wf.V)} {i:Nat} (hi:i<es.length):Wf.putL o g dn (es.drop i)=(if dn=false∧g≤((es[i]).1.tag:Int) then o.toList else [])++(if ((es[i]).1.tag:Int)≠g then [es[i]] else [])++Wf.putL o g (dn || decide (g≤((es[i]).1.tag:Int))) (es.drop (i+1)):=by
 rw[List.drop_eq_getElem_cons hi]
 rfl
set_option maxRecDepth 20000 in
set_option maxHeartbeats 8000000 in
theorem put (x:Wf.Sc) (hx:Wf.ScOk x) (lo sb fb o:Nat) (f:Wf.Fd) (es:List (Wf.Fd × Wf.V)) (hes:es.length≤400) (y:Wf.V) (w:World) (hsc:ScL w lo sb x) (hf:FdAt w fb o 82 f) (hft:f.tag≤999999) (hfk:f.kind.text.length≤12) (hr:Wf.hasRef x f.kind=true)
  (vcs ycs:List Value) (hv:VC w (fun _=>True) (Wf.recV es) vcs) (hy:VC w (fun _=>True) y ycs) (hyl:y.print.length≤1000000) :
  Calls Tryz.prog 67 #[ptr sb, .agg vcs.toArray, .pointer (some ⟨fb,o,none⟩), .agg ycs.toArray] w fun e w'=>(∃ cs,e=.returned (.agg cs.toArray)∧VC w' (fun _=>True) (Wf.recV (Wf.putL (if y.print=Wf.standF x f then none else some (f,y)) (f.tag:Int) false es)) cs)∧Below w.heap.size w w':=by
 obtain⟨va,vc,hvcs,hvc1,hvc2,_,hkd⟩:=hv.form
 obtain⟨n,hn⟩:∃ n,es.length=n:=⟨_,rfl⟩
 have hvcs2:vcs=[.int .u8 82, .string ⟨#[]⟩, .int .i64 0, .slice va n vc]:=by
  rw[hvcs];show [_,_,_,Value.slice va (es.map Wf.tagged).length vc]=_;rw[List.length_map,hn];rfl
 subst hvcs2
 obtain⟨q2,g2,n2,c2,T2,a2,rfl⟩:=hy.cells4
 obtain⟨T,hT⟩:∃ T,f.tag=T:=⟨_,rfl⟩
 have hfT:w.cell? ⟨fb,o,none⟩=some (.int .i64 T):=by
  obtain⟨_,_,_,_,hc⟩:=fdC_form 82 f
  rw[← hT]
  exact hf.2 0 _ (by rw[hc];rfl)
 have hfbl:=hf.1
 obtain⟨PX,hPX⟩:∃ PX:ByteArray,(⟨y.print.toArray⟩:ByteArray)=PX:=⟨_,rfl⟩
 obtain⟨ST,hST⟩:∃ ST:ByteArray,(⟨(Wf.standF x f).toArray⟩:ByteArray)=ST:=⟨_,rfl⟩
 have HPR:=hid fun(wz:World) (hz:Below w.heap.size w wz)=>(by
  have h:=print y _ _ w wz hy hz hyl
  rw[tx,hPX] at h
  exact h:Calls Tryz.prog 62 #[.agg #[.int .u8 q2, .string T2, .int .i64 g2, .slice a2 n2 c2]] wz fun e w'=>e=.returned (.string PX)∧Below wz.heap.size wz w')
 have HOF:=hid fun(wz:World) (hz:Below w.heap.size w wz)=>(by
  have h:=of x hx lo sb fb o 82 f w wz hz hsc (by decide) hf hfk hr
  rw[tx,hST] at h
  exact h:Calls Tryz.prog 48 #[ptr sb, .pointer (some ⟨fb,o,none⟩)] wz fun e w'=>e=.returned (.string ST)∧Below wz.heap.size wz w')
 obtain⟨told,htold⟩:∃ told,(!(PX.toList==ST.toList))=told:=⟨_,rfl⟩
 obtain⟨oo,hoo⟩:∃ oo,(if y.print=Wf.standF x f then none else some (f,y))=oo:=⟨_,rfl⟩
 have HOO:=hid (show oo=if told=true then some (f,y) else none by
  have e:(PX.toList==ST.toList)=decide (y.print=Wf.standF x f):=by
   rw[← hPX,← hST,ByteArray.toList_eq,ByteArray.toList_eq,Bool.beq_eq_decide_eq]
  rw[← htold,← hoo,e]
  by_cases h:y.print=Wf.standF x f
  ·rw[if_pos h,decide_eq_true h];rfl
  ·rw[if_neg h,decide_eq_false h];rfl)
 have HTT:=hid htold
 rw[hoo,hT]
 have HT:=hid hT
 have HY:=hid hy
 have HKD:=hid hkd
 have HN:=hid hn
 have hn1:n≤400:=by omega
 have hT9:T≤999999:=by omega
 unfold maxLen at hvc2
 clear hv hy hkd hn hT hPX hST hoo hsc hf hfk hr hx hyl hvcs hvc1 htold hes hft
 have STP:=hid fun W1 h=>start_put w fb o q2 g2 n2 c2 n vc T2 a2 va W1 h
 go_enter Tryz.func67,Tryz.ntmps67
 go_upto_region 2 with fail
 generalize hW1:((((w.alloc (.cells #[.int .u8 82, .string ⟨#[]⟩, .int .i64 0, .slice va n vc] 92)).alloc (.cells #[.pointer (some ⟨fb,o,none⟩)] 74)).alloc (.cells #[.int .u8 q2, .string T2, .int .i64 g2, .slice a2 n2 c2] 92)).alloc (.cells #[.int .u8 0, .string ⟨#[]⟩, .int .i64 0, .slice none 0 0] 92)).alloc (.cells #[.int .u8 82, .string ⟨#[]⟩, .int .i64 0, .slice none 0 0] 92)=W1
 have HF:=hid (STP.out W1 hW1)
 clear hW1 STP
 go_cut [10] (fun s10 wx=>∃ tb,s10=ptr tb∧W1.heap.size≤tb∧tb<wx.heap.size∧wx.cell? ⟨tb,0,none⟩=some (.bool told)∧Hid (Below W1.heap.size W1 wx))
 case first =>
  have i0:=HF.out.f
  have i1:=HF.out.x0
  have i2:=HF.out.x1
  have i3:=HF.out.x2
  have i4:=HF.out.x3
  have hs:=HF.out.sz
  have a1:W1.heap.size≠w.heap.size+1:=by omega
  have a2':W1.heap.size≠w.heap.size+1+1:=by omega
  go_region_held_law (fun w'=>w'.cell? ⟨w.heap.size+1,0,none⟩=some (.pointer (some ⟨fb,o,none⟩))∧w'.cell? ⟨w.heap.size+1+1,0,none⟩=some (.int .u8 q2)∧w'.cell? ⟨w.heap.size+1+1,1,none⟩=some (.string T2)∧w'.cell? ⟨w.heap.size+1+1,2,none⟩=some (.int .i64 g2)∧w'.cell? ⟨w.heap.size+1+1,3,none⟩=some (.slice a2 n2 c2)) (first|with_reducible exact⟨m0,m1,m2,m3,m4⟩|with_reducible exact⟨k0,k1,k2,k3,k4⟩|go_keep) (first|(go_at_call 48;have _u:=HB2;refine(HOF.out (w2.alloc (.cells #[.bool false] 4)) (by repeat (first|with_reducible exact(HF.out.below HB2.out).bl|with_reducible refine Below.drew ?_|with_reducible refine Below.alloc ?_ (by first|exact(HF.out.below HB2.out).bl.size|(simp;done)|(simp;omega)|omega) _))).mono ?_;rintro e w3 ⟨rfl,hb3⟩;have HB3:=hid (below_join (show Below W1.heap.size W1 (w2.alloc (.cells #[.bool false] 4)) from(by repeat (first|with_reducible exact HB2.out|with_reducible refine Below.drew ?_|with_reducible refine Below.alloc ?_ (by first|exact HB2.out.size|(simp;done)|(simp;omega)|omega) _))) hb3);have m0:=(HF.out.below HB3.out).f;have m1:=(HF.out.below HB3.out).x0;have m2:=(HF.out.below HB3.out).x1;have m3:=(HF.out.below HB3.out).x2;have m4:=(HF.out.below HB3.out).x3;have hl3:=HB3.out.size;have c1:w3.heap.size≠w.heap.size+1:=(by omega);have c2:w3.heap.size≠w.heap.size+1+1:=(by omega);have uL:w2.heap.size<w3.heap.size:=Nat.lt_of_lt_of_le (by simp) hb3.size;have uA:w3.cell? ⟨w2.heap.size,0,none⟩=some (.bool false):=(hb3.cell (p:=⟨w2.heap.size,0,none⟩) (by simp)).trans (by simp);have uF:w3.frozen? ⟨w2.heap.size,0,none⟩=false:=(hb3.frozen (p:=⟨w2.heap.size,0,none⟩) (by simp)).trans (by simp);clear hb3)|(have _v:=tA;go_at_call 48;have _u:=HB2;refine(HOF.out w2 (by repeat (first|with_reducible exact(HF.out.below HB2.out).bl|with_reducible refine Below.drew ?_|with_reducible refine Below.alloc ?_ (by first|exact(HF.out.below HB2.out).bl.size|(simp;done)|(simp;omega)|omega) _))).mono ?_;rintro e w3 ⟨rfl,hb3⟩;have HB3:=hid (below_join (show Below W1.heap.size W1 w2 from(by repeat (first|with_reducible exact HB2.out|with_reducible refine Below.drew ?_|with_reducible refine Below.alloc ?_ (by first|exact HB2.out.size|(simp;done)|(simp;omega)|omega) _))) hb3);have m0:=(HF.out.below HB3.out).f;have m1:=(HF.out.below HB3.out).x0;have m2:=(HF.out.below HB3.out).x1;have m3:=(HF.out.below HB3.out).x2;have m4:=(HF.out.below HB3.out).x3;have hl3:=HB3.out.size;have c1:w3.heap.size≠w.heap.size+1:=(by omega);have c2:w3.heap.size≠w.heap.size+1+1:=(by omega);have uL:=Nat.lt_of_lt_of_le tL hb3.size;have uA:w3.cell? ⟨W1.heap.size,0,none⟩=some (.bool false):=(hb3.cell (p:=⟨W1.heap.size,0,none⟩) tL).trans tA;have uF:w3.frozen? ⟨W1.heap.size,0,none⟩=false:=(hb3.frozen (p:=⟨W1.heap.size,0,none⟩) tL).trans tF;clear hb3)|(go_at_call 48;have _u:=HB2;refine(HOF.out w2 (by repeat (first|with_reducible exact(HF.out.below HB2.out).bl|with_reducible refine Below.drew ?_|with_reducible refine Below.alloc ?_ (by first|exact(HF.out.below HB2.out).bl.size|(simp;done)|(simp;omega)|omega) _))).mono ?_;rintro e w3 ⟨rfl,hb3⟩;have HB3:=hid (below_join (show Below W1.heap.size W1 w2 from(by repeat (first|with_reducible exact HB2.out|with_reducible refine Below.drew ?_|with_reducible refine Below.alloc ?_ (by first|exact HB2.out.size|(simp;done)|(simp;omega)|omega) _))) hb3);have m0:=(HF.out.below HB3.out).f;have m1:=(HF.out.below HB3.out).x0;have m2:=(HF.out.below HB3.out).x1;have m3:=(HF.out.below HB3.out).x2;have m4:=(HF.out.below HB3.out).x3;have hl3:=HB3.out.size;have c1:w3.heap.size≠w.heap.size+1:=(by omega);have c2:w3.heap.size≠w.heap.size+1+1:=(by omega);clear hb3)|(go_at_call 62;refine(HPR.out ((W1.alloc (.cells #[.bool false] 4)).drew) (by repeat (first|with_reducible exact HF.out.bl|with_reducible refine Below.drew ?_|with_reducible refine Below.alloc ?_ (by first|exact HF.out.bl.size|(simp;done)|(simp;omega)|omega) _))).mono ?_;rintro e w2 ⟨rfl,hb2⟩;have HB2:=hid (below_join (show Below W1.heap.size W1 ((W1.alloc (.cells #[.bool false] 4)).drew) from(by repeat (first|with_reducible exact Below.refl W1.heap.size W1|with_reducible refine Below.drew ?_|with_reducible refine Below.alloc ?_ (by first|exact Below.refl W1.heap.size W1.size|(simp;done)|(simp;omega)|omega) _))) hb2);have k0:=(HF.out.below HB2.out).f;have k1:=(HF.out.below HB2.out).x0;have k2:=(HF.out.below HB2.out).x1;have k3:=(HF.out.below HB2.out).x2;have k4:=(HF.out.below HB2.out).x3;have hl2:=HB2.out.size;have b1:w2.heap.size≠w.heap.size+1:=(by omega);have b2:w2.heap.size≠w.heap.size+1+1:=(by omega);have tL:W1.heap.size<w2.heap.size:=Nat.lt_of_lt_of_le (by simp) hb2.size;have tA:w2.cell? ⟨W1.heap.size,0,none⟩=some (.bool false):=(hb2.cell (p:=⟨W1.heap.size,0,none⟩) (by simp)).trans (by simp);have tF:w2.frozen? ⟨W1.heap.size,0,none⟩=false:=(hb2.frozen (p:=⟨W1.heap.size,0,none⟩) (by simp)).trans (by simp);clear hb2)|(go_at_call 62;refine(HPR.out W1.drew (by repeat (first|with_reducible exact HF.out.bl|with_reducible refine Below.drew ?_|with_reducible refine Below.alloc ?_ (by first|exact HF.out.bl.size|(simp;done)|(simp;omega)|omega) _))).mono ?_;rintro e w2 ⟨rfl,hb2⟩;have HB2:=hid (below_join (show Below W1.heap.size W1 W1.drew from(by repeat (first|with_reducible exact Below.refl W1.heap.size W1|with_reducible refine Below.drew ?_|with_reducible refine Below.alloc ?_ (by first|exact Below.refl W1.heap.size W1.size|(simp;done)|(simp;omega)|omega) _))) hb2);have k0:=(HF.out.below HB2.out).f;have k1:=(HF.out.below HB2.out).x0;have k2:=(HF.out.below HB2.out).x1;have k3:=(HF.out.below HB2.out).x2;have k4:=(HF.out.below HB2.out).x3;have hl2:=HB2.out.size;have b1:w2.heap.size≠w.heap.size+1:=(by omega);have b2:w2.heap.size≠w.heap.size+1+1:=(by omega);clear hb2))
  all_goals (go_wp2_with fail;go_meet)
  all_goals first
   | exact⟨_,rfl,Nat.le_refl _,by simpa using uL,(World.cell?_setCell_same _ _ _ uA).trans (by rw[HTT.out]),hid (HB3.out.setCell (Nat.le_refl _) _)⟩
   | exact⟨_,rfl,hl2,by simpa using uL,(World.cell?_setCell_same _ _ _ uA).trans (by rw[HTT.out]),hid (HB3.out.setCell hl2 _)⟩
   | exact⟨_,rfl,hl3,by simp,by simp[HTT.out],hid (HB3.out.alloc hl3 _)⟩
 case rest =>
  obtain⟨tb,rfl,ht1,ht2,ht3,hbc⟩:=hcut
  obtain⟨W2,hW2⟩:∃ W2,W2=wc:=⟨_,rfl⟩
  subst hW2
  have HF2:=hid (HF.out.below hbc.out)
  have HP:=hid HF2.out.start
  have q0:=HF2.out.s3
  have hz1:=HF.out.sz
  have hz2:=HF2.out.sz
  have hz0:w.heap.size<W2.heap.size:=by omega
  have HB0:=hid (show Below W2.heap.size W2 (W2.alloc (.cells #[.bool false] 4)) from(Below.refl _ _).alloc (Nat.le_refl _) _)
  have HF0:=hid (HF2.out.below HB0.out)
  have g0:=(HB0.out.cell (p:=⟨tb,0,none⟩) ht2).trans ht3
  have hs0:(W2.alloc (.cells #[.bool false] 4)).heap.size=W2.heap.size+1:=by simp
  go_wp2_with fail
  generalize hW0:W2.alloc (.cells #[.bool false] 4)=W0 at *
  clear hW0 HF ht3 hbc q0
  go_loopw [26] (fun s26 wr=>∃ (i:Nat) (dn:Bool) (l:List (Wf.Fd × Wf.V)),s26=.int .i64 i∧i≤n∧l.length≤2 * i∧Hid (PS w W0 wr (w.heap.size+1+1+1+1) W2.heap.size (W2.heap.size+1) dn (l.map Wf.tagged)∧l++Wf.putL oo (T:Int) dn (es.drop i)=Wf.putL oo (T:Int) false es)) (fun s26 _=>n-(RowKit.intOf s26).toNat)
  case atStart=>exact⟨0,false,[],rfl,Nat.zero_le _,by simp,hid ⟨HP.out,by rw[List.nil_append,List.drop_zero]⟩⟩
  case round =>
   obtain⟨i,dn,l,rfl,hi,hli,hh⟩:=hrel
   have hsz:=hh.out.1.sz
   have HADD:=hid fun(wz:World) (hz:Below wr.heap.size wr wz)=>(by
    have h:=add w W0 wr wz tb (w.heap.size+1) (w.heap.size+1+1) told y q2 g2 n2 c2 T2 a2 T fb o hh.out.1 hz (by rw[List.length_map];omega) g0 (by omega) (by omega) (by omega) HF0.out.f (by omega) (by omega) (by omega) ((HF0.out.bl.cell (p:=⟨fb,o,none⟩) hfbl).trans hfT) (by omega) (by omega) (by omega) HF0.out.x0 HF0.out.x1 HF0.out.x2 HF0.out.x3 (by omega) (by omega) (by omega) HY.out hT9
    rw[add_len HOO.out HT.out] at h
    exact h:Calls Tryz.prog 99 #[ptr tb,ptr W2.heap.size,ptr (w.heap.size+1+1+1+1),ptr (w.heap.size+1),ptr (w.heap.size+1+1)] wz fun e w'=>e=.returned (.tuple #[])∧PS w W0 w' (w.heap.size+1+1+1+1) W2.heap.size (W2.heap.size+1) true ((l++if dn=false then oo.toList else []).map Wf.tagged)∧wz.heap.size≤w'.heap.size∧(∀ k,wr.heap.size≤k→k<wz.heap.size→w'.heap[k]? = wz.heap[k]?)∧∃ a c es5,PB w w' (w.heap.size+1+1+1+1) (W2.heap.size+1) a c ((l++if dn=false then oo.toList else []).map Wf.tagged) es5∧∀ k,(Value.slice a es5.length c).ownBlock=some k→k<wr.heap.size∨wz.heap.size≤k)
   by_cases hlt2:i<n
   ·have hix:i<es.length:=by rw[HN.out];exact hlt2
    obtain⟨b,o',rfl,hbw,hvs⟩:∃ b o',va=some ⟨b,o',none⟩∧b<w.heap.size∧VCs w (fun _=>True) b o' (es.map Wf.tagged):=by
     rcases HKD.out with h|⟨b,o',h1,_,h3,h4⟩
     ·exfalso
      have h5:(es.map Wf.tagged).length=0:=by
       have:es.map Wf.tagged=[]:=h
       rw[this];rfl
      rw[List.length_map] at h5
      omega
     ·exact⟨b,o',h1,h3,h4⟩
    obtain⟨cs,hvk,hcc⟩:=hvs.get i (by rw[List.length_map];exact hix)
    rw[List.getElem_map] at hvk
    obtain⟨E,hE⟩:∃ E,es[i]=E:=⟨_,rfl⟩
    rw[hE] at hvk
    obtain⟨b2,o2,c3,q3,g3,n3,c4,T3,a3,rfl,h1c,hcm,_,hb2w,_,_,_,_,_⟩:=VC.fld hvk
    obtain⟨Ti,hTi⟩:∃ Ti,E.1.tag=Ti:=⟨_,rfl⟩
    rw[hTi] at hcc hvk
    have HVK:=hid hvk
    have HSTEP:=hid (put_step (o:=oo) (g:=(T:Int)) (dn:=dn) hix)
    rw[hE,hTi] at HSTEP
    have HFR:=hid hh.out.1.fr
    have hbr:b<wr.heap.size:=by omega
    have z0:wr.cell? ⟨b,o'+i * 4,none⟩=some (.int .u8 61):=(HFR.out.cell (p:=⟨b,o'+i * 4,none⟩) hbw).trans (hcc 0 _ rfl)
    have z1:wr.cell? ⟨b,o'+i * 4+1,none⟩=some (.string ⟨#[]⟩):=(HFR.out.cell (p:=⟨b,o'+i * 4+1,none⟩) hbw).trans (hcc 1 _ rfl)
    have z2:wr.cell? ⟨b,o'+i * 4+2,none⟩=some (.int .i64 Ti):=(HFR.out.cell (p:=⟨b,o'+i * 4+2,none⟩) hbw).trans (hcc 2 _ rfl)
    have z3:wr.cell? ⟨b,o'+i * 4+3,none⟩=some (.slice (some ⟨b2,o2,none⟩) 1 c3):=(HFR.out.cell (p:=⟨b,o'+i * 4+3,none⟩) hbw).trans (hcc 3 _ rfl)
    have u0:=(hh.out.1.cell (p:=⟨w.heap.size+1,0,none⟩) (by show w.heap.size+1<_;omega) (by show w.heap.size+1≠_;omega) (by show w.heap.size+1≠_;omega)).trans HF0.out.f
    have u1:=(HFR.out.cell (p:=⟨fb,o,none⟩) hfbl).trans hfT
    clear hvs hvk hcc hE hTi
    have HBY:=hid (show Below wr.heap.size wr (wr.alloc (vCells 61 ⟨#[]⟩ Ti (some ⟨b2,o2,none⟩) 1 c3)) from(Below.refl wr.heap.size wr).alloc (Nat.le_refl _) _)
    have HYC:=hid (vnew wr 61 1 c3 Ti ⟨#[]⟩ (some ⟨b2,o2,none⟩))
    have hl1:w.heap.size+1<wr.heap.size:=by omega
    have hl2:fb<wr.heap.size:=by omega
    have hol:(l++if dn=false then oo.toList else []).length≤2 * i+1:=by
     rw[List.length_append]
     split
     ·cases oo <;> simp <;> omega
     ·simp;omega
    have HU:=hid fun(wz:World) (dz:Bool) (lz:List Wf.V) (h:PS w W0 wz (w.heap.size+1+1+1+1) W2.heap.size (W2.heap.size+1) dz lz)=>(show wz.cell? ⟨w.heap.size+1,0,none⟩=some (.pointer (some ⟨fb,o,none⟩))∧wz.cell? ⟨fb,o,none⟩=some (.int .i64 T) from⟨(h.cell (p:=⟨w.heap.size+1,0,none⟩) (by show w.heap.size+1<_;omega) (by show w.heap.size+1≠_;omega) (by show w.heap.size+1≠_;omega)).trans HF0.out.f,(h.fr.cell (p:=⟨fb,o,none⟩) hfbl).trans hfT⟩)
    have HIT:=hid (show(if dn=false∧(T:Int)≤(Ti:Int) then oo.toList else [])=if T≤Ti then (if dn=false then oo.toList else []) else [] by
     cases dn <;> by_cases h:T≤Ti <;> simp[h,Int.ofNat_le])
    rw[HIT.out] at HSTEP
    rcases Nat.lt_trichotomy Ti T with hc|hc|hc
    case' inl =>
     have e1:decide ((T:Int)≤(Ti:Int))=false:=decide_eq_false (by omega)
     have e2:((Ti:Int)==(T:Int))=false:=beq_eq_false_iff_ne.2 (by omega)
     go_upto_region 8 with fail
     go_quiet (fail)
     go_upto_region 10 with fail
     go_quiet (fail)
     go_upto_region 11 with fail
     generalize hW5:World.drewN _ _=W5
     have HBW:Hid (Below wr.heap.size wr W5):=hid (by rw[← hW5];repeat (first|with_reducible refine bel_drewN ?_ _|exact HBY.out))
     have y0:W5.cell? ⟨wr.heap.size,0,none⟩=some (.int .u8 61):=by rw[← hW5];exact HYC.out.1
     have y1:W5.cell? ⟨wr.heap.size,1,none⟩=some (.string ⟨#[]⟩):=by rw[← hW5];exact HYC.out.2.1
     have y2:W5.cell? ⟨wr.heap.size,2,none⟩=some (.int .i64 Ti):=by rw[← hW5];exact HYC.out.2.2.1
     have y3:W5.cell? ⟨wr.heap.size,3,none⟩=some (.slice (some ⟨b2,o2,none⟩) 1 c3):=by rw[← hW5];exact HYC.out.2.2.2
     have hy5:wr.heap.size<W5.heap.size:=by rw[← hW5];simp
     obtain⟨dn5,l5,HS5,⟨a5,c5,es5,HP5,HOY0⟩,hl5,HE5⟩:∃ (dn5:Bool) (l5:List (Wf.Fd × Wf.V)),Hid (PS w W0 W5 (w.heap.size+1+1+1+1) W2.heap.size (W2.heap.size+1) dn5 (l5.map Wf.tagged))∧(∃ a c es5,Hid (PB w W5 (w.heap.size+1+1+1+1) (W2.heap.size+1) a c (l5.map Wf.tagged) es5)∧Hid (∀ k,(Value.slice a es5.length c).ownBlock=some k→k≠wr.heap.size))∧l5.length≤2 * i+1∧Hid (l5++([E]++Wf.putL oo (T:Int) dn5 (es.drop (i+1)))=Wf.putL oo (T:Int) false es):=⟨dn,l,hid (hh.out.1.step HBW.out),(by
      obtain⟨a,c,es5,hp⟩:=hh.out.1.pb
      exact⟨a,c,es5,hid (hp.step (Beside.of_below HBW.out (Nat.le_refl _)) hh.out.1.d0 hh.out.1.d1 hh.out.1.d2),hid fun k hk=>by have:=(owns_lt hp.own k hk).2;omega⟩),by omega,hid (by
      have h:=hh.out.2
      rw[HSTEP.out,if_neg (show ¬ T≤Ti by omega),if_pos (show(Ti:Int)≠(T:Int) by omega),e1,Bool.or_false,List.nil_append] at h
      exact h)⟩
     clear HBW hW5
    case inr.inl =>
     obtain⟨hc1,hc2⟩:Ti≤T∧T≤Ti:=by omega
     clear hc
     have e1:decide ((T:Int)≤(Ti:Int))=true:=decide_eq_true (by omega)
     have e2:((Ti:Int)==(T:Int))=true:=beq_iff_eq.2 (by omega)
     go_upto_region 8 with fail
     go_quiet (fail)
     go_upto_region 10 with(go_at_call 99;refine(HADD.out _ (bel_drewN HBY.out _)).mono ?_;rintro e w3 ⟨rfl,hs3,hz3,hk3,hp3⟩;have HS3:=hid hs3;have HP3:=hid hp3;clear hp3;have hz30:wr.heap.size<w3.heap.size:=Nat.lt_of_lt_of_le (by simp) hz3;have hk30:=hk3 wr.heap.size (Nat.le_refl _) (by simp);have y0:=(World.cell?_of_block (a:=⟨wr.heap.size,0,none⟩) hk30).trans HYC.out.1;have y1:=(World.cell?_of_block (a:=⟨wr.heap.size,1,none⟩) hk30).trans HYC.out.2.1;have y2:=(World.cell?_of_block (a:=⟨wr.heap.size,2,none⟩) hk30).trans HYC.out.2.2.1;have y3:=(World.cell?_of_block (a:=⟨wr.heap.size,3,none⟩) hk30).trans HYC.out.2.2.2;obtain⟨p0,p1⟩:=HU.out _ _ _ hs3;clear hs3 hk3 hk30)
     go_quiet (fail)
     go_wp2_with fail
     go_roundw
     case rel=>exact⟨i+1,true,_,by go_num,by omega,by omega,hid ⟨HS3.out.step (bel_drewN (Below.refl _ _) _),by
      have h:=hh.out.2
      rw[HSTEP.out,if_pos hc2,if_neg (show ¬ (Ti:Int)≠(T:Int) by omega),e1,Bool.or_true,List.append_nil,← List.append_assoc] at h
      exact h⟩⟩
     case measure=>simp[RowKit.intOf];omega
    case' inr.inr =>
     have e1:decide ((T:Int)≤(Ti:Int))=true:=decide_eq_true (by omega)
     have e2:((Ti:Int)==(T:Int))=false:=beq_eq_false_iff_ne.2 (by omega)
     go_upto_region 8 with fail
     go_quiet (fail)
     go_upto_region 10 with(go_at_call 99;refine(HADD.out _ (bel_drewN HBY.out _)).mono ?_;rintro e w3 ⟨rfl,hs3,hz3,hk3,hp3⟩;have HS3:=hid hs3;have HP3:=hid hp3;clear hp3;have hz30:wr.heap.size<w3.heap.size:=Nat.lt_of_lt_of_le (by simp) hz3;have hk30:=hk3 wr.heap.size (Nat.le_refl _) (by simp);have y0:=(World.cell?_of_block (a:=⟨wr.heap.size,0,none⟩) hk30).trans HYC.out.1;have y1:=(World.cell?_of_block (a:=⟨wr.heap.size,1,none⟩) hk30).trans HYC.out.2.1;have y2:=(World.cell?_of_block (a:=⟨wr.heap.size,2,none⟩) hk30).trans HYC.out.2.2.1;have y3:=(World.cell?_of_block (a:=⟨wr.heap.size,3,none⟩) hk30).trans HYC.out.2.2.2;obtain⟨p0,p1⟩:=HU.out _ _ _ hs3;clear hs3 hk3 hk30)
     go_quiet (fail)
     go_upto_region 11 with fail
     generalize hW5:World.drewN _ _=W5
     have y0:W5.cell? ⟨wr.heap.size,0,none⟩=some (.int .u8 61):=by rw[← hW5];exact y0
     have y1:W5.cell? ⟨wr.heap.size,1,none⟩=some (.string ⟨#[]⟩):=by rw[← hW5];exact y1
     have y2:W5.cell? ⟨wr.heap.size,2,none⟩=some (.int .i64 Ti):=by rw[← hW5];exact y2
     have y3:W5.cell? ⟨wr.heap.size,3,none⟩=some (.slice (some ⟨b2,o2,none⟩) 1 c3):=by rw[← hW5];exact y3
     have hy5:wr.heap.size<W5.heap.size:=by rw[← hW5];exact hz30
     obtain⟨dn5,l5,HS5,⟨a5,c5,es5,HP5,HOY0⟩,hl5,HE5⟩:∃ (dn5:Bool) (l5:List (Wf.Fd × Wf.V)),Hid (PS w W0 W5 (w.heap.size+1+1+1+1) W2.heap.size (W2.heap.size+1) dn5 (l5.map Wf.tagged))∧(∃ a c es5,Hid (PB w W5 (w.heap.size+1+1+1+1) (W2.heap.size+1) a c (l5.map Wf.tagged) es5)∧Hid (∀ k,(Value.slice a es5.length c).ownBlock=some k→k≠wr.heap.size))∧l5.length≤2 * i+1∧Hid (l5++([E]++Wf.putL oo (T:Int) dn5 (es.drop (i+1)))=Wf.putL oo (T:Int) false es):=⟨true,_,hid (by rw[← hW5];exact HS3.out.step (bel_drewN (Below.refl _ _) _)),(by
      obtain⟨a,c,es5,hp,ho⟩:=HP3.out
      exact⟨a,c,es5,hid (hp.step (by rw[← hW5];exact Beside.of_below (bel_drewN (Below.refl _ _) _) (Nat.le_refl _)) HS3.out.d0 HS3.out.d1 HS3.out.d2),hid fun k hk=>by have:=ho k hk;simp at this;omega⟩),hol,hid (by
      have h:=hh.out.2
      rw[HSTEP.out,if_pos (show T≤Ti by omega),if_pos (show(Ti:Int)≠(T:Int) by omega),e1,Bool.or_true,List.append_assoc,← List.append_assoc] at h
      exact h)⟩
     clear hW5
    all_goals
     obtain⟨m5,hm5e⟩:∃ m5,es5.length=m5:=⟨_,rfl⟩
     have v5:=HP5.out.v3
     rw[hm5e] at v5
     have f5:=HP5.out.f3
     have hsz5:=HP5.out.sz
     have hm5:m5≤1000:=by have:=HP5.out.hl;rw[List.length_map] at this;omega
     have HOWN5:=hid (show W5.ownsRow (W2.heap.size+1) 92 4 (.slice a5 m5 c5) m5 es5.flatten by rw[← hm5e];exact HP5.out.own)
     have HFL5:=hid (flat4 HP5.out.he hm5e)
     have HOY:=hid (show ∀ k,(Value.slice a5 m5 c5).ownBlock=some k→k≠wr.heap.size by rw[← hm5e];exact HOY0.out)
     have HM5:=hid hm5e
     have hvb5:w.heap.size+1+1+1+1<W2.heap.size+1:=by omega
     have hvb6:w.heap.size+1+1+1+1<W5.heap.size:=by omega
     have NZ5:=hid (heap_alloc_last W5 zObj)
     have HKY:=hid fun(wx w4:World) (hg:wx.grownBy w4 (Value.slice a5 m5 c5).ownBlock) (hx:Below W5.heap.size W5 wx) (j:Nat)=>(show w4.cell? ⟨wr.heap.size,j,none⟩=W5.cell? ⟨wr.heap.size,j,none⟩ from World.cell?_of_block (w:=W5) (a:=⟨wr.heap.size,j,none⟩) ((hg.block wr.heap.size (Nat.lt_of_lt_of_le hy5 hx.size) (fun e=>HOY.out _ e.symm rfl)).trans (hx.block _ hy5)))
     have yv:w.heap.size+1+1+1+1≠wr.heap.size:=by omega
     have yv2:wr.heap.size≠w.heap.size+1+1+1+1:=by omega
     have hi0:(0:Int)≤(m5:Int):=by omega
     have hi1:(m5:Int)<(m5:Int)+1:=by omega
     clear hm5e HOY0
     refine wp_region_held_drew (S:=(fun w'=>w'.cell? ⟨wr.heap.size,0,none⟩=some (.int .u8 61)∧w'.cell? ⟨wr.heap.size,1,none⟩=some (.string ⟨#[]⟩)∧w'.cell? ⟨wr.heap.size,2,none⟩=some (.int .i64 Ti)∧w'.cell? ⟨wr.heap.size,3,none⟩=some (.slice (some ⟨b2,o2,none⟩) 1 c3))) (by kernel_rfl) ?_ (fun hHeld => ?_)
     ·go_keep
     refine wpAnyH_take (i:=0) (v:=?_) rfl (by kernel_rfl) (by kernel_rfl) (by kernel_rfl) (fun _ _ _ h=>h) (Or.inl ⟨by rfl, ?_⟩) (by assumption) ?_;rotate_left;(· ((intro w hSw;(try dsimp only at hSw);go_simp) <;> with_reducible rfl));(try simp only[Act.put,List.setIfInBounds_toArray,List.set_cons_zero,List.set_cons_succ])
     refine wpAnyH_take (i:=2) (v:=?_) rfl (by kernel_rfl) (by kernel_rfl) (by kernel_rfl) (fun _ _ _ h=>h) (Or.inl ⟨by rfl, ?_⟩) (by assumption) ?_;rotate_left;(· ((intro w hSw;(try dsimp only at hSw);go_simp) <;> with_reducible rfl));(try simp only[Act.put,List.setIfInBounds_toArray,List.set_cons_zero,List.set_cons_succ])
     refine wpAnyH_ready (rs:=[1,4]) (by kernel_rfl) (by simp) ?_
     refine AllReadyH.cons rfl (fun K hK => ?_) (AllReadyH.cons rfl (fun K hK => ?_) AllReadyH.nil)
     go_simp
     refine hK.out _ _ ?_ (fun hH2 => ?_);(· ((try dsimp only) <;> go_keep));clear hK K hHeld;have hHeld:=hH2;clear hH2
     refine wpAnyH_take (i:=3) (v:=?_) rfl (by kernel_rfl) (by kernel_rfl) (by kernel_rfl) (fun _ _ _ h=>h) (Or.inl ⟨by rfl, ?_⟩) (by assumption) ?_;rotate_left;(· ((intro w hSw;(try dsimp only at hSw);go_simp) <;> with_reducible rfl));(try simp only[Act.put,List.setIfInBounds_toArray,List.set_cons_zero,List.set_cons_succ])
     refine wpAnyH_ready (rs:=[4]) (by kernel_rfl) (by simp) ?_
     refine AllReadyH.cons rfl (fun K hK => ?_) AllReadyH.nil
     go_simp
     refine hK.out _ _ ?_ (fun hH2 => ?_);(· ((try dsimp only) <;> go_keep));clear hK K hHeld;have hHeld:=hH2;clear hH2
     rotate_left
     go_simp
     refine hK.out _ _ ?_ (fun hH2 => ?_);(· ((try dsimp only) <;> go_keep));clear hK K hHeld;have hHeld:=hH2;clear hH2
     refine wpAnyH_ready (rs:=[1]) (by kernel_rfl) (by simp) ?_
     refine AllReadyH.cons rfl (fun K hK => ?_) AllReadyH.nil
     go_simp
     refine hK.out _ _ ?_ (fun hH2 => ?_);(· ((try dsimp only) <;> go_keep));clear hK K hHeld;have hHeld:=hH2;clear hH2
     refine wpAnyH_take (i:=3) (v:=?_) rfl (by kernel_rfl) (by kernel_rfl) (by kernel_rfl) (fun _ _ _ h=>h) (Or.inl ⟨by rfl, ?_⟩) (by assumption) ?_;rotate_left;(· ((intro w hSw;(try dsimp only at hSw);go_simp) <;> with_reducible rfl));(try simp only[Act.put,List.setIfInBounds_toArray,List.set_cons_zero,List.set_cons_succ])
     all_goals
      refine wpAnyH_ready (rs:=[5]) (by kernel_rfl) (by simp) ?_
      refine AllReadyH.cons rfl (fun K hK => ?_) AllReadyH.nil
      refine step_app_zero (.tmp 47) (.tmp 50) rfl rfl hsz5 HOWN5.out hm5 HFL5.out (by repeat (first|with_reducible exact Below.refl _ _|with_reducible refine Below.drew ?_|with_reducible refine Below.alloc ?_ (by simp) _)) NZ5.out (by simp[Act.eval,Act.put]) (by simp[Act.eval,Act.put]) ?_;intro g cap w4 hown4 hgrow4 hat4 hr hrf b4 hgb hgl;obtain⟨r0,r1,r2,r3⟩:=hr;have rf0:=hrf (m5 * 4);have rf1:=hrf (m5 * 4+1);have rf2:=hrf (m5 * 4+2);have rf3:=hrf (m5 * 4+3);have hyg:g≠wr.heap.size:=(by rcases hat4 with e|e;exact HOY.out g e;(simp at e;omega));have k0:=(HKY.out _ w4 hgrow4 (by repeat (first|with_reducible exact Below.refl _ _|with_reducible refine Below.drew ?_|with_reducible refine Below.alloc ?_ (by simp) _)) 0).trans y0;have k1:=(HKY.out _ w4 hgrow4 (by repeat (first|with_reducible exact Below.refl _ _|with_reducible refine Below.drew ?_|with_reducible refine Below.alloc ?_ (by simp) _)) 1).trans y1;have k2:=(HKY.out _ w4 hgrow4 (by repeat (first|with_reducible exact Below.refl _ _|with_reducible refine Below.drew ?_|with_reducible refine Below.alloc ?_ (by simp) _)) 2).trans y2;have k3:=(HKY.out _ w4 hgrow4 (by repeat (first|with_reducible exact Below.refl _ _|with_reducible refine Below.drew ?_|with_reducible refine Below.alloc ?_ (by simp) _)) 3).trans y3;have B4:=hid b4;have y33:=(B4.out.cell (p:=⟨w.heap.size+1+1+1+1,3,none⟩) hvb5).trans v5;have yf:=(B4.out.frozen (p:=⟨w.heap.size+1+1+1+1,3,none⟩) hvb5).trans f5;have hgv:g≠w.heap.size+1+1+1+1:=(by omega);have HOWN4:=hid hown4;have HG4:=hid hgrow4;have HAT4:=hid hat4;clear hown4 hgrow4 hat4 hrf b4 v5 f5 y0 y1 y2 y3
      refine hK.out _ _ ?_ (fun hH2 => ?_);(· ((try dsimp only) <;> (first|with_reducible exact⟨k0,k1,k2,k3⟩|go_keep)));clear hK K hHeld;have hHeld:=hH2;clear hH2
      refine wpAnyH_take (i:=6) (v:=?_) rfl (by kernel_rfl) (by kernel_rfl) (by kernel_rfl) (fun _ _ _ h=>h) (Or.inl ⟨by rfl, ?_⟩) (by assumption) ?_;rotate_left;(· ((intro w hSw;(try dsimp only at hSw);go_simp) <;> with_reducible rfl));(try simp only[Act.put,List.setIfInBounds_toArray,List.set_cons_zero,List.set_cons_succ])
      refine wpAnyH_take (i:=8) (v:=?_) rfl (by kernel_rfl) (by kernel_rfl) (by kernel_rfl) (fun _ _ _ h=>h) (Or.inl ⟨by rfl, ?_⟩) (by assumption) ?_;rotate_left;(· ((intro w hSw;(try dsimp only at hSw);go_simp) <;> with_reducible rfl));(try simp only[Act.put,List.setIfInBounds_toArray,List.set_cons_zero,List.set_cons_succ])
      refine wpAnyH_ready (rs:=[7,9]) (by kernel_rfl) (by simp) ?_
      refine AllReadyH.cons rfl (fun K hK => ?_) (AllReadyH.cons rfl (fun K hK => ?_) AllReadyH.nil)
      all_goals go_simp
      all_goals (refine hK.out _ _ ?_ (fun hH2 => ?_);(· ((try dsimp only) <;> go_keep));clear hK K hHeld;have hHeld:=hH2;clear hH2)
      all_goals first|refine wpAnyH_ready (rs:=[9]) (by decide +kernel) (by simp) ?_|refine wpAnyH_ready (rs:=[7]) (by decide +kernel) (by simp) ?_
      all_goals refine AllReadyH.cons rfl (fun K hK => ?_) AllReadyH.nil
      all_goals go_simp
      all_goals (refine hK.out _ _ ?_ (fun hH2 => ?_);(· ((try dsimp only) <;> go_keep));clear hK K hHeld;have hHeld:=hH2;clear hH2)
      all_goals refine wpAnyH_done (by kernel_rfl) ?_ _
     all_goals have hvg:w.heap.size+1+1+1+1≠g:=by omega
     all_goals have HPA:=hid (HS5.out.app HP5.out HM5.out (by repeat (first|with_reducible exact Below.refl _ _|with_reducible refine Below.drew ?_|with_reducible refine Below.alloc ?_ (by simp) _)) HG4.out HOWN4.out HAT4.out HVK.out)
     all_goals try rw[set_swap _ (w.heap.size+1+1+1+1) 3 g _ _ _ (Or.inl hvg),set_swap _ (w.heap.size+1+1+1+1) 3 g _ _ _ (Or.inl hvg),set_swap _ (w.heap.size+1+1+1+1) 3 g _ _ _ (Or.inl hvg),set_swap _ (w.heap.size+1+1+1+1) 3 g _ _ _ (Or.inl hvg)]
     all_goals
      go_wp2_with fail
      go_roundw
      case rel=>exact⟨i+1,dn5,l5++[E],by go_num,by omega,by rw[List.length_append,List.length_singleton];omega,hid ⟨by rw[List.map_append,List.map_singleton];with_reducible exact HPA.out,by rw[List.append_assoc];exact HE5.out⟩⟩
      case measure=>simp[RowKit.intOf];omega
   ·have hin:i=n:=by omega
    subst hin
    have HL:=hid (show(l++if dn=false then oo.toList else [])=Wf.putL oo (T:Int) false es by
     have h:=hh.out.2
     rw[List.drop_of_length_le (by rw[HN.out];exact Nat.le_refl _)] at h
     rw[← h]
     cases dn <;> rfl)
    go_wp2_with (go_at_call 99;refine(HADD.out _ (Below.refl _ _)).mono ?_;rintro e w3 ⟨rfl,hs3,hz3,hk3,a3,c3,es3,hp3,ho3⟩;have HS3:=hid hs3;obtain⟨m3,hm3⟩:∃ m3,es3.length=m3:=⟨_,rfl⟩;have v0:=hp3.v0;have v1:w3.cell? ⟨w.heap.size+1+1+1+1,1,none⟩=some (.string ⟨#[]⟩):=hp3.v1;have v2:=hp3.v2;have v3:=hp3.v3;rw[hm3] at v3;have HP3:=hid hp3;have HM3:=hid hm3;have HZ3:=hid (HF0.out.r.same (by have:=hs3.sz;omega) (hs3.keep (w.heap.size+1+1+1) (by omega) (by omega) (by omega)));obtain⟨zl,zr0,zr1,zr2,zr3,zf0,zf1,zf2,zf3⟩:=HZ3.out;clear hs3 hk3 hp3 hm3 ho3)
    have HOUT:=hid (HP3.out.out (((Beside.set (w.heap.size+1+1+1) w3 0 (.int .u8 82)).trans (Beside.set (w.heap.size+1+1+1) _ 1 (.string ⟨#[]⟩))).trans ((Beside.set (w.heap.size+1+1+1) _ 2 (.int .i64 0)).trans (Beside.set (w.heap.size+1+1+1) _ 3 (.slice a3 m3 c3)))) (by omega) (by omega) HM3.out)
    exact bodyPost_ret (v:=.agg #[.int .u8 82, .string ⟨#[]⟩, .int .i64 0, .slice a3 m3 c3]) (by simp[results,Tryz.results67,go_sem, *]) rfl ⟨⟨_,rfl,by rw[← HL.out];exact HOUT.out.1⟩,HOUT.out.2⟩
end Go.Proofs.YtmdacedmjbiekaaGreatDoor
