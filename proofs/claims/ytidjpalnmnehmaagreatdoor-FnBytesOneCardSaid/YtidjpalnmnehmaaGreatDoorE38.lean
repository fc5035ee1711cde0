/- Packed by pack.py: Xl. -/
import Derived.Test.YtidjpalnmnehmaaGreatDoorE37
import Derived.Deep.RegionHeldLaw
namespace Go.Proofs.YtidjpalnmnehmaaGreatDoor
open Go.ChangeShapes Go.WideShapes Go.ChangeAt Go.RowKit Go.Lib
set_option linter.unusedVariables false
set_option linter.unusedSimpArgs false
theorem bdn {B:Nat} {a w:World} (h:Below B a w) (n:Nat):Below B a (w.drewN n):=h.trans ⟨rfl,rfl,rfl,Nat.le_refl _,fun _ _=>rfl⟩
theorem str_guard (S:ByteArray):(S.data.toList=[]∧S.toList.isEmpty=true∧S.toList=[])∨∃ (c:UInt8) (q:List UInt8),S.data.toList=c::q∧S.toList.isEmpty=false∧S.toList≠[]∧0<S.size∧(∀ h,(S[0]'h).toNat=c.toNat)∧S.extract 1 S.size=⟨q.toArray⟩:=by
 cases hl:S.data.toList with
 | nil=>exact .inl ⟨rfl,by rw[ByteArray.toList_eq,hl];rfl,by rw[ByteArray.toList_eq,hl]⟩
 | cons c q =>
  right
  have h0:0<S.size:=by rw[← size_list,hl];simp
  refine⟨c,q,rfl,by rw[ByteArray.toList_eq,hl];rfl,by rw[ByteArray.toList_eq,hl];exact List.cons_ne_nil _ _,h0,fun h => ?_, ?_⟩
  ·obtain⟨c',hc,e⟩:=byte_at S 0 h0
   rw[hl] at hc
   simp at hc
   rw[e h,hc]
  ·rw[eq_list,suf_list,hl];rfl
theorem RB.put2 {w wr:World} {vb base mt tc m c:Nat} {ta a:Option Addr} {gs:List Nat} {l:List Wf.V} {bs:List Nat} (h:RB w wr vb base ta mt tc a m c gs l bs) {W8 wx w4:World} {u:Wf.V} {b g cap g0:Nat} (h8:Below wr.heap.size wr W8) (hv:LV W8 (fun z=>wr.heap.size≤z) u b) (hx:Below W8.heap.size W8 wx) (hg:wx.grownBy w4 (Value.slice ta mt tc).ownBlock)
  (ho:w4.ownsRow base 3 1 (.slice (some ⟨g,0,none⟩) (mt+1) cap) (mt+1) (gs.map ix++[ix g0])) (hat:(Value.slice ta mt tc).ownBlock=some g∨g=wx.heap.size) :
  RB w (w4.setCell ⟨vb,2,none⟩ (.slice (some ⟨g,0,none⟩) (mt+1) cap)) vb base (some ⟨g,0,none⟩) (mt+1) cap a m c (gs++[g0]) l bs∧LV (w4.setCell ⟨vb,2,none⟩ (.slice (some ⟨g,0,none⟩) (mt+1) cap)) (fun y=>base≤y∧some y≠(Value.slice a m c).ownBlock∧some y≠(Value.slice (some ⟨g,0,none⟩) (mt+1) cap).ownBlock) u b:=by
 obtain⟨h1,h2⟩:=(h.step h8).putT hx hg ho hat
 have hot:=owns_lt h.ownT
 have hok:=owns_lt h.ownK
 have hsz:=h.sz
 have hB:Below base wx w4:=below_grown2 hg (fun g hgk=>(hot g hgk).1) (Nat.le_trans hsz (Nat.le_trans h8.size hx.size))
 refine⟨h1,LV.keep (fun y hp hlt => ?_) (by simpa using hB.size) _ _ (LV.below hv hx)⟩
 have hne1:some y≠(Value.slice a m c).ownBlock:=fun e=>by have:=(hok y e.symm).2;omega
 have hne2:some y≠(Value.slice ta mt tc).ownBlock:=fun e=>by have:=(hot y e.symm).2;omega
 obtain⟨e1,e2⟩:=h2 y (by omega) hlt hne1 hne2
 exact⟨⟨by omega,hne1,e1⟩,e2⟩
theorem fl_more {x:Wf.Sc} {t:Wf.Ty} {p:Wf.K→Wf.Reads} (hp:∀ k s v r,p k s=some (v,r)→r.length<s.length) {gs:List Nat} {us:List Wf.V} (hl:gs.length=us.length) {C q:List UInt8} {f:Wf.Fd} {u:Wf.V} (h:Wf.fieldTok t p C=some (f,u,44::q)) (hn:¬ (f.tag≤lastG gs∨u.print=Wf.standF x f)):Wf.fldsL x t p (fl gs us) (lastG gs) C=Wf.fldsL x t p (fl (gs++[f.tag]) (us++[u])) (lastG (gs++[f.tag])) q:=by
 rw[Wf.fldsL_step hp,h]
 dsimp only
 rw[if_neg hn,fl_snoc hl,lastG_snoc]
 rfl
theorem fl_end {x:Wf.Sc} {t:Wf.Ty} {p:Wf.K→Wf.Reads} (hp:∀ k s v r,p k s=some (v,r)→r.length<s.length) {gs:List Nat} {us:List Wf.V} (hl:gs.length=us.length) {C q:List UInt8} {f:Wf.Fd} {u:Wf.V} (h:Wf.fieldTok t p C=some (f,u,125::q)) (hn:¬ (f.tag≤lastG gs∨u.print=Wf.standF x f)):Wf.fldsL x t p (fl gs us) (lastG gs) C=some (fl (gs++[f.tag]) (us++[u]),q):=by
 rw[Wf.fldsL_step hp,h]
 dsimp only
 rw[if_neg hn,fl_snoc hl]
 rfl
def RRel (x:Wf.Sc) (t:Wf.Ty) (n:Nat) (v:Value) (w wr:World) (q fn fc:Nat) (N KT:ByteArray) (fa:Option Addr) (S0 C:List UInt8) (ta:Option Addr) (m tc:Nat) (a:Option Addr) (c:Nat) (gs:List Nat) (us:List Wf.V) (bs:List Nat):Prop :=
 VBk v w wr w.heap.size (w.heap.size+1+1) KT ⟨#[82]⟩∧RB w wr (w.heap.size+1+1) (w.heap.size+1+1+1) ta m tc a m c gs us bs∧TYc wr (w.heap.size+1) q fn fc N fa∧Wf.fldsL x t (fun k' s'=>Wf.parse x n k' s') [] 0 S0=Wf.fldsL x t (fun k' s'=>Wf.parse x n k' s') (fl gs us) (lastG gs) C∧(∀ g∈gs,g≤200)
section
variable (x:Wf.Sc) (v:Value) (W:World) (n:Nat) (t:Wf.Ty) (nm:List UInt8) (S:ByteArray) (D:Int) (w:World)
set_option maxRecDepth 20000 in
set_option maxHeartbeats 16000000 in
theorem l4rec_items (hx:Wf.ScOk x) (lo bsc:Nat) (hsp:ScSp W lo bsc v x) (htx:t∈x) (hf:x.find nm=some t) (fb fc:Nat) (fa:Option Addr) (hrow:RowK W fb (.slice fa t.fields.length fc) 4 (t.fields.map (fdS t.sort))) (h82:t.sort=82) (hS:S.size≤1048576) (hD:D=(n:Int)+1) (hn:n≤1000) (hh:S.data.toList.head? ≠ some 125) (IH:∀ f∈t.fields,LR x v W n f.kind) (hW:Below W.heap.size W w):Calls Tryz.prog 123 #[.agg #[v], .string S,tx (Wf.K.ref nm).text, .agg #[.int .u8 82,tx t.name, .slice fa t.fields.length fc], .int .i64 D] w fun e w'=>LrOut (Wf.parse x (n+1) (.ref nm) (123::S.data.toList)) w e w'∧Below w.heap.size w w':=by
 have HP:=hid (Wf.parse_rec_flds x n hf h82 hh)
 have htok:=hx.tys t htx
 have htl:t.fields.length≤1000:=by have:=htok.len;omega
 obtain⟨KT,hKT⟩:∃ KT:ByteArray,(⟨(Wf.K.ref nm).text.toArray⟩:ByteArray)=KT:=⟨_,rfl⟩
 obtain⟨N,hN⟩:∃ N:ByteArray,(⟨t.name.toArray⟩:ByteArray)=N:=⟨_,rfl⟩
 obtain⟨fn,hfn⟩:∃ fn,t.fields.length=fn:=⟨_,rfl⟩
 have HKH:=hid (show KT.data.toList.head? = some 64 by rw[← hKT];rfl)
 have h69:t.sort≠69:=by rw[h82];decide
 have HTAG:=hid fun(C:ByteArray) (wz:World) (hC:C.size≤1048576) (hb:Below W.heap.size W wz)=>(by
  have h:=l4tag t htl v C hC fb fc fa W wz hb hrow
  rw[h82,hfn] at h
  simp only[tx,hN] at h
  exact h:Calls Tryz.prog 124 #[.agg #[v], .string C, .agg #[.int .u8 82, .string N, .slice fa fn fc]] wz fun e w'=>TagOut t C.data.toList e∧Below wz.heap.size wz w')
 have HIH:=hid IH
 have HW:=hid hW
 have HX:=hid hx
 have HTX:=hid htx
 have H69:=hid h69
 have HSP:=hid hsp
 have kd:IntKind.i64.wrap (D-1)=(n:Int):=by rw[hD,Int.add_sub_cancel];exact IntWalk.i64_in _ (by omega)
 have ST:=hid fun W1 h=>start_lrec w v 82 fn fc N KT fa W1 h
 rw[tx,tx,hKT,hN,hfn]
 have hg:=str_guard S
 have hg2:S.toList.isEmpty=true∨(S.toList.isEmpty=false∧0<S.size∧∃ b:Nat,(∀ h,(S[0]'h).toNat=b)∧((b:Int)==125)=false):=by
  rcases hg with⟨_,h,_⟩|⟨c,q,hl,h1,_,h2,h3,_⟩
  ·exact .inl h
  ·refine .inr ⟨h1,h2,c.toNat,h3, ?_⟩
   rw[beq_eq_false_iff_ne]
   intro h
   rw[hl] at hh
   exact hh (congrArg some (UInt8.toNat_inj.1 (by show c.toNat=125;omega)))
 clear hh hKT hN hfn hg IH hW hD hx htx h69 hsp hrow h82 hf htok htl
 go_enter Tryz.func123,Tryz.ntmps123
 go_upto_region 2 with fail
 go_cut [29] (fun s29 wx=>s29=.bool false∧Hid (VBk v w wx w.heap.size (w.heap.size+1+1) KT ⟨#[82]⟩∧RB w wx (w.heap.size+1+1) (w.heap.size+1+1+1) none 0 0 none 0 0 [] [] []∧TYc wx (w.heap.size+1) 82 fn fc N fa))
 case first =>
  rcases hg2 with hg1|⟨hg1,hg2,b0,e1,hb93⟩
  all_goals (go_wp2_with fail;go_meet)
  all_goals exact⟨rfl,hid (ST.out _ rfl)⟩
 case rest =>
  obtain⟨rfl,hh0⟩:=hcut
  clear hg2
  go_wp2_with fail
  go_loopw [1] (fun s1 wr=>∃ (C:ByteArray) (ta:Option Addr) (m tc:Nat) (a:Option Addr) (c:Nat) (gs:List Nat) (us:List Wf.V) (bs:List Nat),s1=.string C∧C.size≤S.size∧m+C.size≤1048576∧Hid (RRel x t n v w wr 82 fn fc N KT fa S.data.toList C.data.toList ta m tc a c gs us bs)) (fun s1 _=>strN s1)
  case atStart=>exact⟨S,none,0,0,none,0,[],[],[],rfl,Nat.le_refl _,by omega,hid ⟨hh0.out.1,hh0.out.2.1,hh0.out.2.2,rfl,fun g hg=>by simp at hg⟩⟩
  case round =>
   obtain⟨C,ta,m,tc,a,c,gs,us,bs,rfl,hCS,hmC,hh⟩:=hrel
   have hv2:=hh.out.2.1.v2
   have hf2:=hh.out.2.1.f2
   have hv3:=hh.out.2.1.v3
   have hf3:=hh.out.2.1.f3
   have hr0:=hh.out.1.r0
   have hlv:=hh.out.1.lt
   have hlr:=hh.out.1.rlt
   have hsz:=hh.out.2.1.sz
   have htl:=hh.out.2.2.1.lt
   have ht0:=hh.out.2.2.1.t0
   have ht1:=hh.out.2.2.1.t1
   have ht2:=hh.out.2.2.1.t2
   have hmm:=hh.out.2.1.ownT
   have HGL:=hid (show gs.length=us.length by rw[hh.out.2.1.hg,← hh.out.2.1.hl,hh.out.2.1.vals.len])
   have HST:=hid (Wf.fldsL_step (x:=x) (t:=t) (p:=fun k' s'=>Wf.parse x n k' s') (fun k s v r h=>Wf.parse_lt (v:=v) (r:=r) h) (fl gs us) (lastG gs) C.data.toList)
   have BW:=hid (HW.out.trans (hh.out.1.bl.mono HW.out.size))
   have HTG:=hid (HTAG.out C wr (by omega) BW.out)
   have RNO:=hid fun(h:Wf.fldsL x t (fun k' s'=>Wf.parse x n k' s') (fl gs us) (lastG gs) C.data.toList=none)=>(show Wf.parse x (n+1) (.ref nm) (123::S.data.toList)=none by rw[HP.out,hh.out.2.2.2.1,h];rfl)
   clear hmm
   cases htf:tagF t C.data.toList with
   | none =>
    have HRES:=hid (RNO.out (by rw[HST.out,tok_no htf]))
    have HO:=hid fun(e:Ending) (h:TagOut t C.data.toList e)=>(by unfold TagOut at h;rw[htf] at h;exact h:∃ (m:Int) (a b c:ByteArray),e=.returned (.tuple #[.agg #[.int .i64 m, .string a, .string b, .string c],tx (C.data.toList.dropWhile Wf.isDig), .bool false]))
    clear htf
    go_wp2_with (go_at_call 124;refine HTG.out.mono ?_;rintro e w2 ⟨ho,hb2⟩;obtain⟨gm,gA,gB,gC,rfl⟩:=HO.out _ ho;have HB2:=hid hb2;clear ho hb2)
    go_quiet (fail)
    all_goals (go_wp2_with fail)
    all_goals exact bodyPost_ret (v:=.tuple #[.pointer none, .string C, .bool false]) (by simp[results,Tryz.results123,go_sem, *]) rfl ⟨LrOut.no HRES.out ⟨_,_,rfl⟩,bdn (hh.out.1.bl.trans ((HB2.out.trans (((Below.refl w2.heap.size w2).alloc (Nat.le_refl _) _).mono HB2.out.size)).mono hh.out.1.bl.size)) _⟩
   | some f =>
    have hfm:=tagF_mem htf
    have hfd:=(HX.out.tys t HTX.out).fds f hfm
    have hG1:=hfd.tag1
    have hG2:=hfd.tag2
    obtain⟨G,hG⟩:∃ G,f.tag=G:=⟨_,rfl⟩
    obtain⟨FN,hFN⟩:∃ FN:ByteArray,(⟨f.name.toArray⟩:ByteArray)=FN:=⟨_,rfl⟩
    obtain⟨FK,hFK⟩:∃ FK:ByteArray,(⟨f.kind.text.toArray⟩:ByteArray)=FK:=⟨_,rfl⟩
    obtain⟨FG,hFG⟩:∃ FG:ByteArray,(⟨f.given.toArray⟩:ByteArray)=FG:=⟨_,rfl⟩
    obtain⟨R1,hR1⟩:∃ R1:ByteArray,(⟨(C.data.toList.dropWhile Wf.isDig).toArray⟩:ByteArray)=R1:=⟨_,rfl⟩
    have HR1:=hid (show R1.data.toList=C.data.toList.dropWhile Wf.isDig by rw[← hR1])
    have HR1S:=hid (show R1.size≤C.size by rw[← size_list,← size_list,HR1.out];exact(List.dropWhile_suffix _).length_le)
    have HO:=hid fun(e:Ending) (h:TagOut t C.data.toList e)=>(by unfold TagOut at h;rw[htf] at h;dsimp only at h;rw[if_neg H69.out,hG] at h;simp only[tx,hFN,hFK,hFG,hR1] at h;exact h:e=.returned (.tuple #[.agg #[.int .i64 G, .string FN, .string FK, .string FG], .string R1, .bool true]))
    have HTF:=hid htf
    have HFM:=hid hfm
    have HGG:=hid hG
    have HST4:=hid fun(wz:World) (hz:Below W.heap.size W wz)=>(by
     have h:=l3stand x HX.out lo bsc v f W wz hz HSP.out (fd_kind hfd) (HX.out.refs t HTX.out H69.out f hfm)
     rw[hG] at h
     simp only[tx,hFN,hFK,hFG] at h
     exact h:Calls Tryz.prog 135 #[v, .agg #[.int .i64 G, .string FN, .string FK, .string FG]] wz fun e w'=>e=.returned (.string ⟨(Wf.standF x f).toArray⟩)∧Below wz.heap.size wz w')
    have HRD:=hid fun(Q:ByteArray) (wz:World) (h1:Q.size≤1048576) (h2:Below W.heap.size W wz)=>(by
     have h:=HIH.out f hfm Q wz h1 h2
     simp only[tx,hFK] at h
     exact h:Calls Tryz.prog 51 #[.agg #[v], .string Q, .string FK, .int .i64 n] wz fun e w'=>LrOut (Wf.parse x n f.kind Q.data.toList) wz e w'∧Below wz.heap.size wz w')
    rw[hG] at hG1 hG2
    have hgR:=str_guard R1
    clear htf hfm hfd hG hFN hFK hFG hR1
    go_wp2_with (go_at_call 124;refine HTG.out.mono ?_;rintro e w2 ⟨ho,hb2⟩;obtain rfl:=HO.out _ ho;have HB2:=hid hb2;clear ho hb2)
    have hal:=(Below.refl w2.heap.size w2).alloc (Nat.le_refl _) (.cells #[.int .i64 G, .string FN, .string FK, .string FG] 163)
    have z0:(w2.alloc (.cells #[.int .i64 G, .string FN, .string FK, .string FG] 163)).cell? ⟨w2.heap.size,0,none⟩=some (.int .i64 G):=by simp[go_sem]
    have z1:(w2.alloc (.cells #[.int .i64 G, .string FN, .string FK, .string FG] 163)).cell? ⟨w2.heap.size,1,none⟩=some (.string FN):=by simp[go_sem]
    have z2:(w2.alloc (.cells #[.int .i64 G, .string FN, .string FK, .string FG] 163)).cell? ⟨w2.heap.size,2,none⟩=some (.string FK):=by simp[go_sem]
    have z3:(w2.alloc (.cells #[.int .i64 G, .string FN, .string FK, .string FG] 163)).cell? ⟨w2.heap.size,3,none⟩=some (.string FG):=by simp[go_sem]
    have hz:w2.heap.size<(w2.alloc (.cells #[.int .i64 G, .string FN, .string FK, .string FG] 163)).heap.size:=by simp
    obtain⟨W3,hW3⟩:∃ W3,w2.alloc (.cells #[.int .i64 G, .string FN, .string FK, .string FG] 163)=W3:=⟨_,rfl⟩
    rw[hW3] at hal z0 z1 z2 z3 hz
    rw[hW3]
    have B3:=hid (HB2.out.trans (hal.mono HB2.out.size))
    have VB3:=hid (hh.out.1.step (hh.out.1.bl.trans (B3.out.mono hh.out.1.bl.size)) B3.out hlr hlv)
    have RB3:=hid (hh.out.2.1.step B3.out)
    have TY3:=hid (hh.out.2.2.1.step B3.out htl)
    have BW3:=hid (BW.out.trans (B3.out.mono BW.out.size))
    have hw2:wr.heap.size≤w2.heap.size:=HB2.out.size
    clear hal hW3 hv2 hf2 hv3 hf3 hr0 ht0 ht1 ht2
    have hv2:=RB3.out.v2
    have hr0:=VB3.out.r0
    have hlv3:=VB3.out.lt
    have hlr3:=VB3.out.rlt
    -- a tag,'=' and a greater tag
    have DONE:=hid (show Below w.heap.size w W3 from VB3.out.bl)
    rcases hgR with⟨hl1,he1,he2⟩|⟨c1,q1,hl1,he1,he2,he3,he4,he5⟩
    ·have HRES:=hid (RNO.out (by rw[HST.out,tok_eq (by rw[← HR1.out,hl1];simp)]))
     clear hl1
     go_quiet (fail)
     all_goals (go_wp2_with fail)
     all_goals exact bodyPost_ret (v:=.tuple #[.pointer none, .string C, .bool false]) (by simp[results,Tryz.results123,go_sem, *]) rfl ⟨LrOut.no HRES.out ⟨_,_,rfl⟩,bdn DONE.out _⟩
    ·by_cases h61:c1=61
     ·subst h61
      have e61:∀ h,(R1[0]'h).toNat=61:=he4
      obtain⟨Q1,hQ1⟩:∃ Q1:ByteArray,(⟨q1.toArray⟩:ByteArray)=Q1:=⟨_,rfl⟩
      have hqx:R1.extract 1 R1.size=Q1:=by rw[← hQ1];exact he5
      have HQ1:=hid (show Q1.data.toList=q1 by rw[← hQ1])
      have hq1s:Q1.size<R1.size:=by rw[← size_list,← size_list,HQ1.out,hl1];simp
      have hr1s:R1.size≤C.size:=HR1S.out
      have HTOK:=hid (show Wf.fieldTok t (fun k' s'=>Wf.parse x n k' s') C.data.toList=(Wf.parse x n f.kind q1).map fun y=>(f,y.1,y.2) from tok_yes HTF.out (by rw[← HR1.out,hl1]))
      have kq:∀ wz,(Instr.slice 9 (.string R1) (some (.int .i64 1)) none none).run Tryz.prog wz=.ok (.string Q1) wz:=fun wz=>by
       have h:=sl_suf R1 1 he3 wz
       rw[hqx] at h
       exact h
      clear hl1 hQ1 he4 he5
      by_cases hGL:G≤lastG gs
      ·
       have HRES:=hid (RNO.out (by
        rw[HST.out,HTOK.out]
        cases Wf.parse x n f.kind q1 with
        | none=>rfl
        | some y=>simp only[Option.map_some];rw[if_pos (.inl (by rw[HGG.out];exact hGL))]))
       have hgl:=hh.out.2.1.hg
       have hm0:0<m:=by
        by_cases h0:m=0
        ·rw[h0] at hgl
         rw[List.eq_nil_of_length_eq_zero hgl] at hGL
         simp[lastG] at hGL
         omega
        ·omega
       obtain⟨m',hm'⟩:∃ m',m=m'+1:=⟨m-1,by omega⟩
       have hgx:=lastG_get (gs:=gs) (i:=m') (by rw[hgl,hm'])
       obtain⟨L,hL⟩:∃ L,lastG gs=L:=⟨_,rfl⟩
       rw[hL] at hGL hgx
       have hgm:(gs.map ix).length=m:=by rw[List.length_map,hgl]
       obtain⟨tb,htb,hrT⟩:=RowAt.of_owns (xs:=gs.map ix) (by rw[hgm];exact RB3.out.ownT)
       obtain⟨to',rfl,htbl,htc1,htc2,ct⟩:=hrT.get (i:=m') (by rw[hgm];omega)
       rw[List.getElem_map,← hgx] at ct
       have ctL:W3.cell? ⟨tb,to'+m',none⟩=some (.int .i64 L):=ct
       have kwm:IntKind.i64.wrap ((m:Int)-1)=(m':Int):=by
        have:(m:Int)-1=(m':Int):=by omega
        rw[this];exact IntWalk.i64_in _ (by omega)
       have n1:(0:Int)≤(m':Int):=by omega
       have n2:(m':Int)<(m:Int):=by omega
       have d1:decide (G≤L)=true:=decide_eq_true hGL
       unfold maxLen at htc2
       clear hgx hL hrT ct hgm hgl hm'
       go_quiet (fail)
       all_goals (go_wp2_with fail)
       all_goals exact bodyPost_ret (v:=.tuple #[.pointer none, .string C, .bool false]) (by simp[results,Tryz.results123,go_sem, *]) rfl ⟨LrOut.no HRES.out ⟨_,_,rfl⟩,bdn DONE.out _⟩
      ·go_cut [76] from 33 to 143 (fun s76 wx=>s76=.bool false∧Hid (Below W3.heap.size W3 wx))
       case first =>
        by_cases h0:m=0
        ·subst h0
         go_quiet (fail)
         all_goals (go_wp2_with fail;go_meet)
         all_goals exact⟨rfl,hid (bdn (Below.refl _ _) _)⟩
        ·have hgl:=hh.out.2.1.hg
         have hm0:0<m:=by omega
         obtain⟨m',hm'⟩:∃ m',m=m'+1:=⟨m-1,by omega⟩
         have hgx:=lastG_get (gs:=gs) (i:=m') (by rw[hgl,hm'])
         obtain⟨L,hL⟩:∃ L,lastG gs=L:=⟨_,rfl⟩
         rw[hL] at hGL hgx
         have hgm:(gs.map ix).length=m:=by rw[List.length_map,hgl]
         obtain⟨tb,htb,hrT⟩:=RowAt.of_owns (xs:=gs.map ix) (by rw[hgm];exact RB3.out.ownT)
         obtain⟨to',rfl,htbl,htc1,htc2,ct⟩:=hrT.get (i:=m') (by rw[hgm];omega)
         rw[List.getElem_map,← hgx] at ct
         have ctL:W3.cell? ⟨tb,to'+m',none⟩=some (.int .i64 L):=ct
         have kwm:IntKind.i64.wrap ((m:Int)-1)=(m':Int):=by
          have:(m:Int)-1=(m':Int):=by omega
          rw[this];exact IntWalk.i64_in _ (by omega)
         have n1:(0:Int)≤(m':Int):=by omega
         have n2:(m':Int)<(m:Int):=by omega
         have d1:decide (G≤L)=false:=decide_eq_false hGL
         unfold maxLen at htc2
         clear hgx hL hrT ct hgm hgl hm' h0 hGL
         go_quiet (fail)
         all_goals (go_wp2_with fail;go_meet)
         all_goals exact⟨rfl,hid (bdn (Below.refl _ _) _)⟩
       case rest =>
        obtain⟨rfl,hc1⟩:=hcut
        obtain⟨W5,hW5⟩:∃ W5,W5=wc:=⟨_,rfl⟩
        subst hW5
        have VB5:=hid (VB3.out.step (VB3.out.bl.trans (hc1.out.mono VB3.out.bl.size)) hc1.out hlr3 hlv3)
        have RB5:=hid (RB3.out.step hc1.out)
        have TY5:=hid (TY3.out.step hc1.out TY3.out.lt)
        have BW5:=hid (BW3.out.trans (hc1.out.mono BW3.out.size))
        have y0:=(hc1.out.cell (p:=⟨w2.heap.size,0,none⟩) hz).trans z0
        have y1:=(hc1.out.cell (p:=⟨w2.heap.size,1,none⟩) hz).trans z1
        have y2:=(hc1.out.cell (p:=⟨w2.heap.size,2,none⟩) hz).trans z2
        have y3:=(hc1.out.cell (p:=⟨w2.heap.size,3,none⟩) hz).trans z3
        have hfb5:w2.heap.size<W5.heap.size:=Nat.lt_of_lt_of_le hz hc1.out.size
        have hr05:=VB5.out.r0
        have hlr5:=VB5.out.rlt
        clear hv2 hr0 z0 z1 z2 z3
        go_wp2_with fail
        cases hp:Wf.parse x n f.kind q1 with
        | none =>
         have HRES:=hid (RNO.out (by rw[HST.out,HTOK.out,hp];rfl))
         have HO2:=hid fun(e:Ending) (w':World) (h:LrOut (Wf.parse x n f.kind Q1.data.toList) W5.drew e w')=>(by unfold LrOut at h;rw[HQ1.out,hp] at h;exact h:∃ (p:Option Addr) (r:ByteArray),e=.returned (.tuple #[.pointer p, .string r, .bool false]))
         clear hp
         go_region_held3 (fun w'=>w'.cell? ⟨w.heap.size,0,none⟩=some v∧w'.cell? ⟨w2.heap.size,2,none⟩=some (.string FK)) (first|exact⟨j0,j2⟩|go_keep) ((go_at_call 51;refine(HRD.out Q1 W5.drew (by omega) BW5.out.drew).mono ?_;rintro e w7 ⟨ho,hb7⟩;obtain⟨p3,r3,rfl⟩:=HO2.out _ _ ho;have HB7:=hid (Below.drew (Below.refl W5.heap.size W5) |>.trans hb7);have j0:=(HB7.out.cell (p:=⟨w.heap.size,0,none⟩) VB5.out.rlt).trans VB5.out.r0;have j2:=(HB7.out.cell (p:=⟨w2.heap.size,2,none⟩) hfb5).trans y2;clear ho hb7))
         all_goals (go_wp2_with fail)
         all_goals (go_quiet (fail))
         all_goals (go_wp2_with fail)
         all_goals exact bodyPost_ret (v:=.tuple #[.pointer none, .string C, .bool false]) (by simp[results,Tryz.results123,go_sem, *]) rfl ⟨LrOut.no HRES.out ⟨_,_,rfl⟩,bdn (VB5.out.bl.trans (HB7.out.mono VB5.out.bl.size)) _⟩
        | some y =>
         obtain⟨u,rr⟩:=y
         obtain⟨htu,hsay⟩:=Wf.parse_say _ _ _ _ _ hp
         have hul:u.print.length≤2000000:=by
          have h1:q1.length=u.print.length+rr.length:=by rw[hsay,List.length_append]
          have h2:q1.length≤1048576:=by rw[← HQ1.out,size_list];omega
          omega
         obtain⟨RR,hRR⟩:∃ RR:ByteArray,(⟨rr.toArray⟩:ByteArray)=RR:=⟨_,rfl⟩
         obtain⟨U,hU⟩:∃ U:ByteArray,(⟨u.print.toArray⟩:ByteArray)=U:=⟨_,rfl⟩
         obtain⟨O,hO⟩:∃ O:ByteArray,(⟨(Wf.standF x f).toArray⟩:ByteArray)=O:=⟨_,rfl⟩
         have HRR:=hid (show RR.data.toList=rr by rw[← hRR])
         have HO2:=hid fun(e:Ending) (w':World) (h:LrOut (Wf.parse x n f.kind Q1.data.toList) W5.drew e w')=>(by unfold LrOut at h;rw[HQ1.out,hp] at h;dsimp only at h;rw[tx,hRR] at h;exact h:∃ b,e=.returned (.tuple #[ptr b, .string RR, .bool true])∧LV w' (fun z=>W5.drew.heap.size≤z) u b)
         have HFTK:=hid (show Wf.fieldTok t (fun k' s'=>Wf.parse x n k' s') C.data.toList=some (f,u,rr) by rw[HTOK.out,hp];rfl)
         have HTOK2:=hid (show Wf.fldsL x t (fun k' s'=>Wf.parse x n k' s') (fl gs us) (lastG gs) C.data.toList=_ by rw[HST.out,HTOK.out,hp])
         have HRL:=hid (show rr.length<Q1.size by rw[← size_list,HQ1.out];exact Wf.parse_lt (v:=u) (r:=rr) hp)
         have HOUT:=hid fun(b:Nat) (Wz wz:World) (hv:LV Wz (fun z=>W5.drew.heap.size≤z) u b) (hz:Below Wz.heap.size Wz wz)=>(by
          have h:=out n f.kind u htu _ b Wz wz hv hz hul
          rw[tx,hU] at h
          exact h:Calls Tryz.prog 66 #[ptr b] wz fun e w'=>e=.returned (.string U)∧Below wz.heap.size wz w')
         have HST5:=hid fun(wz:World) (hz:Below W.heap.size W wz)=>(by
          have h:=HST4.out wz hz
          rw[hO] at h
          exact h:Calls Tryz.prog 135 #[v, .agg #[.int .i64 G, .string FN, .string FK, .string FG]] wz fun e w'=>e=.returned (.string O)∧Below wz.heap.size wz w')
         have hUO:(U.toList==O.toList)=decide (u.print=Wf.standF x f):=by
          rw[← hU,← hO,ByteArray.toList_eq,ByteArray.toList_eq]
          by_cases he:u.print=Wf.standF x f
          ·rw[he];simp
          ·rw[decide_eq_false he,beq_eq_false_iff_ne];exact he
         have hgR:=str_guard RR
         rw[HRR.out] at hgR
         clear hp hsay hRR htu hU hO hul
         go_cut [17,18,19] from 33 to 143 (fun s17 s18 s19 wx=>∃ pb,s17=ptr pb∧s18=.string RR∧s19=.bool true∧Hid (LV wx (fun z=>W5.drew.heap.size≤z) u pb∧Below W5.heap.size W5 wx))
         case first =>
          go_region_held3 (fun w'=>w'.cell? ⟨w.heap.size,0,none⟩=some v∧w'.cell? ⟨w2.heap.size,2,none⟩=some (.string FK)) (first|exact⟨j0,j2⟩|go_keep) ((go_at_call 51;refine(HRD.out Q1 W5.drew (by omega) BW5.out.drew).mono ?_;rintro e w7 ⟨ho,hb7⟩;obtain⟨pb,rfl,hlv7⟩:=HO2.out _ _ ho;have HLV7:=hid hlv7;clear hlv7;have HB7:=hid (Below.drew (Below.refl W5.heap.size W5) |>.trans hb7);have j0:=(HB7.out.cell (p:=⟨w.heap.size,0,none⟩) VB5.out.rlt).trans VB5.out.r0;have j2:=(HB7.out.cell (p:=⟨w2.heap.size,2,none⟩) hfb5).trans y2;clear ho hb7))
          all_goals (go_wp2_with fail;go_meet)
          all_goals exact⟨_,rfl,rfl,rfl,hid ⟨HLV7.out,HB7.out⟩⟩
         case rest =>
          obtain⟨pb,rfl,rfl,rfl,hc2⟩:=hcut
          obtain⟨W7,hW7⟩:∃ W7,W7=wc:=⟨_,rfl⟩
          subst hW7
          have VB7:=hid (VB5.out.step (VB5.out.bl.trans (hc2.out.2.mono VB5.out.bl.size)) hc2.out.2 VB5.out.rlt VB5.out.lt)
          have RB7:=hid (RB5.out.step hc2.out.2)
          have TY7:=hid (TY5.out.step hc2.out.2 TY5.out.lt)
          have BW7:=hid (BW5.out.trans (hc2.out.2.mono BW5.out.size))
          have F:=hid fun(wz:World) (hz:Below W7.heap.size W7 wz)=>(by
           have hs:=hc2.out.2.size
           have hz2:=hc2.out.2.trans (hz.mono hs)
           exact⟨(hz.cell (p:=⟨w.heap.size,0,none⟩) VB7.out.rlt).trans VB7.out.r0,(hz2.cell (p:=⟨w2.heap.size,0,none⟩) hfb5).trans y0,(hz2.cell (p:=⟨w2.heap.size,1,none⟩) hfb5).trans y1,(hz2.cell (p:=⟨w2.heap.size,2,none⟩) hfb5).trans y2,(hz2.cell (p:=⟨w2.heap.size,3,none⟩) hfb5).trans y3⟩:wz.cell? ⟨w.heap.size,0,none⟩=some v∧wz.cell? ⟨w2.heap.size,0,none⟩=some (.int .i64 G)∧wz.cell? ⟨w2.heap.size,1,none⟩=some (.string FN)∧wz.cell? ⟨w2.heap.size,2,none⟩=some (.string FK)∧wz.cell? ⟨w2.heap.size,3,none⟩=some (.string FG))
          have HST7:=hid fun(wz:World) (hz:Below W7.heap.size W7 wz)=>HST5.out wz (BW7.out.trans (hz.mono BW7.out.size))
          have hfb7:w2.heap.size<W7.heap.size:=Nat.lt_of_lt_of_le hfb5 hc2.out.2.size
          have hlr7:=VB7.out.rlt
          obtain⟨q0,q1',q2',q3',q4'⟩:=F.out W7 (Below.refl _ _)
          clear y0 y1 y2 y3 hr05
          by_cases he:u.print=Wf.standF x f
          ·have HRES:=hid (RNO.out (by rw[HTOK2.out];simp only[Option.map_some];rw[if_pos (.inr he)]))
           rw[decide_eq_true he] at hUO
           clear he hgR
           have hun:undef=Value.tuple #[]:=rfl
           all_goals
            go_wp2_with fail
            first|(go_region_held_law (fun w'=>w'.cell? ⟨w.heap.size,0,none⟩=some v∧w'.cell? ⟨w2.heap.size,0,none⟩=some (.int .i64 G)∧w'.cell? ⟨w2.heap.size,1,none⟩=some (.string FN)∧w'.cell? ⟨w2.heap.size,2,none⟩=some (.string FK)∧w'.cell? ⟨w2.heap.size,3,none⟩=some (.string FG)) (first|exact⟨p0,p1,p2,p3,p4⟩|exact⟨t0,t1,t2,t3,t4⟩|go_keep) (first|(go_at_call 66;refine(HOUT.out pb W7 _ hc2.out.1 (by first|exact TS.out|(repeat (first|with_reducible exact Below.refl _ _|with_reducible refine Below.drew ?_)))).mono ?_;rintro e w8 ⟨rfl,hb8⟩;have TD:=Lib.hid (show Below W7.heap.size W7 w8 by first|exact TS.out.trans (hb8.mono TS.out.size)|(refine Below.trans (b:=_) ?_ hb8;repeat (first|with_reducible exact Below.refl _ _|with_reducible refine Below.drew ?_)));obtain⟨p0,p1,p2,p3,p4⟩:=F.out _ TD.out;clear hb8)|(go_at_call 135;refine(HST7.out _ (by first|exact TD.out|(repeat (first|with_reducible exact Below.refl _ _|with_reducible refine Below.drew ?_)))).mono ?_;rintro e w9 ⟨rfl,hb9⟩;have TS:=Lib.hid (show Below W7.heap.size W7 w9 by first|exact TD.out.trans (hb9.mono TD.out.size)|(refine Below.trans (b:=_) ?_ hb9;repeat (first|with_reducible exact Below.refl _ _|with_reducible refine Below.drew ?_)));obtain⟨t0,t1,t2,t3,t4⟩:=F.out _ TS.out;clear hb9)))|fail
            all_goals (go_wp2_with fail)
            all_goals exact bodyPost_ret (v:=.tuple #[.pointer none, .string C, .bool false]) (by simp[results,Tryz.results123,go_sem, *]) rfl ⟨LrOut.no HRES.out ⟨_,_,rfl⟩,VB7.out.bl.trans ((by first|exact TS.out.trans (TD.out.mono TS.out.size)|exact TS.out|exact TD.out:Below W7.heap.size W7 _).mono VB7.out.bl.size)⟩
          ·rw[decide_eq_false he] at hUO
           have HNE:=hid he
           clear he
           rcases hgR with⟨hl2,f1,f2⟩|⟨c3,q3,hl2,f1,f2,f3,f4,f5⟩
           ·have HRES:=hid (RNO.out (by rw[HTOK2.out,hl2];simp only[Option.map_some];rw[ite_self]))
            clear hl2
            have hun:undef=Value.tuple #[]:=rfl
            all_goals
             go_wp2_with fail
             first|(go_region_held_law (fun w'=>w'.cell? ⟨w.heap.size,0,none⟩=some v∧w'.cell? ⟨w2.heap.size,0,none⟩=some (.int .i64 G)∧w'.cell? ⟨w2.heap.size,1,none⟩=some (.string FN)∧w'.cell? ⟨w2.heap.size,2,none⟩=some (.string FK)∧w'.cell? ⟨w2.heap.size,3,none⟩=some (.string FG)) (first|exact⟨p0,p1,p2,p3,p4⟩|exact⟨t0,t1,t2,t3,t4⟩|go_keep) (first|(go_at_call 66;refine(HOUT.out pb W7 _ hc2.out.1 (by first|exact TS.out|(repeat (first|with_reducible exact Below.refl _ _|with_reducible refine Below.drew ?_)))).mono ?_;rintro e w8 ⟨rfl,hb8⟩;have TD:=Lib.hid (show Below W7.heap.size W7 w8 by first|exact TS.out.trans (hb8.mono TS.out.size)|(refine Below.trans (b:=_) ?_ hb8;repeat (first|with_reducible exact Below.refl _ _|with_reducible refine Below.drew ?_)));obtain⟨p0,p1,p2,p3,p4⟩:=F.out _ TD.out;clear hb8)|(go_at_call 135;refine(HST7.out _ (by first|exact TD.out|(repeat (first|with_reducible exact Below.refl _ _|with_reducible refine Below.drew ?_)))).mono ?_;rintro e w9 ⟨rfl,hb9⟩;have TS:=Lib.hid (show Below W7.heap.size W7 w9 by first|exact TD.out.trans (hb9.mono TD.out.size)|(refine Below.trans (b:=_) ?_ hb9;repeat (first|with_reducible exact Below.refl _ _|with_reducible refine Below.drew ?_)));obtain⟨t0,t1,t2,t3,t4⟩:=F.out _ TS.out;clear hb9)))|fail
             all_goals (go_wp2_with fail)
             all_goals exact bodyPost_ret (v:=.tuple #[.pointer none, .string C, .bool false]) (by simp[results,Tryz.results123,go_sem, *]) rfl ⟨LrOut.no HRES.out ⟨_,_,rfl⟩,VB7.out.bl.trans ((by first|exact TS.out.trans (TD.out.mono TS.out.size)|exact TS.out|exact TD.out:Below W7.heap.size W7 _).mono VB7.out.bl.size)⟩
           ·obtain⟨Q3,hQ3⟩:∃ Q3:ByteArray,(⟨q3.toArray⟩:ByteArray)=Q3:=⟨_,rfl⟩
            have kr:∀ wz,(Instr.slice 9 (.string RR) (some (.int .i64 1)) none none).run Tryz.prog wz=.ok (.string Q3) wz:=fun wz=>by
             have h:=sl_suf RR 1 f3 wz
             rw[f5,hQ3] at h
             exact h
            have HQ3:=hid (show Q3.data.toList=q3 by rw[← hQ3])
            obtain⟨b3,hb3⟩:∃ b3,c3.toNat=b3:=⟨_,rfl⟩
            rw[hb3] at f4
            have HB3:=hid hb3
            have HL2:=hid hl2
            have hq3s:Q3.size+1<Q1.size:=by
             have h:=HRL.out
             rw[hl2] at h
             rw[← size_list,HQ3.out]
             simpa using h
            clear hl2 hb3 hQ3 f5
            by_cases hcont:b3=44∨b3=125
            ·go_wp2_with fail
             go_cut [114] from 33 to 143 (fun s114 wx=>s114=.bool false∧Hid (Below W7.heap.size W7 wx))
             case first =>
              rcases hcont with rfl|rfl
              all_goals
               first|(go_region_held_law (fun w'=>w'.cell? ⟨w.heap.size,0,none⟩=some v∧w'.cell? ⟨w2.heap.size,0,none⟩=some (.int .i64 G)∧w'.cell? ⟨w2.heap.size,1,none⟩=some (.string FN)∧w'.cell? ⟨w2.heap.size,2,none⟩=some (.string FK)∧w'.cell? ⟨w2.heap.size,3,none⟩=some (.string FG)) (first|exact⟨p0,p1,p2,p3,p4⟩|exact⟨t0,t1,t2,t3,t4⟩|go_keep) (first|(go_at_call 66;refine(HOUT.out pb W7 _ hc2.out.1 (by first|exact TS.out|(repeat (first|with_reducible exact Below.refl _ _|with_reducible refine Below.drew ?_)))).mono ?_;rintro e w8 ⟨rfl,hb8⟩;have TD:=Lib.hid (show Below W7.heap.size W7 w8 by first|exact TS.out.trans (hb8.mono TS.out.size)|(refine Below.trans (b:=_) ?_ hb8;repeat (first|with_reducible exact Below.refl _ _|with_reducible refine Below.drew ?_)));obtain⟨p0,p1,p2,p3,p4⟩:=F.out _ TD.out;clear hb8)|(go_at_call 135;refine(HST7.out _ (by first|exact TD.out|(repeat (first|with_reducible exact Below.refl _ _|with_reducible refine Below.drew ?_)))).mono ?_;rintro e w9 ⟨rfl,hb9⟩;have TS:=Lib.hid (show Below W7.heap.size W7 w9 by first|exact TD.out.trans (hb9.mono TD.out.size)|(refine Below.trans (b:=_) ?_ hb9;repeat (first|with_reducible exact Below.refl _ _|with_reducible refine Below.drew ?_)));obtain⟨t0,t1,t2,t3,t4⟩:=F.out _ TS.out;clear hb9)))|fail
               all_goals (go_wp2_with fail;go_meet)
               all_goals exact⟨rfl,hid (by first|exact TS.out.trans (TD.out.mono TS.out.size)|exact TS.out|exact TD.out)⟩
             case rest =>
              obtain⟨rfl,hc3⟩:=hcut
              obtain⟨W8,hW8⟩:∃ W8,W8=wc:=⟨_,rfl⟩
              subst hW8
              have VB8:=hid (VB7.out.step (VB7.out.bl.trans (hc3.out.mono VB7.out.bl.size)) hc3.out VB7.out.rlt VB7.out.lt)
              have TY8:=hid (TY7.out.step hc3.out TY7.out.lt)
              have RB8:=hid (RB7.out.step hc3.out)
              have B58:=hid (hc2.out.2.trans (hc3.out.mono hc2.out.2.size))
              have LV8:=hid (LV.below hc2.out.1 hc3.out)
              have HX8:=hid (((Below.refl W8.heap.size W8).alloc (Nat.le_refl _) (.cells #[ix G] 3)).drew)
              obtain⟨i1,hi1,hy0,hy1,hy2⟩:=info_parts info_int
              obtain⟨i0,hi0,hz0,hz1,hz2⟩:=info_parts info_ptrV
              have HI1:=hid hi1
              have HY0:=hid hy0
              have HY1:=hid hy1
              have HY2:=hid hy2
              have HI0:=hid hi0
              have HZ0:=hid hz0
              have HZ1:=hid hz1
              have HZ2:=hid hz2
              have gg:=(F.out W8 hc3.out).2.1
              have v82:=RB8.out.v2
              have f82:=RB8.out.f2
              have hvw:w.heap.size+1+1<W8.heap.size:=VB8.out.lt
              have hbw:w.heap.size+1+1+1≤W8.heap.size:=hvw
              have hfw:w2.heap.size<W8.heap.size:=Nat.lt_of_lt_of_le hfb7 hc3.out.size
              clear q0 q1' q2' q3' q4' hi1 hy0 hy1 hy2 hi0 hz0 hz1 hz2
              rcases hcont with rfl|rfl
              ·go_wp2_with fail
               go_region_law (refine step_append_lies _ rfl (.tmp 120) (.tmp 123) 32 rfl (w.heap.size+1+1+1) 3 i1 (.int .i64 0) 1 8 Tryz.underlying32 HI1.out HY0.out HY1.out HY2.out rfl (by decide) (.slice ta m tc) m _ (by simp[Act.eval,Act.put]) ((RB8.out.ownT.alloc _).drew) ⟨W8.heap.size,0,none⟩ 1 1 [ix G] (by simp[Act.eval,Act.put]) rfl (World.news_of_block (MapKept.heap_alloc W8 (.cells #[ix G] 3)).1) (one_int _) (by decide) (by unfold maxLen;omega) (by omega) (by simp;omega) _ rfl ?_;intro g cap w4 hown4 hgrow4 hat4 hlt4;have B4:=hid (below_grown2 (base:=w.heap.size+1+1+1) hgrow4 (fun g hg=>(owns_lt RB8.out.ownT g hg).1) (by simp;omega));have u2:w4.cell? ⟨w.heap.size+1+1,2,none⟩=some (.slice ta m tc):=((B4.out.cell (p:=⟨w.heap.size+1+1,2,none⟩) (Nat.lt_succ_self _)).trans ((HX8.out.cell (p:=⟨w.heap.size+1+1,2,none⟩) hvw).trans v82));have uf:w4.frozen? ⟨w.heap.size+1+1,2,none⟩=false:=((B4.out.frozen (p:=⟨w.heap.size+1+1,2,none⟩) (Nat.lt_succ_self _)).trans ((HX8.out.frozen (p:=⟨w.heap.size+1+1,2,none⟩) hvw).trans f82));have HOWN4:=hid hown4;have HG4:=hid hgrow4;have HAT4:=hid hat4;clear hown4 hgrow4 hat4)
               all_goals
                have HP2:=hid (RB.put2 RB5.out B58.out LV8.out HX8.out HG4.out HOWN4.out HAT4.out)
                have VBT:=hid ((VB8.out.step (VB8.out.bl.trans (HX8.out.mono VB8.out.bl.size)) HX8.out VB8.out.rlt VB8.out.lt).put B4.out (by omega) (by omega) (by omega) 2 (by omega) (.slice (some ⟨g,0,none⟩) (m+1) cap))
                have BT:=hid (show Below (w.heap.size+1+1) W8 (w4.setCell ⟨w.heap.size+1+1,2,none⟩ (.slice (some ⟨g,0,none⟩) (m+1) cap)) from((HX8.out.mono (Nat.le_of_lt hvw)).trans (B4.out.mono (Nat.le_succ _))).setCell (Nat.le_refl _) _)
                obtain⟨w5,hw5⟩:∃ w5,w4.setCell ⟨w.heap.size+1+1,2,none⟩ (.slice (some ⟨g,0,none⟩) (m+1) cap)=w5:=⟨_,rfl⟩
                rw[hw5] at HP2 VBT BT ⊢
                have v53:=HP2.out.1.v3
                have f53:=HP2.out.1.f3
                have hv5:w.heap.size+1+1<w5.heap.size:=VBT.out.lt
                clear hw5 u2 uf
                go_wp2_with (at_builtin;refine wpList_append_lies _ rfl (.tmp 131) (.tmp 133) 101 rfl (w.heap.size+1+1+1) 57 i0 (.pointer none) 1 8 Tryz.underlying101 HI0.out HZ0.out HZ1.out HZ2.out rfl (by decide) (.slice a m c) m _ (by rfl) (HP2.out.1.ownK.alloc _) ⟨w5.heap.size,0,none⟩ 1 1 [ptr pb] (by rfl) rfl (World.news_of_block (MapKept.heap_alloc w5 (.cells #[ptr pb] 57)).1) (one_ptr _) (by decide) (by unfold maxLen;omega) (by omega) (by simp;omega) _ rfl ?_;intro g2 cap2 w6 hown6 hgrow6 hat6 hlt6;have B6:=hid (below_grown2 (base:=w.heap.size+1+1+1) hgrow6 (fun g hg=>(owns_lt HP2.out.1.ownK g hg).1) (by simp;omega));have HX5:=hid ((Below.refl w5.heap.size w5).alloc (Nat.le_refl _) (.cells #[ptr pb] 57));have u3:w6.cell? ⟨w.heap.size+1+1,3,none⟩=some (.slice a m c):=((B6.out.cell (p:=⟨w.heap.size+1+1,3,none⟩) (Nat.lt_succ_self _)).trans ((HX5.out.cell (p:=⟨w.heap.size+1+1,3,none⟩) hv5).trans v53));have uf3:w6.frozen? ⟨w.heap.size+1+1,3,none⟩=false:=((B6.out.frozen (p:=⟨w.heap.size+1+1,3,none⟩) (Nat.lt_succ_self _)).trans ((HX5.out.frozen (p:=⟨w.heap.size+1+1,3,none⟩) hv5).trans f53));have hv6:w.heap.size+1+1<w6.heap.size:=Nat.lt_of_lt_of_le hv5 (Nat.le_trans HX5.out.size B6.out.size);have HOWN6:=hid hown6;have HG6:=hid hgrow6;have HAT6:=hid hat6;clear hown6 hgrow6 hat6)
                have KBN:=hid (HP2.out.1.putK HX5.out HG6.out HOWN6.out HAT6.out (LV.below HP2.out.2 HX5.out))
                have VBN:=hid ((VBT.out.step (VBT.out.bl.trans (HX5.out.mono VBT.out.bl.size)) HX5.out VBT.out.rlt VBT.out.lt).put B6.out (by omega) (by omega) (by omega) 3 (by omega) (.slice (some ⟨g2,0,none⟩) (m+1) cap2))
                have BN:=hid (show Below (w.heap.size+1+1) W8 (w6.setCell ⟨w.heap.size+1+1,3,none⟩ (.slice (some ⟨g2,0,none⟩) (m+1) cap2)) from(BT.out.trans ((HX5.out.mono (Nat.le_of_lt hv5)).trans (B6.out.mono (Nat.le_succ _)))).setCell (Nat.le_refl _) _)
                have TYN:=hid (TY8.out.step BN.out (Nat.lt_succ_self _))
                have HNB:=hid (show ¬ (f.tag≤lastG gs∨u.print=Wf.standF x f) by
                 rw[HGG.out]
                 rintro(h|h)
                 ·exact hGL h
                 ·exact HNE.out h)
                have hc44:c3=44:=UInt8.toNat_inj.1 (show c3.toNat=44 from HB3.out)
                have HE:=hid (show Wf.fldsL x t (fun k' s'=>Wf.parse x n k' s') [] 0 S.data.toList=Wf.fldsL x t (fun k' s'=>Wf.parse x n k' s') (fl (gs++[G]) (us++[u])) (lastG (gs++[G])) q3 by
                 rw[hh.out.2.2.2.1,fl_more (fun k s v r h=>Wf.parse_lt (v:=v) (r:=r) h) HGL.out (f:=f) (u:=u) (q:=q3) (by rw[HFTK.out,HL2.out,hc44]) HNB.out,HGG.out])
                go_roundw
                case rel=>exact⟨Q3,some ⟨g,0,none⟩,m+1,cap,some ⟨g2,0,none⟩,cap2,gs++[G],us++[u],bs++[pb],rfl,by omega,by omega,hid ⟨VBN.out,KBN.out,TYN.out,by rw[HE.out,HQ3.out],fun d hd=>by
                 rcases List.mem_append.1 hd with h|h
                 ·exact hh.out.2.2.2.2 d h
                 ·simp at h;omega⟩⟩
                case measure=>simp only[strN];omega
              ·go_wp2_with fail
               go_region_law (refine step_append_lies _ rfl (.tmp 120) (.tmp 123) 32 rfl (w.heap.size+1+1+1) 3 i1 (.int .i64 0) 1 8 Tryz.underlying32 HI1.out HY0.out HY1.out HY2.out rfl (by decide) (.slice ta m tc) m _ (by simp[Act.eval,Act.put]) ((RB8.out.ownT.alloc _).drew) ⟨W8.heap.size,0,none⟩ 1 1 [ix G] (by simp[Act.eval,Act.put]) rfl (World.news_of_block (MapKept.heap_alloc W8 (.cells #[ix G] 3)).1) (one_int _) (by decide) (by unfold maxLen;omega) (by omega) (by simp;omega) _ rfl ?_;intro g cap w4 hown4 hgrow4 hat4 hlt4;have B4:=hid (below_grown2 (base:=w.heap.size+1+1+1) hgrow4 (fun g hg=>(owns_lt RB8.out.ownT g hg).1) (by simp;omega));have u2:w4.cell? ⟨w.heap.size+1+1,2,none⟩=some (.slice ta m tc):=((B4.out.cell (p:=⟨w.heap.size+1+1,2,none⟩) (Nat.lt_succ_self _)).trans ((HX8.out.cell (p:=⟨w.heap.size+1+1,2,none⟩) hvw).trans v82));have uf:w4.frozen? ⟨w.heap.size+1+1,2,none⟩=false:=((B4.out.frozen (p:=⟨w.heap.size+1+1,2,none⟩) (Nat.lt_succ_self _)).trans ((HX8.out.frozen (p:=⟨w.heap.size+1+1,2,none⟩) hvw).trans f82));have HOWN4:=hid hown4;have HG4:=hid hgrow4;have HAT4:=hid hat4;clear hown4 hgrow4 hat4)
               all_goals
                have HP2:=hid (RB.put2 RB5.out B58.out LV8.out HX8.out HG4.out HOWN4.out HAT4.out)
                have VBT:=hid ((VB8.out.step (VB8.out.bl.trans (HX8.out.mono VB8.out.bl.size)) HX8.out VB8.out.rlt VB8.out.lt).put B4.out (by omega) (by omega) (by omega) 2 (by omega) (.slice (some ⟨g,0,none⟩) (m+1) cap))
                have BT:=hid (show Below (w.heap.size+1+1) W8 (w4.setCell ⟨w.heap.size+1+1,2,none⟩ (.slice (some ⟨g,0,none⟩) (m+1) cap)) from((HX8.out.mono (Nat.le_of_lt hvw)).trans (B4.out.mono (Nat.le_succ _))).setCell (Nat.le_refl _) _)
                obtain⟨w5,hw5⟩:∃ w5,w4.setCell ⟨w.heap.size+1+1,2,none⟩ (.slice (some ⟨g,0,none⟩) (m+1) cap)=w5:=⟨_,rfl⟩
                rw[hw5] at HP2 VBT BT ⊢
                have v53:=HP2.out.1.v3
                have f53:=HP2.out.1.f3
                have hv5:w.heap.size+1+1<w5.heap.size:=VBT.out.lt
                clear hw5 u2 uf
                go_wp2_with (at_builtin;refine wpList_append_lies _ rfl (.tmp 131) (.tmp 133) 101 rfl (w.heap.size+1+1+1) 57 i0 (.pointer none) 1 8 Tryz.underlying101 HI0.out HZ0.out HZ1.out HZ2.out rfl (by decide) (.slice a m c) m _ (by rfl) (HP2.out.1.ownK.alloc _) ⟨w5.heap.size,0,none⟩ 1 1 [ptr pb] (by rfl) rfl (World.news_of_block (MapKept.heap_alloc w5 (.cells #[ptr pb] 57)).1) (one_ptr _) (by decide) (by unfold maxLen;omega) (by omega) (by simp;omega) _ rfl ?_;intro g2 cap2 w6 hown6 hgrow6 hat6 hlt6;have B6:=hid (below_grown2 (base:=w.heap.size+1+1+1) hgrow6 (fun g hg=>(owns_lt HP2.out.1.ownK g hg).1) (by simp;omega));have HX5:=hid ((Below.refl w5.heap.size w5).alloc (Nat.le_refl _) (.cells #[ptr pb] 57));have u3:w6.cell? ⟨w.heap.size+1+1,3,none⟩=some (.slice a m c):=((B6.out.cell (p:=⟨w.heap.size+1+1,3,none⟩) (Nat.lt_succ_self _)).trans ((HX5.out.cell (p:=⟨w.heap.size+1+1,3,none⟩) hv5).trans v53));have uf3:w6.frozen? ⟨w.heap.size+1+1,3,none⟩=false:=((B6.out.frozen (p:=⟨w.heap.size+1+1,3,none⟩) (Nat.lt_succ_self _)).trans ((HX5.out.frozen (p:=⟨w.heap.size+1+1,3,none⟩) hv5).trans f53));have hv6:w.heap.size+1+1<w6.heap.size:=Nat.lt_of_lt_of_le hv5 (Nat.le_trans HX5.out.size B6.out.size);have HOWN6:=hid hown6;have HG6:=hid hgrow6;have HAT6:=hid hat6;clear hown6 hgrow6 hat6)
                have KBN:=hid (HP2.out.1.putK HX5.out HG6.out HOWN6.out HAT6.out (LV.below HP2.out.2 HX5.out))
                have VBN:=hid ((VBT.out.step (VBT.out.bl.trans (HX5.out.mono VBT.out.bl.size)) HX5.out VBT.out.rlt VBT.out.lt).put B6.out (by omega) (by omega) (by omega) 3 (by omega) (.slice (some ⟨g2,0,none⟩) (m+1) cap2))
                have BN:=hid (show Below (w.heap.size+1+1) W8 (w6.setCell ⟨w.heap.size+1+1,3,none⟩ (.slice (some ⟨g2,0,none⟩) (m+1) cap2)) from(BT.out.trans ((HX5.out.mono (Nat.le_of_lt hv5)).trans (B6.out.mono (Nat.le_succ _)))).setCell (Nat.le_refl _) _)
                have TYN:=hid (TY8.out.step BN.out (Nat.lt_succ_self _))
                have HNB:=hid (show ¬ (f.tag≤lastG gs∨u.print=Wf.standF x f) by
                 rw[HGG.out]
                 rintro(h|h)
                 ·exact hGL h
                 ·exact HNE.out h)
                have hc125:c3=125:=UInt8.toNat_inj.1 (show c3.toNat=125 from HB3.out)
                have HRES:=hid (show Wf.parse x (n+1) (.ref nm) (123::S.data.toList)=some (.mk 82 [] 0 (fl (gs++[G]) (us++[u])),q3) by
                 rw[HP.out,hh.out.2.2.2.1,fl_end (fun k s v r h=>Wf.parse_lt (v:=v) (r:=r) h) HGL.out (f:=f) (u:=u) (q:=q3) (by rw[HFTK.out,HL2.out,hc125]) HNB.out,HGG.out]
                 rfl)
                exact bodyPost_ret (v:=.tuple #[ptr (w.heap.size+1+1), .string Q3, .bool true]) (by simp[results,Tryz.results123,go_sem, *]) rfl ⟨LrOut.yes HRES.out ⟨w.heap.size+1+1,by rw[tx,← HQ3.out],KBN.out.record (by rw[List.length_append,List.length_append,HGL.out];rfl) VBN.out HKH.out⟩,VBN.out.bl⟩
            ·have m1:((b3:Int) != 44)=true:=by rw[bne_iff_ne];omega
             have m2:((b3:Int) != 125)=true:=by rw[bne_iff_ne];omega
             have HRES:=hid (RNO.out (by
              rw[HTOK2.out,HL2.out]
              simp only[Option.map_some]
              split
              ·rfl
              ·split
               ·rename_i heq;rw[List.cons.injEq] at heq;exact absurd (.inl (by rw[← HB3.out,heq.1];rfl)) hcont
               ·rename_i heq;rw[List.cons.injEq] at heq;exact absurd (.inr (by rw[← HB3.out,heq.1];rfl)) hcont
               ·rfl))
             go_wp2_with fail
             first|(go_region_held_law (fun w'=>w'.cell? ⟨w.heap.size,0,none⟩=some v∧w'.cell? ⟨w2.heap.size,0,none⟩=some (.int .i64 G)∧w'.cell? ⟨w2.heap.size,1,none⟩=some (.string FN)∧w'.cell? ⟨w2.heap.size,2,none⟩=some (.string FK)∧w'.cell? ⟨w2.heap.size,3,none⟩=some (.string FG)) (first|exact⟨p0,p1,p2,p3,p4⟩|exact⟨t0,t1,t2,t3,t4⟩|go_keep) (first|(go_at_call 66;refine(HOUT.out pb W7 _ hc2.out.1 (by first|exact TS.out|(repeat (first|with_reducible exact Below.refl _ _|with_reducible refine Below.drew ?_)))).mono ?_;rintro e w8 ⟨rfl,hb8⟩;have TD:=Lib.hid (show Below W7.heap.size W7 w8 by first|exact TS.out.trans (hb8.mono TS.out.size)|(refine Below.trans (b:=_) ?_ hb8;repeat (first|with_reducible exact Below.refl _ _|with_reducible refine Below.drew ?_)));obtain⟨p0,p1,p2,p3,p4⟩:=F.out _ TD.out;clear hb8)|(go_at_call 135;refine(HST7.out _ (by first|exact TD.out|(repeat (first|with_reducible exact Below.refl _ _|with_reducible refine Below.drew ?_)))).mono ?_;rintro e w9 ⟨rfl,hb9⟩;have TS:=Lib.hid (show Below W7.heap.size W7 w9 by first|exact TD.out.trans (hb9.mono TD.out.size)|(refine Below.trans (b:=_) ?_ hb9;repeat (first|with_reducible exact Below.refl _ _|with_reducible refine Below.drew ?_)));obtain⟨t0,t1,t2,t3,t4⟩:=F.out _ TS.out;clear hb9)))|fail
             all_goals (go_wp2_with fail)
             all_goals exact bodyPost_ret (v:=.tuple #[.pointer none, .string C, .bool false]) (by simp[results,Tryz.results123,go_sem, *]) rfl ⟨LrOut.no HRES.out ⟨_,_,rfl⟩,VB7.out.bl.trans ((by first|exact TS.out.trans (TD.out.mono TS.out.size)|exact TS.out|exact TD.out:Below W7.heap.size W7 _).mono VB7.out.bl.size)⟩
     ·have HRES:=hid (RNO.out (by rw[HST.out,tok_eq (by rw[← HR1.out,hl1];simpa using h61)]))
      obtain⟨b1,hb1⟩:∃ b1,c1.toNat=b1:=⟨_,rfl⟩
      rw[hb1] at he4
      have m1:((b1:Int) != 61)=true:=by
       rw[bne_iff_ne]
       intro h
       exact h61 (UInt8.toNat_inj.1 (by rw[hb1];show b1=61;omega))
      clear hl1 h61 hb1 he5
      go_quiet (fail)
      all_goals (go_wp2_with fail)
      all_goals exact bodyPost_ret (v:=.tuple #[.pointer none, .string C, .bool false]) (by simp[results,Tryz.results123,go_sem, *]) rfl ⟨LrOut.no HRES.out ⟨_,_,rfl⟩,bdn DONE.out _⟩
end
end Go.Proofs.YtidjpalnmnehmaaGreatDoor
