/- Packed by pack.py: Vr Vs. -/
import Derived.Test.YtidjpalnmnehmaaGreatDoorE30
import Derived.Deep.CutRange
import Derived.Deep.AppendLies
import Derived.Deep.RegionHeld3
namespace Go.Proofs.YtidjpalnmnehmaaGreatDoor
open Go.ChangeShapes Go.WideShapes Go.ChangeAt Go.RowKit Go.Lib
set_option linter.unusedVariables false
set_option linter.unusedSimpArgs false
theorem start_rec (w:World) (rb q:Nat) (W1:World) (hW1:(w.alloc (.cells #[.int .u8 0, .string ⟨#[]⟩, .int .i64 0, .slice none 0 0] 51)).alloc (.cells #[.int .u8 q, .string ⟨#[]⟩, .int .i64 0, .slice none 0 0] 51)=W1) :
  Zero W1 w.heap.size∧Bld w W1 rb (w.heap.size+1) (w.heap.size+1+1) q none 0 [] []∧Below w.heap.size w W1:=by
 have hB:Below w.heap.size w W1:=by
  rw[← hW1]
  exact(((Below.refl _ _).alloc (Nat.le_refl _) _).alloc (by simp) _)
 subst hW1
 refine⟨⟨?_, ?_, ?_, ?_, ?_, ?_, ?_, ?_, ?_⟩,⟨Beside.of_below hB (Nat.le_refl _), ?_, ?_, ?_, ?_, ?_, ?_, ?_, ?_,World.ownsRow_nil _ _ _ _, ?_,rfl, ?_⟩,hB⟩
 all_goals first|(simp[go_sem];done)|(simp[go_sem];omega)|omega|(intro e he;simp at he)|(intro i h1;simp at h1)
section
variable (x:Wf.Sc) (rb sb:Nat) (W:World) (n:Nat) (t:Wf.Ty) (nm:List UInt8) (s:List UInt8) (w:World)
set_option maxRecDepth 20000 in
set_option maxHeartbeats 1000000 in
theorem rec_no (hf:x.find nm=some t) (lo tb:Nat) (hW:Below W.heap.size W w) (hT:TyL W lo tb t) (h82:t.sort=82) (H:Sn w rb sb s false) (h:s.head? ≠ some 123):Calls Tryz.prog 116 #[ptr rb,ptr tb] w fun e w'=>RdOut (Wf.parse x (n+1) (.ref nm) s) s rb sb w e w':=by
 have HP:=hid (Wf.parse_rec_no x n hf h82 h)
 obtain⟨htb,c0⟩:=hT.sort
 rw[h82] at c0
 have y0:w.cell? ⟨tb,0,none⟩=some (.int .u8 82):=(hW.cell (p:=⟨tb,0,none⟩) htb).trans c0
 have htw:tb<w.heap.size:=Nat.lt_of_lt_of_le htb hW.size
 have htw1:tb<w.heap.size+1:=by omega
 have hrb:=H.lt
 have HH:=hid H
 have HN:=hid fun hp=>h ((pre1 123 s).1 hp)
 have ST:=hid fun W1 h=>start_rec w rb 82 W1 h
 clear H h hW hT c0 h82 hf
 go_enter Tryz.func116,Tryz.ntmps116
 go_wp2_with (first|(go_at_call 112;have _u:=hS1;refine(take_no rb sb _ s [125] true hS1.out (.inl rfl)).mono ?_;rintro e w2 ⟨rfl,rfl⟩)|(go_at_call 113;obtain⟨z0,bl0,b0⟩:=ST.out _ rfl;refine(want_no rb sb _ s [123] false (HH.out.below b0) (.inr HN.out)).mono ?_;rintro e w1 ⟨rfl,hs1,hb1⟩;have Z1:=hid (z0.step hb1 (by omega));have BL:=hid (bl0.step hrb hb1);have hS1:=hid hs1;have HB1:=hid ((Beside.of_below b0 (Nat.le_refl _)).trans hb1);have cb2:=hs1.c2;have hbl:=hs1.lt;clear z0 bl0 b0 hs1 hb1))
 go_loopw [8] (fun s8 wr=>wr=w1) (fun _ _=>0)
 case atStart=>rfl
 case round =>
  subst hrel
  go_wp2_with (go_at_call 113;refine(want_no rb sb _ s [125] true hS1.out (.inl rfl)).mono ?_;rintro e w3 ⟨rfl,hs3,hb3⟩;have hS3:=hid hs3;have HB3:=hid (HB1.out.trans hb3);have Z3:=hid (Z1.out.step hb3 (by omega));have BL3:=hid (BL.out.step hrb hb3);clear hs3 hb3;have v0:=BL3.out.v0;have v1:=BL3.out.v1;have v2:=BL3.out.v2;have v3:=BL3.out.v3;obtain⟨zl,zr0,zr1,zr2,zr3,zf0,zf1,zf2,zf3⟩:=Z3.out;have hvl:w.heap.size+1<w3.heap.size:=(by have:=BL3.out.sz;omega))
  exact bodyPost_ret (v:=.agg #[.int .u8 82, .string ⟨#[]⟩, .int .i64 0, .slice none 0 0]) (by simp[results,Tryz.results116,go_sem, *]) rfl (by
   have hB4:∀ W4,Beside w.heap.size w3 W4→RdOut (Wf.parse x (n+1) (.ref nm) s) s rb sb w (.returned (.agg #[.int .u8 82, .string ⟨#[]⟩, .int .i64 0, .slice none 0 0])) W4:=fun W4 hb=>by
    refine⟨_, .mk 82 [] 0 [],s,rfl,VC.leaf 82 [] 0 (by omega) (by decide),HB3.out.on hb (Nat.le_refl _), .inr ⟨HP.out,Wf.bad_row0 (.inr rfl) (Nat.le_refl _),hS3.out.beside hb (by omega)⟩⟩
   refine hB4 _ ?_
   repeat (first|with_reducible exact Beside.refl _ _|with_reducible refine Beside.drew ?_|with_reducible refine Beside.trans ?_ (Beside.set _ _ _ _)))
set_option maxRecDepth 20000 in
set_option maxHeartbeats 1000000 in
theorem rec_nil (q:List UInt8) (hf:x.find nm=some t) (lo tb:Nat) (hW:Below W.heap.size W w) (hT:TyL W lo tb t) (h82:t.sort=82) (H:Sn w rb sb (123::125::q) false):Calls Tryz.prog 116 #[ptr rb,ptr tb] w fun e w'=>RdOut (Wf.parse x (n+1) (.ref nm) (123::125::q)) (123::125::q) rb sb w e w':=by
 have HP:=hid (Wf.parse_rec_nil x n hf h82 q)
 obtain⟨htb,c0⟩:=hT.sort
 rw[h82] at c0
 have y0:w.cell? ⟨tb,0,none⟩=some (.int .u8 82):=(hW.cell (p:=⟨tb,0,none⟩) htb).trans c0
 have htw:tb<w.heap.size:=Nat.lt_of_lt_of_le htb hW.size
 have htw1:tb<w.heap.size+1:=by omega
 have hrb:=H.lt
 have HH:=hid H
 have ST:=hid fun W1 h=>start_rec w rb 82 W1 h
 clear H hW hT c0 h82 hf
 go_enter Tryz.func116,Tryz.ntmps116
 go_wp2_with (first|(go_at_call 112;have _u:=hS1;refine(take_yes rb sb _ [125] q hS1.out).mono ?_;rintro e w3 ⟨rfl,hs3,hb3⟩;have hS3:=hid hs3;have HB3:=hid (HB1.out.trans hb3);have Z3:=hid (Z1.out.step hb3 (by omega));have BL3:=hid (BL.out.step hrb hb3);clear hs3 hb3;have v0:=BL3.out.v0;have v1:=BL3.out.v1;have v2:=BL3.out.v2;have v3:=BL3.out.v3;obtain⟨zl,zr0,zr1,zr2,zr3,zf0,zf1,zf2,zf3⟩:=Z3.out;have hvl:w.heap.size+1<w3.heap.size:=(by have:=BL3.out.sz;omega))|(go_at_call 113;obtain⟨z0,bl0,b0⟩:=ST.out _ rfl;refine(want_yes rb sb _ [123] (125::q) (HH.out.below b0)).mono ?_;rintro e w1 ⟨rfl,hs1,hb1⟩;have Z1:=hid (z0.step hb1 (by omega));have BL:=hid (bl0.step hrb hb1);have hS1:=hid hs1;have HB1:=hid ((Beside.of_below b0 (Nat.le_refl _)).trans hb1);have cb2:=hs1.c2;have hbl:=hs1.lt;clear z0 bl0 b0 hs1 hb1))
 all_goals exact bodyPost_ret (v:=.agg #[.int .u8 82, .string ⟨#[]⟩, .int .i64 0, .slice none 0 0]) (by simp[results,Tryz.results116,go_sem, *]) rfl (by
   have hB4:∀ W4,Beside w.heap.size w3 W4→RdOut (Wf.parse x (n+1) (.ref nm) (123::125::q)) (123::125::q) rb sb w (.returned (.agg #[.int .u8 82, .string ⟨#[]⟩, .int .i64 0, .slice none 0 0])) W4:=fun W4 hb=>by
    refine⟨_, .mk 82 [] 0 [],q,rfl,VC.leaf 82 [] 0 (by omega) (by decide),HB3.out.on hb (Nat.le_refl _), .inl ⟨HP.out,hS3.out.beside hb (by omega)⟩⟩
   refine hB4 _ ?_
   repeat (first|with_reducible exact Beside.refl _ _|with_reducible refine Beside.drew ?_|with_reducible refine Beside.trans ?_ (Beside.set _ _ _ _)))
end

theorem VC.fld {W:World} {P:Nat→Prop} {g:Nat} {v:Wf.V} {cs:List Value} (h:VC W P (.mk 61 [] g [v]) cs):∃ (b2 o2 c2 q3 g3 n3 c3:Nat) (T3:ByteArray) (a3:Option Addr),cs=[.int .u8 61, .string ⟨#[]⟩, .int .i64 g, .slice (some ⟨b2,o2,none⟩) 1 c2]∧1≤c2∧c2≤maxLen∧P b2∧b2<W.heap.size∧VC W P v [.int .u8 q3, .string T3, .int .i64 g3, .slice a3 n3 c3]∧W.cell? ⟨b2,o2,none⟩=some (.int .u8 q3)∧W.cell? ⟨b2,o2+1,none⟩=some (.string T3)∧W.cell? ⟨b2,o2+2,none⟩=some (.int .i64 g3)∧W.cell? ⟨b2,o2+3,none⟩=some (.slice a3 n3 c3):=by
 obtain⟨a,c,rfl,h1,h2,h3,h4⟩:=h.form
 rcases h4 with h4|⟨b2,o2,ha,hp,hb,hv⟩
 ·simp[Wf.V.kids] at h4
 ·simp only[Wf.V.kids,VCs] at hv
  obtain⟨⟨ks,hk,hc⟩,_⟩:=hv
  obtain⟨q3,g3,n3,c3,T3,a3,rfl⟩:=hk.cells4
  subst ha
  refine⟨b2,o2,c,q3,g3,n3,c3,T3,a3,rfl,h1,h2,hp,hb,hk,by simpa using hc 0 _ rfl,hc 1 _ rfl,hc 2 _ rfl,hc 3 _ rfl⟩
structure Rst (rb sb:Nat) (w wr:World) (cur:List UInt8) (bad:Bool) (a:Option Addr) (c:Nat) (l:List Wf.V) (es:List (List Value)):Prop where
 zero:Zero wr w.heap.size
 bld:Bld w wr rb (w.heap.size+1) (w.heap.size+1+1) 82 a c l es
 sn:Sn wr rb sb cur bad
theorem Rst.step {rb sb:Nat} {w wr w2:World} {cur cur2:List UInt8} {bad bad2:Bool} {a:Option Addr} {c:Nat} {l:List Wf.V} {es:List (List Value)} (h:Rst rb sb w wr cur bad a c l es) (hr:rb<w.heap.size) (hb:Beside rb wr w2) (hs:Sn w2 rb sb cur2 bad2):Rst rb sb w w2 cur2 bad2 a c l es :=
 ⟨h.zero.step hb (by omega),h.bld.step hr hb,hs⟩
theorem Rst.put {rb sb:Nat} {w wr:World} {cur:List UInt8} {bad0:Bool} {a:Option Addr} {c:Nat} {l:List Wf.V} {es:List (List Value)} {m:Nat} (h:Rst rb sb w wr cur bad0 a c l es) (hrb:rb<w.heap.size) {w2:World} (hb:Beside rb wr w2) (hm:es.length=m) {q2 g2 n2 c2:Nat} {T2:ByteArray} {a2:Option Addr} {v:Wf.V}
  (hvc:VC w2 (fun b=>wr.heap.size≤b) v [.int .u8 q2, .string T2, .int .i64 g2, .slice a2 n2 c2]) {wx w4:World} {g cap:Nat} (hx:Below w2.heap.size w2 wx)
  (hg:wx.grownBy w4 (Value.slice a m c).ownBlock)
  (ho:w4.ownsRow (w.heap.size+1+1) 51 4 (.slice (some ⟨g,0,none⟩) (m+1) cap) (m+1) (es.flatten++[.int .u8 q2, .string T2, .int .i64 g2, .slice a2 n2 c2]))
  (hat:(Value.slice a m c).ownBlock=some g∨g=wx.heap.size)
  {r2:List UInt8} {bad:Bool} (hs:Sn w2 rb sb r2 bad) :
  Rst rb sb w (w4.setCell ⟨w.heap.size+1,3,none⟩ (.slice (some ⟨g,0,none⟩) (m+1) cap)) r2 bad (some ⟨g,0,none⟩) cap (l++[v]) (es++[[.int .u8 q2, .string T2, .int .i64 g2, .slice a2 n2 c2]]):=by
 subst hm
 have hXb:Beside rb wr wx:=hb.trans (Beside.of_below hx (Nat.le_refl _))
 have hs0:=(h.bld.step hrb hXb).sz
 have hlo:=owns_lt h.bld.own
 have hB:Below (w.heap.size+1+1) wx w4:=below_grown2 hg (fun g hgk=>(hlo g hgk).1) hs0
 have hS:Below (w.heap.size+1) w4 (w4.setCell ⟨w.heap.size+1,3,none⟩ (.slice (some ⟨g,0,none⟩) (es.length+1) cap)):=Below.setCell (Below.refl _ w4) (p:=⟨w.heap.size+1,3,none⟩) (Nat.le_refl _) _
 refine⟨((h.zero.step hXb (by omega)).below hB (by omega)).below hS (by omega),h.bld.put hrb hXb hg (hvc.below hx) ho ?_,((hs.below hx).belowB hB (by omega)).belowB hS (by omega)⟩
 rcases hat with hat|hat
 ·exact .inl hat.symm
 ·exact .inr (by rw[← hat];rfl)
theorem bad_rec_stop {r cur q:List UInt8} {l:List Wf.V} (h1:Wf.pl l+cur.length=r.length) (h2:q.length≤cur.length):Wf.Badv (123::r) q (.mk 82 [] 0 l):=by
 cases l with
 | nil=>exact Wf.bad_row0 (.inr rfl) (by simp;omega)
 | cons v l=>exact Wf.bad_row_end (.inr rfl) (s0:=r) rfl (by simp) (by omega)
theorem fld_len {x:Wf.Sc} {n:Nat} {t:Wf.Ty} {s r:List UInt8} {f:Wf.Fd} {v:Wf.V} (h:Wf.fieldTok t (fun k s=>Wf.parse x n k s) s=some (f,v,r)):s.length=(Wf.V.mk 61 [] f.tag [v]).print.length+r.length:=by
 have h2:=(Wf.fieldTok_say (Q:=fun _ _=>True) (fun f s v r h=>⟨trivial,(Wf.parse_say _ _ _ _ _ h).2⟩) h).2.2.2
 rw[h2,Wf.print_tag]
 simp
 omega
end Go.Proofs.YtidjpalnmnehmaaGreatDoor
