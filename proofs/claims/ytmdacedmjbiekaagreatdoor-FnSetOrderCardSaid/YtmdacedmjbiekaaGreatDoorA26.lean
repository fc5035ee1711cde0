/- Packed. -/
import Derived.Test.YtmdacedmjbiekaaGreatDoorA25
import Derived.Deep.CutRange
set_option maxRecDepth 99999
set_option maxHeartbeats 40000000
set_option linter.all false
namespace Go.Proofs.YtmdacedmjbiekaaGreatDoor
open Go.ChangeShapes Go.WideShapes Go.ChangeAt Go.RowKit Go.Lib
structure Fix (w wr:World) (SG BS NM:ByteArray):Prop where
 sz:w.heap.size+2<=wr.heap.size
 k0:wr.cell? ⟨w.heap.size,0,none⟩=some (.string SG)
 k1:wr.cell? ⟨w.heap.size,1,none⟩=some (.string BS)
 k2:wr.cell? ⟨w.heap.size,2,none⟩=some (.string NM)
 r0:wr.cell? ⟨w.heap.size+1,0,none⟩=some (.int .u8 0)
 r1:wr.cell? ⟨w.heap.size+1,1,none⟩=some (.string ⟨#[]⟩)
 r2:wr.cell? ⟨w.heap.size+1,2,none⟩=some (.int .i64 0)
 r3:wr.cell? ⟨w.heap.size+1,3,none⟩=some (.slice none 0 0)
 f0:wr.frozen? ⟨w.heap.size+1,0,none⟩=false
 f1:wr.frozen? ⟨w.heap.size+1,1,none⟩=false
 f2:wr.frozen? ⟨w.heap.size+1,2,none⟩=false
 f3:wr.frozen? ⟨w.heap.size+1,3,none⟩=false
theorem Fix.same {w wr w2:World} {SG BS NM:ByteArray} (h:Fix w wr SG BS NM) (hs:wr.heap.size<=w2.heap.size) (h0:w2.heap[w.heap.size]? = wr.heap[w.heap.size]?) (h1:w2.heap[w.heap.size+1]? = wr.heap[w.heap.size+1]?):Fix w w2 SG BS NM:=by
 have cc:=fun o=>World.cell?_of_block (w:=wr) (w':=w2) (a:=⟨w.heap.size,o,none⟩) h0;have cd:=fun o=>World.cell?_of_block (w:=wr) (w':=w2) (a:=⟨w.heap.size+1,o,none⟩) h1;have cf:=fun o=>World.frozen?_of_block (w:=wr) (w':=w2) (a:=⟨w.heap.size+1,o,none⟩) h1;exact⟨Nat.le_trans h.sz hs,(cc 0).trans h.k0,(cc 1).trans h.k1,(cc 2).trans h.k2,(cd 0).trans h.r0,(cd 1).trans h.r1,(cd 2).trans h.r2,(cd 3).trans h.r3,(cf 0).trans h.f0,(cf 1).trans h.f1,(cf 2).trans h.f2,(cf 3).trans h.f3⟩
theorem Fix.step {w wr w2:World} {SG BS NM:ByteArray} {rb:Nat} (h:Fix w wr SG BS NM) (hr:rb<w.heap.size) (hb:aA rb wr w2):Fix w w2 SG BS NM :=
 h.same hb.size (hb.block _ (by have:=h.sz;omega) (by omega)) (hb.block _ (by have:=h.sz;omega) (by omega))
theorem Fix.low {w wr w2:World} {SG BS NM:ByteArray} {B:Nat} (h:Fix w wr SG BS NM) (hB:w.heap.size+2<=B) (hb:Below B wr w2):Fix w w2 SG BS NM :=
 h.same hb.size (hb.block _ (by omega)) (hb.block _ (by omega))
def kD (w:World) (rb:Nat):Nat:=match w.cell? ⟨rb,1,none⟩ with
 | some (.string s)=>s.size
 | _=>0
theorem Sn.size {W:World} {rb sb:Nat} {s:List UInt8} {bad:Bool} (h:Sn W rb sb s bad):kD W rb=s.length:=by
 unfold kD;rw[h.c1];simp[ByteArray.size]
theorem VC.cF {W:World} {P:Nat->Prop} {v:Wf.V} {cs:List Value} (h:VC W P v cs):∃ (q2 g2 n2 c2:Nat) (T2:ByteArray) (a2:Option Addr),cs=[.int .u8 q2,.string T2,.int .i64 g2,.slice a2 n2 c2]:=by
 obtain⟨a,c,h,_⟩:=h.form;exact⟨_,_,_,_,_,_,h⟩
theorem iT (q g n c:Nat) (T:ByteArray) (a:Option Addr):∀ u∈[Value.int .u8 q,Value.string T,Value.int .i64 g,Value.slice a n c],u.oneCell'=true:=by
 intro u hu;simp only[List.mem_cons,List.not_mem_nil,or_false] at hu;rcases hu with rfl|rfl|rfl|rfl <;> rfl
def Reads (x:Wf.Sc) (rb sb:Nat) (W:World) (n:Nat) (k:Wf.K):Prop:=∀ (s:List UInt8) (w:World),Below W.heap.size W w->Sn w rb sb s false->s.length<n->s.length<=400->Calls Tryz.prog 98 #[ptr rb,kV k] w fun e w'=>aS (Wf.parse x n k s) s rb sb w e w'
theorem lH:(Tryz.prog.info? 92).map (fun i=>(i.zero,i.size,i.bytes))=some (some (.agg #[.int .u8 0,tx [],.int .i64 0,.slice none 0 0]),4,56):=by kernel_rfl
theorem Sn.beside {W W':World} {rb sb b:Nat} {s:List UInt8} {bad:Bool} (h:Sn W rb sb s bad) (hb:aA b W W') (hn:rb≠b):Sn W' rb sb s bad :=
 ⟨Nat.lt_of_lt_of_le h.lt hb.size,(hb.cell (p:=⟨rb,0,none⟩) h.lt hn).trans h.c0,(hb.cell (p:=⟨rb,1,none⟩) h.lt hn).trans h.c1,(hb.cell (p:=⟨rb,2,none⟩) h.lt hn).trans h.c2,(hb.frozen (p:=⟨rb,1,none⟩) h.lt hn).trans h.f1,(hb.frozen (p:=⟨rb,2,none⟩) h.lt hn).trans h.f2⟩
theorem aA.on {rb b:Nat} {w w3 w4:World} (h:aA rb w w3) (hb:aA b w3 w4) (hn:w.heap.size<=b):aA rb w w4 :=
 ⟨hb.os.trans h.os,hb.tape.trans h.tape,hb.output.trans h.output,Nat.le_trans h.size hb.size,fun k hk hr=>(hb.block k (Nat.lt_of_lt_of_le hk h.size) (by omega)).trans (h.block k hk hr)⟩
theorem nA (w:World) (rb:Nat) (SG BS NM:ByteArray) (q:Nat) (W1:World) (hW1:((w.alloc (.cells #[.string SG,.string BS,.string NM] 57)).alloc (.cells #[.int .u8 0,.string ⟨#[]⟩,.int .i64 0,.slice none 0 0] 92)).alloc (.cells #[.int .u8 q,.string ⟨#[]⟩,.int .i64 0,.slice none 0 0] 92)=W1) :
  Fix w W1 SG BS NM/\Bld w W1 rb (w.heap.size+1+1) (w.heap.size+1+1+1) q none 0 [] []/\Below w.heap.size w W1:=by
 have hB:Below w.heap.size w W1:=by
  rw[<-hW1];exact((((Below.refl _ _).alloc (Nat.le_refl _) _).alloc (by simp) _).alloc (by simp;omega) _)
 subst hW1;refine⟨⟨?_,?_,?_,?_,?_,?_,?_,?_,?_,?_,?_,?_⟩,⟨aA.aI hB (Nat.le_refl _),?_,?_,?_,?_,?_,?_,?_,?_,World.ownsRow_nil _ _ _ _,?_,rfl,?_⟩,hB⟩;all_goals first|(simp[go_sem];done)|(simp[go_sem];omega)|omega|(intro e he;simp at he)|(intro i h1;simp at h1)
section
variable (x:Wf.Sc) (rb sb:Nat) (W:World) (n:Nat) (k:Wf.K) (s:List UInt8) (w:World)
theorem pV (H:Sn w rb sb s false) (h:s.head? ≠ some 91):Calls Tryz.prog 137 #[ptr rb,kV k] w fun e w'=>aS (Wf.parse x (n+1) (.list k) s) s rb sb w e w':=by
 have HP:=hid (Wf.qH x n k h);have hrb:=H.lt;have HH:=hid H;have HN:=hid fun hp=>h ((pre1 91 s).1 hp);obtain⟨SG,hSG⟩:∃ SG:ByteArray,(⟨k.signs.toArray⟩:ByteArray)=SG:=⟨_,rfl⟩;obtain⟨BS,hBS⟩:∃ BS:ByteArray,(⟨k.base.toArray⟩:ByteArray)=BS:=⟨_,rfl⟩;obtain⟨NM,hNM⟩:∃ NM:ByteArray,(⟨k.name.toArray⟩:ByteArray)=NM:=⟨_,rfl⟩;simp only[kV,tx,hSG,hBS,hNM];have ST:=hid fun W1 h=>nA w rb SG BS NM 91 W1 h;clear H h hSG hBS hNM;go_enter Tryz.func137,Tryz.ntmps137;go_wp2_with (first|(go_at_call 139;have _u:=hS1;refine(dJ rb sb _ s [93] true hS1.out (.inl rfl)).mono ?_;rintro e w2 ⟨rfl,rfl⟩)|(go_at_call 140;obtain⟨fx0,bl0,b0⟩:=ST.out _ rfl;refine(bS rb sb _ s [91] false (HH.out.below b0) (.inr HN.out)).mono ?_;rintro e w1 ⟨rfl,hs1,hb1⟩;have FX:=hid (fx0.step hrb hb1);have BL:=hid (bl0.step hrb hb1);have hS1:=hid hs1;have hB1:=hid ((aA.aI b0 (Nat.le_refl _)).trans hb1);have hb2:=hs1.c2;have hbl:=hs1.lt;clear fx0 bl0 b0 hs1 hb1))
 go_loopw [12] (fun s12 wr=>wr=w1) (fun _ _=>0)
 case atStart=>rfl
 case round =>
  subst hrel;have v0:=BL.out.v0;have v1:=BL.out.v1;have v2:=BL.out.v2;have v3:=BL.out.v3;obtain⟨fs,fk0,fk1,fk2,fr0,fr1,fr2,fr3,ff0,ff1,ff2,ff3⟩:=FX.out;go_wp2_with (go_at_call 140;refine(bS rb sb _ s [93] true hS1.out (.inl rfl)).mono ?_;rintro e w3 ⟨rfl,hs3,hb3⟩;have hS3:=hid hs3;have hB3:=hid (hB1.out.trans hb3);have FX3:=hid (FX.out.step hrb hb3);have BL3:=hid (BL.out.step hrb hb3);clear hs3 hb3;have v0:=BL3.out.v0;have v1:=BL3.out.v1;have v2:=BL3.out.v2;have v3:=BL3.out.v3;obtain⟨fs,fk0,fk1,fk2,fr0,fr1,fr2,fr3,ff0,ff1,ff2,ff3⟩:=FX3.out;have hvl:w.heap.size+1+1<w3.heap.size:=(by have:=BL3.out.sz;omega))
  exact bodyPost_ret (v:=.agg #[.int .u8 91,.string ⟨#[]⟩,.int .i64 0,.slice none 0 0]) (by simp[results,Tryz.results137,go_sem, *]) rfl (by
   have hB4:∀ W4,aA (w.heap.size+1) w3 W4->aS (Wf.parse x (n+1) (.list k) s) s rb sb w (.returned (.agg #[.int .u8 91,.string ⟨#[]⟩,.int .i64 0,.slice none 0 0])) W4:=fun W4 hb=>by
    refine⟨_,.mk 91 [] 0 [],s,rfl,VC.leaf 91 [] 0 (by omega) (by decide),hB3.out.on hb (by omega),.inr ⟨HP.out,Wf.nB (.inl rfl) (Nat.le_refl _),hS3.out.beside hb (by omega)⟩⟩
   refine hB4 _ ?_;repeat (first|with_reducible exact aA.refl _ _|with_reducible refine aA.drew ?_|with_reducible refine aA.trans ?_ (aA.set _ _ _ _)))
theorem a8E (q:List UInt8) (H:Sn w rb sb (91::93::q) false):Calls Tryz.prog 137 #[ptr rb,kV k] w fun e w'=>aS (Wf.parse x (n+1) (.list k) (91::93::q)) (91::93::q) rb sb w e w':=by
 have HP:=hid (Wf.vE x n k q);have hrb:=H.lt;have HH:=hid H;obtain⟨SG,hSG⟩:∃ SG:ByteArray,(⟨k.signs.toArray⟩:ByteArray)=SG:=⟨_,rfl⟩;obtain⟨BS,hBS⟩:∃ BS:ByteArray,(⟨k.base.toArray⟩:ByteArray)=BS:=⟨_,rfl⟩;obtain⟨NM,hNM⟩:∃ NM:ByteArray,(⟨k.name.toArray⟩:ByteArray)=NM:=⟨_,rfl⟩;have HKV:=hid (show kV k=.agg #[.string SG,.string BS,.string NM] by simp only[kV,tx,hSG,hBS,hNM]);simp only[kV,tx,hSG,hBS,hNM];have ST:=hid fun W1 h=>nA w rb SG BS NM 91 W1 h;clear H hSG hBS hNM;go_enter Tryz.func137,Tryz.ntmps137;go_wp2_with (first|(go_at_call 139;have _u:=hS1;refine(fT rb sb _ [93] q hS1.out).mono ?_;rintro e w2 ⟨rfl,hs2,hb2⟩;have hS2:=hid hs2;have hB2:=hid (hB1.out.trans hb2);have FX2:=hid (FX.out.step hrb hb2);have BL2:=hid (BL.out.step hrb hb2);clear hs2 hb2;have v0:=BL2.out.v0;have v1:=BL2.out.v1;have v2:=BL2.out.v2;have v3:=BL2.out.v3;obtain⟨fs,fk0,fk1,fk2,fr0,fr1,fr2,fr3,ff0,ff1,ff2,ff3⟩:=FX2.out;have hvl:w.heap.size+1+1<w2.heap.size:=(by have:=BL2.out.sz;omega))|(go_at_call 140;obtain⟨fx0,bl0,b0⟩:=ST.out _ rfl;refine(bW rb sb _ [91] (93::q) (HH.out.below b0)).mono ?_;rintro e w1 ⟨rfl,hs1,hb1⟩;have FX:=hid (fx0.step hrb hb1);have BL:=hid (bl0.step hrb hb1);have hS1:=hid hs1;have hB1:=hid ((aA.aI b0 (Nat.le_refl _)).trans hb1);have hb2:=hs1.c2;have hbl:=hs1.lt;clear fx0 bl0 b0 hs1 hb1))
 exact bodyPost_ret (v:=.agg #[.int .u8 91,.string ⟨#[]⟩,.int .i64 0,.slice none 0 0]) (by simp[results,Tryz.results137,go_sem, *]) rfl (by
  have hB4:∀ W4,aA (w.heap.size+1) w2 W4->aS (Wf.parse x (n+1) (.list k) (91::93::q)) (91::93::q) rb sb w (.returned (.agg #[.int .u8 91,.string ⟨#[]⟩,.int .i64 0,.slice none 0 0])) W4:=fun W4 hb=>by
   refine⟨_,.mk 91 [] 0 [],q,rfl,VC.leaf 91 [] 0 (by omega) (by decide),hB2.out.on hb (by omega),.inl ⟨HP.out,hS2.out.beside hb (by omega)⟩⟩
  refine hB4 _ ?_;repeat (first|with_reducible exact aA.refl _ _|with_reducible refine aA.drew ?_|with_reducible refine aA.trans ?_ (aA.set _ _ _ _)))
structure Lst (x:Wf.Sc) (n:Nat) (k:Wf.K) (rb sb:Nat) (w wr:World) (SG BS NM:ByteArray) (r cur:List UInt8) (bad:Bool) (a:Option Addr) (c:Nat) (l:List Wf.V) (es:List (List Value)):Prop where
 fix:Fix w wr SG BS NM
 bld:Bld w wr rb (w.heap.size+1+1) (w.heap.size+1+1+1) 91 a c l es
 sn:Sn wr rb sb cur bad
theorem Bld.out {w wr:World} {rb vb base q:Nat} {a:Option Addr} {c:Nat} {l:List Wf.V} {es:List (List Value)} {W4:World} {rs m:Nat} (h:Bld w wr rb vb base q a c l es) (hb:aA rs wr W4) (hrs:w.heap.size<=rs) (hrl:rs<base) (hm:es.length=m) (what:UInt8) (text:List UInt8) (tag:Nat) (hsh:iU what tag l):VC W4 (fun b=>w.heap.size<=b) (.mk what text tag l) [.int .u8 what.toNat,tx text,.int .i64 tag,.slice a m c]/\aA rb w W4:=by
 subst hm;obtain⟨b,hb1,hrow⟩:=RowK.bJ h.own h.he;have h1:=h.vw;have h2:=h.vlt;refine⟨?_,h.fr.on hb hrs⟩;exact VC.keep (P:=fun b=>base<=b) (fun b hp hlt=>⟨by omega,hb.block b hlt (by omega)⟩) hb.size _ _ (VC.row what text tag hsh hrow (.inr hb1) h.hl fun i g1 g2=>(h.vals i g1 g2).mono fun b hp _=>hp.1)
theorem Lst.put {x:Wf.Sc} {n:Nat} {k:Wf.K} {rb sb:Nat} {w wr:World} {SG BS NM:ByteArray} {r cur:List UInt8} {bad0:Bool} {a:Option Addr} {c:Nat} {l:List Wf.V} {es:List (List Value)} {m:Nat} (h:Lst x n k rb sb w wr SG BS NM r cur bad0 a c l es) (hrb:rb<w.heap.size) {w2:World} (hb:aA rb wr w2) (hm:es.length=m) {q2 g2 n2 c2:Nat} {T2:ByteArray} {a2:Option Addr} {v:Wf.V}
  (hvc:VC w2 (fun b=>wr.heap.size<=b) v [.int .u8 q2,.string T2,.int .i64 g2,.slice a2 n2 c2]) {w4:World} {g cap:Nat}
  (hg:(w2.alloc (.cells #[.int .u8 q2,.string T2,.int .i64 g2,.slice a2 n2 c2] 92)).grownBy w4 (Value.slice a m c).ownBlock)
  (ho:w4.ownsRow (w.heap.size+1+1+1) 92 4 (.slice (some ⟨g,0,none⟩) (m+1) cap) (m+1) (es.flatten++[.int .u8 q2,.string T2,.int .i64 g2,.slice a2 n2 c2]))
  (hat:(Value.slice a m c).ownBlock=some g\/g=(w2.alloc (.cells #[.int .u8 q2,.string T2,.int .i64 g2,.slice a2 n2 c2] 92)).heap.size)
  {r2:List UInt8} {bad:Bool} (hs:Sn w2 rb sb r2 bad) :
  Lst x n k rb sb w (w4.setCell ⟨w.heap.size+1+1,3,none⟩ (.slice (some ⟨g,0,none⟩) (m+1) cap)) SG BS NM r r2 bad (some ⟨g,0,none⟩) cap (l++[v]) (es++[[.int .u8 q2,.string T2,.int .i64 g2,.slice a2 n2 c2]]):=by
 subst hm;obtain⟨WX,hWX⟩:∃ WX,w2.alloc (.cells #[.int .u8 q2,.string T2,.int .i64 g2,.slice a2 n2 c2] 92)=WX:=⟨_,rfl⟩;rw[hWX] at hg hat;have hX:Below w2.heap.size w2 WX:=by rw[<-hWX];exact(Below.refl _ _).alloc (Nat.le_refl _) _
 have hXb:aA rb wr WX:=hb.trans (aA.aI hX (Nat.le_refl _));have hs0:=(h.bld.step hrb hXb).sz;have hlo:=aL h.bld.own;have hB:Below (w.heap.size+1+1+1) WX w4:=aU hg (fun g hgk=>(hlo g hgk).1) hs0;have hS:Below (w.heap.size+1+1) w4 (w4.setCell ⟨w.heap.size+1+1,3,none⟩ (.slice (some ⟨g,0,none⟩) (es.length+1) cap)):=Below.setCell (Below.refl _ w4) (p:=⟨w.heap.size+1+1,3,none⟩) (Nat.le_refl _) _;refine⟨((h.fix.step hrb hXb).low (by omega) hB).low (Nat.le_refl _) hS,h.bld.put hrb hXb hg (hvc.below hX) ho ?_,((hs.below hX).iD hB (by omega)).iD hS (by omega)⟩;rcases hat with hat|hat
 ·exact .inl hat.symm
 ·exact .inr (by rw[<-hat];rfl)
theorem pC (r:List UInt8) (hr:r.head? ≠ some 93) (hW:Below W.heap.size W w) (hWr:W.heap.size<=rb) (IH:Reads x rb sb W n k) (hn:r.length<n) (h400:r.length<=400) (H:Sn w rb sb (91::r) false):Calls Tryz.prog 137 #[ptr rb,kV k] w fun e w'=>aS (Wf.parse x (n+1) (.list k) (91::r)) (91::r) rb sb w e w':=by
 have HP:=hid (Wf.uB x n k hr);have HN:=hid fun hp=>hr ((pre1 93 r).1 hp);have HW:=hid hW;have hrb:=H.lt;have HH:=hid H;obtain⟨SG,hSG⟩:∃ SG:ByteArray,(⟨k.signs.toArray⟩:ByteArray)=SG:=⟨_,rfl⟩;obtain⟨BS,hBS⟩:∃ BS:ByteArray,(⟨k.base.toArray⟩:ByteArray)=BS:=⟨_,rfl⟩;obtain⟨NM,hNM⟩:∃ NM:ByteArray,(⟨k.name.toArray⟩:ByteArray)=NM:=⟨_,rfl⟩;have HKV:=hid (show kV k=.agg #[.string SG,.string BS,.string NM] by simp only[kV,tx,hSG,hBS,hNM]);simp only[kV,tx,hSG,hBS,hNM];have ST:=hid fun W1 h=>nA w rb SG BS NM 91 W1 h;have hIH2:∀ (s:List UInt8) (w:World),Below W.heap.size W w->Sn w rb sb s false->s.length<n->s.length<=400->Calls Tryz.prog 98 #[ptr rb,.agg #[.string SG,.string BS,.string NM]] w fun e w'=>aS (Wf.parse x n k s) s rb sb w e w':=by rw[<-HKV.out];exact IH
 have HIH2:=hid hIH2;clear H hSG hBS hNM IH hr hW hIH2;go_enter Tryz.func137,Tryz.ntmps137;go_wp2_with (first|(go_at_call 139;have _u:=hS1;refine(dJ rb sb _ r [93] false hS1.out (.inr HN.out)).mono ?_;rintro e w2 ⟨rfl,rfl⟩)|(go_at_call 140;obtain⟨fx0,bl0,b0⟩:=ST.out _ rfl;refine(bW rb sb _ [91] r (HH.out.below b0)).mono ?_;rintro e w1 ⟨rfl,hs1,hb1⟩;have FX:=hid (fx0.step hrb hb1);have BL:=hid (bl0.step hrb hb1);have hS1:=hid hs1;have hB1:=hid ((aA.aI b0 (Nat.le_refl _)).trans hb1);have hb2:=hs1.c2;have hbl:=hs1.lt;clear fx0 bl0 b0 hs1 hb1))
 go_loopw [12] (fun s12 wr=>∃ (cur:List UInt8) (a:Option Addr) (c:Nat) (l:List Wf.V) (es:List (List Value)),Hid (Lst x n k rb sb w wr SG BS NM r cur false a c l es/\Wf.pl l+cur.length=r.length/\Wf.itemsL (Wf.parse x n k) [] r=Wf.itemsL (Wf.parse x n k) l cur)) (fun _ wr=>kD wr rb)
 case atStart=>exact⟨r,none,0,[],[],hid ⟨⟨FX.out,BL.out,hS1.out⟩,by rw[Wf.qU,Nat.zero_add],rfl⟩⟩
 case round =>
  obtain⟨cur,a,c,l,es,hh⟩:=hrel;have hl400:es.length<=400:=by
   have h1:=hh.out.1.bld.hl;have h2:=hh.out.2.1;unfold Wf.pl at h2;omega
  have hcn:cur.length<n:=by have:=hh.out.2.1;omega
  have hc400:cur.length<=400:=by have:=hh.out.2.1;omega
  obtain⟨m,hm⟩:∃ m,es.length=m:=⟨_,rfl⟩;have HM:=hid hm;have hv3:=hh.out.1.bld.v3;have hvf3:=hh.out.1.bld.f3;rw[hm] at hv3 hl400;have hs2:=hh.out.1.sn.c2;obtain⟨fs,fk0,fk1,fk2,fr0,fr1,fr2,fr3,ff0,ff1,ff2,ff3⟩:=hh.out.1.fix;have hbw:w.heap.size+1+1<wr.heap.size:=by have:=hh.out.1.bld.sz;omega
  have hrw:rb<wr.heap.size:=hh.out.1.sn.lt;clear hm;go_upto_region 6 with fail
  go_cut [] from 12 to 27 (fun wx=>∃ (cur2:List UInt8) (bad2:Bool) (a2:Option Addr) (c2:Nat) (v:Wf.V) (es2:List (List Value)),Hid (Lst x n k rb sb w wx SG BS NM r cur2 bad2 a2 c2 (l++[v]) es2/\((bad2=false/\Wf.parse x n k cur=some (v,cur2))\/(bad2=true/\Wf.parse x n k cur=none/\Wf.Badv cur cur2 v))))
  case first =>
   have HOWN:=hid (show wr.ownsRow (w.heap.size+1+1+1) 92 4 (.slice a m c) m es.flatten by have h:=hh.out.1.bld.own;rw[HM.out] at h;exact h);have BW:=hid (aA.below HW.out HW.out.size hWr hh.out.1.bld.fr);obtain⟨i0,hi0,hz0,hz1,hz2⟩:=info_parts lH;have HI0:=hid hi0;have HZ0:=hid hz0;have HZ1:=hid hz1;have HZ2:=hid hz2;clear hi0 hz0 hz1 hz2;have hrb2:rb<w.heap.size+1+1+1:=(by omega);have hvn:w.heap.size+1+1≠rb:=(by omega);go_region_law (first|(refine step_append_lies _ rfl (.tmp 18) (.tmp 22) 90 rfl (w.heap.size+1+1+1) 92 i0 (.agg #[.int .u8 0,tx [],.int .i64 0,.slice none 0 0]) 4 56 Tryz.underlying90 HI0.out HZ0.out HZ1.out HZ2.out rfl (by decide) (.slice a m c) m _ (by simp[Act.eval,Act.put]) ((gX HOWN.out HB2.out hrb2).alloc _) ⟨w2.heap.size,0,none⟩ 1 1 [.int .u8 q2,.string T2,.int .i64 g2,.slice a2 n2 c2] (by simp[Act.eval,Act.put]) rfl (World.news_of_block (MapKept.heap_alloc w2 (.cells #[.int .u8 q2,.string T2,.int .i64 g2,.slice a2 n2 c2] 92)).1) (iT _ _ _ _ _ _) (by decide) (by unfold maxLen;omega) (by omega) (by simp;omega) _ rfl ?_;intro g cap w4 hown4 hgrow4 hat4 hlt4;have B4:=hid (aU (base:=w.heap.size+1+1+1) hgrow4 (fun g hg=>(aL HOWN.out g hg).1) (by simp;omega));have z3:w4.cell? ⟨w.heap.size+1+1,3,none⟩=some (.slice a m c):=((B4.out.cell (p:=⟨w.heap.size+1+1,3,none⟩) (Nat.lt_succ_self _)).trans ((World.cell?_alloc_lt w2 _ ⟨w.heap.size+1+1,3,none⟩ hvw2).trans y3));have zf:w4.frozen? ⟨w.heap.size+1+1,3,none⟩=false:=((B4.out.frozen (p:=⟨w.heap.size+1+1,3,none⟩) (Nat.lt_succ_self _)).trans ((((Below.refl w2.heap.size w2).alloc (Nat.le_refl _) _).frozen (p:=⟨w.heap.size+1+1,3,none⟩) hvw2).trans yf));have HOWN4:=hid hown4;have HG4:=hid hgrow4;have HAT4:=hid hat4;clear hown4 hgrow4 hat4)|((try go_simp);go_at_call 98;refine(HIH2.out cur wr.drew (BW.out.trans ⟨rfl,rfl,rfl,Nat.le_refl _,fun _ _=>rfl⟩) (hh.out.1.sn.drewN 1) hcn hc400).mono ?_;rintro e w2 ⟨cs,v,r2,rfl,hvc,hbs,ho⟩;obtain⟨q2,g2,n2,c2,T2,a2,rfl⟩:=hvc.cF;have HVC:=hid hvc;have HO:=hid ho;have HB2:=hid ((aA.drew (aA.refl rb wr)).trans hbs);have y3:=(HB2.out.cell (p:=⟨w.heap.size+1+1,3,none⟩) hbw hvn).trans hv3;have yf:=(HB2.out.frozen (p:=⟨w.heap.size+1+1,3,none⟩) hbw hvn).trans hvf3;have hvw2:=Nat.lt_of_lt_of_le hbw HB2.out.size;clear hvc ho hbs))
   all_goals (go_wp2_with fail;go_meet)
   all_goals (rcases HO.out with⟨hp,hs⟩|⟨hp,hb,hs⟩)
   all_goals first|exact⟨r2,false,_,cap,v,_,hid ⟨Lst.put hh.out.1 hrb HB2.out HM.out HVC.out HG4.out HOWN4.out HAT4.out hs,.inl ⟨rfl,hp⟩⟩⟩|exact⟨r2,true,_,cap,v,_,hid ⟨Lst.put hh.out.1 hrb HB2.out HM.out HVC.out HG4.out HOWN4.out HAT4.out hs,.inr ⟨rfl,hp,hb⟩⟩⟩
  case rest =>
   clear hv3 hvf3 hs2 fs fk0 fk1 fk2 fr0 fr1 fr2 fr3 ff0 ff1 ff2 ff3 hbw hrw;obtain⟨cur2,bad2,a2,c2,v,es2,hh2⟩:=hcut;obtain⟨m2,hm2⟩:∃ m,es2.length=m:=⟨_,rfl⟩;have hm400:m2<=401:=by
    have h1:=hh2.out.1.bld.hl;have h2:=hh.out.1.bld.hl;have h3:=HM.out;simp at h1;omega
   have HM2:=hid hm2;have HS2:=hid hh2.out.1.sn;have HL2:=hid (show(l++[v]).length=m2 by rw[<-hh2.out.1.bld.hl,hm2]);have HST:=hid (Wf.itemsL_step (fun s v r h=>Wf.dV (v:=v) (r:=r) h) l cur (p:=Wf.parse x n k));clear hm2;have hcase:(∃ p,bad2=false/\cur2=44::p)\/Hid (bad2=true\/¬ [44] <+: cur2):=by
    cases bad2 with
    | true=>exact .inr (hid (.inl rfl))
    | false =>
     by_cases h4:[44] <+: cur2
     ·obtain⟨p,hp⟩:=h4;exact .inl ⟨p,rfl,hp.symm⟩
     ·exact .inr (hid (.inr h4))
   rcases hcase with⟨p,rfl,rfl⟩|HC
   ·have hp:Wf.parse x n k cur=some (v,44::p):=by
     rcases hh2.out.2 with⟨_,hp⟩|⟨hb,_⟩
     ·exact hp
     ·cases hb
    have hsay:=(Wf.dR n k cur v _ hp).2;have hlen:cur.length=v.print.length+(p.length+1):=(by rw[hsay];simp);have HE:=hid (show Wf.pl (l++[v])+p.length=r.length/\Wf.itemsL (Wf.parse x n k) [] r=Wf.itemsL (Wf.parse x n k) (l++[v]) p by
     refine⟨?_,?_⟩
     ·rw[Wf.iQ];have:=hh.out.2.1;omega
     ·rw[hh.out.2.2,HST.out,hp];rfl)
    clear hp hsay;go_wp2_with (go_at_call 139;refine(fT rb sb _ [44] p HS2.out).mono ?_;rintro e w3 ⟨rfl,hs3,hb3⟩;have HS3:=hid hs3;have HB3:=hid hb3;clear hs3 hb3)
    go_roundw
    case rel=>exact⟨p,a2,c2,l++[v],es2,hid ⟨⟨hh2.out.1.fix.step hrb HB3.out,hh2.out.1.bld.step hrb HB3.out,HS3.out⟩,HE.out⟩⟩
    case measure =>
     rw[HS3.out.size,hh.out.1.sn.size];omega
   ·have hcase2:(∃ p,bad2=false/\cur2=93::p)\/Hid (bad2=true\/¬ [93] <+: cur2):=by
     cases bad2 with
     | true=>exact .inr (hid (.inl rfl))
     | false =>
      by_cases h4:[93] <+: cur2
      ·obtain⟨p,hp⟩:=h4;exact .inl ⟨p,rfl,hp.symm⟩
      ·exact .inr (hid (.inr h4))
    have HSAY:=hid fun(hb:bad2=false) (q:List UInt8) (hq:q.length<=cur2.length)=>(show Wf.Badv (91::r) q (.mk 91 [] 0 (l++[v])) by
     rcases hh2.out.2 with⟨_,hp⟩|⟨hb2,_⟩
     ·have hlen:=congrArg List.length (Wf.dR n k cur v _ hp).2
      rw[List.length_append] at hlen;have h1:=hh.out.2.1;exact Wf.mL (.inl rfl) (s0:=r) rfl (by simp) (by rw[Wf.iQ];omega)
     ·rw[hb] at hb2;cases hb2)
    rcases hcase2 with⟨p,rfl,rfl⟩|HC2
    ·have HRES:=hid (show Wf.parse x (n+1) (.list k) (91::r)=if m2<=20 then some (.mk 91 [] 0 (l++[v]),p) else none by
      have hp:Wf.parse x n k cur=some (v,93::p):=by
       rcases hh2.out.2 with⟨_,hp⟩|⟨hb,_⟩
       ·exact hp
       ·cases hb
      have hl:l.length+1=m2:=(by have:=HL2.out;simpa using this);rw[HP.out,hh.out.2.2,HST.out,hp];dsimp only;rw[hl];by_cases h20:m2<=20
      ·simp[h20]
      ·simp[h20])
     have HBAD:=hid (HSAY.out rfl p (by simp));go_wp2_with (first|(go_at_call 140;refine(bW rb sb _ [93] p HS2.out).mono ?_;rintro e w3 ⟨rfl,hs3,hb3⟩;have HS3:=hid hs3;have HB3:=hid hb3;have FX3:=hid (hh2.out.1.fix.step hrb hb3);have BL3:=hid (hh2.out.1.bld.step hrb hb3);have hs3c:=hs3.c2;have hs3f:=hs3.f2;have hs3l:=hs3.lt;clear hs3 hb3;have v0:=BL3.out.v0;have v1:=BL3.out.v1;have v2:=BL3.out.v2;have v3:=BL3.out.v3;rw[HM2.out] at v3;obtain⟨fs,fk0,fk1,fk2,fr0,fr1,fr2,fr3,ff0,ff1,ff2,ff3⟩:=FX3.out;have hvl:w.heap.size+1+1<w3.heap.size:=(by have:=BL3.out.sz;omega))|(go_at_call 139;refine(dJ rb sb _ (93::p) [44] false HS2.out HC.out).mono ?_;rintro e w2 ⟨rfl,rfl⟩))
     all_goals exact bodyPost_ret (v:=.agg #[.int .u8 91,.string ⟨#[]⟩,.int .i64 0,.slice a2 m2 c2]) (by simp[results,Tryz.results137,go_sem, *]) rfl (by
      have hR:∀ wx W4 bad3,Bld w wx rb (w.heap.size+1+1) (w.heap.size+1+1+1) 91 a2 c2 (l++[v]) es2->Sn wx rb sb p bad3->(bad3=false/\m2<=20\/bad3=true/\¬ m2<=20)->aA (w.heap.size+1) wx W4->aS (Wf.parse x (n+1) (.list k) (91::r)) (91::r) rb sb w (.returned (.agg #[.int .u8 91,.string ⟨#[]⟩,.int .i64 0,.slice a2 m2 c2])) W4:=fun wx W4 bad3 bl sn hm hb=>by
       obtain⟨hv,hf⟩:=bl.out hb (by omega) (by omega) HM2.out 91 [] 0 ⟨by omega,fun _=>.inl rfl,fun h=>absurd h (by decide)⟩;have sn4:=sn.beside hb (by omega);refine⟨_,.mk 91 [] 0 (l++[v]),p,rfl,hv,hf,?_⟩;rcases hm with⟨rfl,h20⟩|⟨rfl,h20⟩
       ·exact .inl ⟨by rw[HRES.out,if_pos h20],sn4⟩
       ·exact .inr ⟨by rw[HRES.out,if_neg h20],HBAD.out,sn4⟩
      first
      | (refine hR w3 _ false BL3.out HS3.out (.inl ⟨rfl,by omega⟩) ?_;(repeat (first|with_reducible exact aA.refl _ _|with_reducible refine aA.drew ?_|with_reducible refine aA.trans ?_ (aA.set _ _ _ _)));done)
      | (refine hR (w3.setCell ⟨rb,2,none⟩ (.bool true)) _ true (BL3.out.step hrb (aA.set _ _ _ _)) HS3.out.fail (.inr ⟨rfl,by omega⟩) ?_;(repeat (first|with_reducible exact aA.refl _ _|with_reducible refine aA.drew ?_|with_reducible refine aA.trans ?_ (aA.set _ _ _ _)));done))
    ·have HRES:=hid (show Wf.parse x (n+1) (.list k) (91::r)=none/\Wf.Badv (91::r) cur2 (.mk 91 [] 0 (l++[v])) by
      rcases hh2.out.2 with⟨hb,hp⟩|⟨hb,hp,hbv⟩
      ·have h44:¬ [44] <+: cur2:=by
        rcases HC.out with h|h
        ·rw[hb] at h;cases h
        ·exact h
       have h93:¬ [93] <+: cur2:=by
        rcases HC2.out with h|h
        ·rw[hb] at h;cases h
        ·exact h
       refine⟨?_,HSAY.out hb cur2 (Nat.le_refl _)⟩;rw[HP.out,hh.out.2.2,HST.out,hp];dsimp only;split
       ·exact absurd ⟨_,rfl⟩ h44
       ·exact absurd ⟨_,rfl⟩ h93
       ·rfl
      ·exact⟨by rw[HP.out,hh.out.2.2,HST.out,hp];rfl,Wf.uM (.inl rfl) (s0:=r) (s1:=cur) rfl hh.out.2.1 hbv⟩)
     go_wp2_with (first|(go_at_call 140;refine(bS rb sb _ cur2 [93] bad2 HS2.out HC2.out).mono ?_;rintro e w3 ⟨rfl,hs3,hb3⟩;have HS3:=hid hs3;have HB3:=hid hb3;have FX3:=hid (hh2.out.1.fix.step hrb hb3);have BL3:=hid (hh2.out.1.bld.step hrb hb3);have hs3c:=hs3.c2;have hs3f:=hs3.f2;have hs3l:=hs3.lt;clear hs3 hb3;have v0:=BL3.out.v0;have v1:=BL3.out.v1;have v2:=BL3.out.v2;have v3:=BL3.out.v3;rw[HM2.out] at v3;obtain⟨fs,fk0,fk1,fk2,fr0,fr1,fr2,fr3,ff0,ff1,ff2,ff3⟩:=FX3.out;have hvl:w.heap.size+1+1<w3.heap.size:=(by have:=BL3.out.sz;omega))|(go_at_call 139;refine(dJ rb sb _ cur2 [44] bad2 HS2.out HC.out).mono ?_;rintro e w2 ⟨rfl,rfl⟩))
     all_goals exact bodyPost_ret (v:=.agg #[.int .u8 91,.string ⟨#[]⟩,.int .i64 0,.slice a2 m2 c2]) (by simp[results,Tryz.results137,go_sem, *]) rfl (by
      have hR:∀ wx W4,Bld w wx rb (w.heap.size+1+1) (w.heap.size+1+1+1) 91 a2 c2 (l++[v]) es2->Sn wx rb sb cur2 true->aA (w.heap.size+1) wx W4->aS (Wf.parse x (n+1) (.list k) (91::r)) (91::r) rb sb w (.returned (.agg #[.int .u8 91,.string ⟨#[]⟩,.int .i64 0,.slice a2 m2 c2])) W4:=fun wx W4 bl sn hb=>by
       obtain⟨hv,hf⟩:=bl.out hb (by omega) (by omega) HM2.out 91 [] 0 ⟨by omega,fun _=>.inl rfl,fun h=>absurd h (by decide)⟩;exact⟨_,.mk 91 [] 0 (l++[v]),cur2,rfl,hv,hf,.inr ⟨HRES.out.1,HRES.out.2,sn.beside hb (by omega)⟩⟩
      first
      | (refine hR w3 _ BL3.out HS3.out ?_;(repeat (first|with_reducible exact aA.refl _ _|with_reducible refine aA.drew ?_|with_reducible refine aA.trans ?_ (aA.set _ _ _ _)));done)
      | (refine hR (w3.setCell ⟨rb,2,none⟩ (.bool true)) _ (BL3.out.step hrb (aA.set _ _ _ _)) HS3.out.fail ?_;(repeat (first|with_reducible exact aA.refl _ _|with_reducible refine aA.drew ?_|with_reducible refine aA.trans ?_ (aA.set _ _ _ _)));done))
theorem a2E (hW:Below W.heap.size W w) (hWr:W.heap.size<=rb) (IH:Reads x rb sb W n k) (hn:s.length<n+1) (h400:s.length<=400) (H:Sn w rb sb s false):Calls Tryz.prog 137 #[ptr rb,kV k] w fun e w'=>aS (Wf.parse x (n+1) (.list k) s) s rb sb w e w':=by
 cases s with
 | nil=>exact pV x rb sb n k [] w H (by simp)
 | cons a r =>
  by_cases ha:a=91
  ·subst ha
   cases r with
   | nil=>exact pC x rb sb W n k w [] (by simp) hW hWr IH (by simpa using hn) (by simp) H
   | cons b q =>
    by_cases hb:b=93
    ·subst hb;exact a8E x rb sb n k w q H
    ·exact pC x rb sb W n k w (b::q) (by simpa using hb) hW hWr IH (by simp at hn ⊢;omega) (by simp at h400 ⊢;omega) H
  ·exact pV x rb sb n k (a::r) w H (by simpa using ha)
end
