/- Packed by pack.py: Sx. -/
import Derived.Test.YtmdacedmjbiekaaGreatDoorR8
import Derived.Test.YtmdacedmjbiekaaGreatDoorR1
import Derived.Deep.RegionWith
namespace Go.Proofs.YtmdacedmjbiekaaGreatDoor
open Go.ChangeShapes Go.WideShapes Go.ChangeAt Go.RowKit Go.Lib
set_option linter.unusedVariables false
def RowAt (w:World) (b:Nat) (v:Value) (xs:List Value):Prop :=
 ∃ a cap,v=.slice a xs.length cap∧xs.length≤cap∧cap≤maxLen∧(xs=[]∨∃ o,a=some ⟨b,o,none⟩∧b<w.heap.size∧∀ i (h:i<xs.length),w.cell? ⟨b,o+i,none⟩=some xs[i]∧w.frozen? ⟨b,o+i,none⟩=false)
theorem RowAt.keep {w w':World} {b:Nat} {v:Value} {xs:List Value} (h:RowAt w b v xs) (hs:w.heap.size≤w'.heap.size) (hk:b<w.heap.size→w'.heap[b]? = w.heap[b]?):RowAt w' b v xs:=by
 obtain⟨a,cap,h1,h2,h3,h4⟩:=h
 refine⟨a,cap,h1,h2,h3, ?_⟩
 rcases h4 with h4|⟨o,h5,h6,h7⟩
 ·exact .inl h4
 ·refine .inr ⟨o,h5,Nat.lt_of_lt_of_le h6 hs,fun i hi => ?_⟩
  have h8:=hk h6
  exact⟨(World.cell?_of_block (w:=w) (a:=⟨b,o+i,none⟩) h8).trans (h7 i hi).1,(World.frozen?_of_block (w:=w) (a:=⟨b,o+i,none⟩) h8).trans (h7 i hi).2⟩
theorem RowAt.below {w w':World} {b B:Nat} {v:Value} {xs:List Value} (h:RowAt w b v xs) (hb:Below B w w') (hB:b<w.heap.size→b<B):RowAt w' b v xs:=h.keep hb.size fun hx=>hb.block b (hB hx)
theorem RowAt.beside {w w':World} {b rb:Nat} {v:Value} {xs:List Value} (h:RowAt w b v xs) (hb:Beside rb w w') (hB:b≠rb):RowAt w' b v xs:=h.keep hb.size fun hx=>hb.block b hx hB
theorem RowAt.drewN {w:World} {b:Nat} {v:Value} {xs:List Value} (h:RowAt w b v xs) (n:Nat):RowAt (w.drewN n) b v xs:=h.keep (Nat.le_refl _) fun _=>rfl
theorem RowAt.of_owns {w:World} {base:Nat} {e:TypeId} {v:Value} {xs:List Value} (h:w.ownsRow base e 1 v xs.length xs):∃ b,base≤b∧RowAt w b v xs:=by
 obtain⟨h1,h2|⟨g,cap,cur,h3,h4,h5,h6,h7,h8,h9⟩⟩:=h
 ·refine⟨base,Nat.le_refl _,none,0, ?_,by omega,by unfold maxLen;omega, .inl (List.eq_nil_of_length_eq_zero h2.2)⟩
  rw[h2.1,h2.2]
 ·refine⟨g,h4,_,cap,h3,h6,h7, .inr ⟨0,rfl,(Array.getElem?_eq_some_iff.1 h5).1,fun i hi => ?_⟩⟩
  have hx:(cur.toList.take (xs.length * 1))[i]? = xs[i]?:=by rw[h9]
  rw[List.getElem?_take,if_pos (by omega),List.getElem?_eq_getElem hi] at hx
  have hx2:cur[i]? = some xs[i]:=by simpa using hx
  simp[World.cell?,World.frozen?,h5,hx2]
theorem wpList_append_cell {P:Program} (w:World) {ops:Array Oper} {rest:List Oper} {o:Oper} {a:Act} {Q:Exit→Act→World→Prop} (hgd:o.guard=none) (s x:Operand) (t:TypeId)
  (ho:o.op=.call { callee:=.builtin .append,args:=#[s,x],argTypes:=#[t,t] })
  (base:Nat) (e:TypeId) (z:Value) (bytes:Nat) (ht:P.underlying t=some (.slice e)) (hi:(P.info? e).map (fun i=>(i.zero,i.size,i.bytes))=some (some z,1,bytes)) (hz1:z.cells.size=1)
  (v:Value) (xs:List Value) (hs:a.eval s=v) (hown:w.ownsRow base e 1 v xs.length xs)
  (ad:Addr) (u:Value) (hx:a.eval x=.slice (some ad) 1 1) (hc:w.cell? ad=some u) (hu:u.oneCell'=true)
  (hn:(xs.length+1) * bytes≤140737488355328) (hn1:xs.length+1≤140737488355328) (hbase:base≤w.heap.size)
  (h:∀ v' w',w'.ownsRow base e 1 v' (xs++[u]).length (xs++[u])→Below base w w'→wpList P ops Q rest (a.put o.dst v') w'):wpList P ops Q (o::rest) a w:=by
 obtain⟨i0,hi0,hz0,hz2,hz3⟩:=info_parts hi
 refine wpList_append_one w hgd s x t ho base e i0 z 1 bytes ht hi0 hz0 hz2 hz3 hz1 (by decide) v xs.length _ hs hown ad [u] hx rfl ?_ ?_ hn hn1 hbase ?_
 ·intro j u' hj
  match j,hj with
  | 0,hj=>simp at hj;subst hj;simpa[Addr.add] using hc
 ·intro u' hu';simp at hu';subst hu';exact hu
 ·intro v' w' g1 g2
  refine h v' w' ?_ g2
  have e1:(xs++[u]).length=xs.length+1:=by simp
  rw[e1]
  exact g1
set_option maxRecDepth 20000 in
theorem eqTexts (l:List (List UInt8)) (hl:l.length≤1048576) (b1 b2:Nat) (v1 v2:Value) (w:World) (H1:RowAt w b1 v1 (l.map tx)) (H2:RowAt w b2 v2 (l.map tx)):Calls Tryz.prog 16 #[v1,v2] w fun e w'=>e=.returned (.bool true)∧∃ n,w'=w.drewN n:=by
 obtain⟨a1,c1,rfl,h11,h12,h13⟩:=H1
 obtain⟨a2,c2,rfl,h21,h22,h23⟩:=H2
 have HA:=hid h13
 have HB:=hid h23
 clear h13 h23
 obtain⟨m,hm⟩:∃ m,(l.map tx).length=m:=⟨_,rfl⟩
 have HM:=hid hm
 have hm2:l.length=m:=by rw[← hm,List.length_map]
 rw[hm] at h11 h21 ⊢
 rw[hm2] at hl
 have HM2:=hid hm2
 clear hm hm2
 go_enter Tryz.func16,Tryz.ntmps16
 go_wp2
 go_loopw [5] (fun v wr=>∃ (i:Nat) (k:Nat),v=.int .i64 i∧i≤m∧wr=w.drewN k) (fun v _=>m-(RowKit.intOf v).toNat)
 case atStart=>exact⟨0,0,rfl,by omega,rfl⟩
 case round =>
  obtain⟨i,k,rfl,hi,rfl⟩:=hrel
  by_cases hlt:i<m
  ·rcases HA.out with h0|⟨o1,rfl,h14,h15⟩
   ·exact absurd HM.out (by rw[h0];simp;omega)
   rcases HB.out with h0|⟨o2,rfl,h24,h25⟩
   ·exact absurd HM.out (by rw[h0];simp;omega)
   have p1:=(h15 i (by rw[HM.out];exact hlt)).1
   have p2:=(h25 i (by rw[HM.out];exact hlt)).1
   obtain⟨s,hs⟩:∃ s:ByteArray,(l.map tx)[i]'(by rw[HM.out];exact hlt)=.string s:=⟨⟨(l[i]'(by rw[HM2.out];exact hlt)).toArray⟩,by rw[List.getElem_map]⟩
   rw[hs] at p1 p2
   clear hs h15 h25 h14 h24 HA HB
   go_wp2
   go_quiet (fail)
   go_wp2
   go_roundw
   case rel=>exact⟨i+1,_,by go_num,by omega,rfl⟩
   case measure=>simp[RowKit.intOf];omega
  ·go_wp2
   go_ret
   exact⟨rfl,_,rfl⟩
set_option maxRecDepth 20000 in
theorem wfTexts (l:List (List UInt8)) (hl:l.length≤1048576) (b1 b2:Nat) (v1 v2:Value) (w:World) (H1:RowAt w b1 v1 (l.map tx)) (H2:RowAt w b2 v2 (l.map tx)):Calls Tryz.prog 24 #[v1,v2] w fun e w'=>e=.returned (.bool true)∧∃ n,w'=w.drewN n:=by
 obtain⟨a1,c1,rfl,h11,h12,h13⟩:=H1
 obtain⟨a2,c2,rfl,h21,h22,h23⟩:=H2
 have HA:=hid h13
 have HB:=hid h23
 clear h13 h23
 obtain⟨m,hm⟩:∃ m,(l.map tx).length=m:=⟨_,rfl⟩
 have HM:=hid hm
 have hm2:l.length=m:=by rw[← hm,List.length_map]
 rw[hm] at h11 h21 ⊢
 rw[hm2] at hl
 have HM2:=hid hm2
 clear hm hm2
 go_enter Tryz.func24,Tryz.ntmps24
 go_wp2
 go_loopw [5] (fun v wr=>∃ (i:Nat) (k:Nat),v=.int .i64 i∧i≤m∧wr=w.drewN k) (fun v _=>m-(RowKit.intOf v).toNat)
 case atStart=>exact⟨0,0,rfl,by omega,rfl⟩
 case round =>
  obtain⟨i,k,rfl,hi,rfl⟩:=hrel
  by_cases hlt:i<m
  ·rcases HA.out with h0|⟨o1,rfl,h14,h15⟩
   ·exact absurd HM.out (by rw[h0];simp;omega)
   rcases HB.out with h0|⟨o2,rfl,h24,h25⟩
   ·exact absurd HM.out (by rw[h0];simp;omega)
   have p1:=(h15 i (by rw[HM.out];exact hlt)).1
   have p2:=(h25 i (by rw[HM.out];exact hlt)).1
   obtain⟨s,hs⟩:∃ s:ByteArray,(l.map tx)[i]'(by rw[HM.out];exact hlt)=.string s:=⟨⟨(l[i]'(by rw[HM2.out];exact hlt)).toArray⟩,by rw[List.getElem_map]⟩
   rw[hs] at p1 p2
   clear hs h15 h25 h14 h24 HA HB
   go_wp2
   go_quiet (fail)
   go_wp2
   go_roundw
   case rel=>exact⟨i+1,_,by go_num,by omega,rfl⟩
   case measure=>simp[RowKit.intOf];omega
  ·go_wp2
   go_ret
   exact⟨rfl,_,rfl⟩
def digs (n:Nat):List UInt8:=if n=0 then [] else digs (n / 10)++[UInt8.ofNat (48+n % 10)]
termination_by n
decreasing_by omega
theorem digs_step {n:Nat} (h:0<n):digs n=digs (n / 10)++[UInt8.ofNat (48+n % 10)]:=by rw[digs,if_neg (by omega)]
theorem digs_len (n:Nat):(digs n).length≤n:=by
 induction n using Nat.strongRecOn with
 | ind n ih =>
  by_cases h:n=0
  ·subst h;rw[digs,if_pos rfl];simp
  ·rw[digs_step (by omega),List.length_append,List.length_singleton]
   have:=ih (n / 10) (by omega)
   omega
def mk (n:Nat):List UInt8:=109::digs n
set_option maxRecDepth 20000 in
theorem markText (k:Nat) (hk:k≤4000000) (h0:0<k) (w:World):Calls Tryz.prog 40 #[.int .i64 k] w fun e w'=>e=.returned (tx (mk k))∧Below w.heap.size w w':=by
 have kc:=run_convert_lit (P:=Tryz.prog) 28 9 5 Tryz.underlying28 Tryz.underlying5 Tryz.underlying9
 go_enter Tryz.func40,Tryz.ntmps40
 go_wp2
 go_loopw [0,3] (fun v t wr=>∃ (i:Nat) (s:ByteArray),v=.int .i64 i∧t=.string s∧i≤k∧Hid (digs i++s.data.toList=digs k)∧Hid (Below w.heap.size w wr)) (fun v _ _=>(RowKit.intOf v).toNat)
 case atStart=>exact⟨k,⟨#[]⟩,rfl,rfl,Nat.le_refl _,hid (show _=_ by simp),hid (Below.refl _ _)⟩
 case round =>
  obtain⟨i,s,rfl,rfl,hi,hs,hb⟩:=hrel
  have hsz:s.size≤4000000:=by
   have h1:=congrArg List.length hs.out
   have h2:=digs_len k
   rw[List.length_append,size_list] at h1
   omega
  by_cases hlt:0<i
  ·go_wp2
   go_roundw
   case rel=>exact⟨i / 10,_,by go_num,rfl,by omega,hid (show _=_ by rw[← hs.out,digs_step hlt,UInt8.ofNat_add];simp),hid (hb.out.alloc hb.out.size _)⟩
   case measure=>simp[RowKit.intOf];omega
  ·have hi0:i=0:=by omega
   subst hi0
   have he:(⟨#[109]⟩:ByteArray)++s=⟨(mk k).toArray⟩:=by
    rw[eq_list,mk,← hs.out,digs]
    simp
   go_wp2
   go_ret
   exact⟨rfl,hb.out⟩
def mks (k n:Nat):List Value:=(List.range n).map fun i=>tx (mk (k+i))
theorem mks_len (k n:Nat):(mks k n).length=n:=by simp[mks]
set_option maxRecDepth 20000 in
theorem held (k:Nat) (h0:0<k) (b:Nat) (v:Value) (w:World) (n:Nat) (hn:n+k≤2000000) (H:RowAt w b v (mks k n)):Calls Tryz.prog 18 #[v, .int .i64 k] w fun e w'=>e=.returned (.int .i64 ((k:Int)+n))∧Below w.heap.size w w':=by
 obtain⟨a,c,rfl,h11,h12,h13⟩:=H
 rw[mks_len] at h11 ⊢
 have HA:=hid h13
 clear h13
 go_enter Tryz.func18,Tryz.ntmps18
 go_wp2
 go_loopw [1,5] (fun u v wr=>∃ (i:Nat),v=.int .i64 i∧u=.int .i64 ((k:Int)+i)∧i≤n∧Hid (Below w.heap.size w wr)) (fun _ v _=>n-(RowKit.intOf v).toNat)
 case atStart=>exact⟨0,rfl,by simp,by omega,hid (Below.refl _ _)⟩
 case round =>
  obtain⟨i,rfl,rfl,hi,hb⟩:=hrel
  by_cases hlt:i<n
  ·rcases HA.out with hx|⟨o1,rfl,h14,h15⟩
   ·exact absurd (mks_len k n) (by rw[hx];simp;omega)
   have p0:=(h15 i (by rw[mks_len];exact hlt)).1
   have hmk:(mks k n)[i]'(by rw[mks_len];exact hlt)=tx (mk (k+i)):=by simp[mks]
   rw[hmk] at p0
   have p1:wr.cell? ⟨b,o1+i,none⟩=some (tx (mk (k+i))):=by rw[hb.out.cell (p:=⟨b,o1+i,none⟩) h14];exact p0
   obtain⟨t,ht⟩:∃ t:ByteArray,(⟨(mk (k+i)).toArray⟩:ByteArray)=t:=⟨_,rfl⟩
   have HT:=hid fun w=>markText (k+i) (by omega) (by omega) w
   rw[Int.natCast_add] at HT
   rw[tx,ht] at p1 HT
   have hbw:b<wr.heap.size:=Nat.lt_of_lt_of_le h14 hb.out.size
   clear p0 hmk ht h15 HA
   go_wp2
   go_region_with (go_at_call 40;refine(HT.out _).mono ?_;rintro e w2 ⟨rfl,hb2⟩;have p2:w2.cell? ⟨b,o1+i,none⟩=some (.string t):=(by rw[hb2.cell (p:=⟨b,o1+i,none⟩) hbw];exact p1);have HB2:=hid (show Below w.heap.size w w2 from hb.out.drew.trans (hb2.mono hb.out.size));clear hb2)
   all_goals
    go_wp2
    go_roundw
    case rel=>exact⟨i+1,by go_num,by go_num,by omega,HB2⟩
    case measure=>simp[RowKit.intOf];omega
  ·have hin:i=n:=by omega
   subst hin
   go_wp2
   go_ret
   exact⟨rfl,hb.out⟩
def Marked (w:World) (b o k n i:Nat):Prop:=b<w.heap.size∧∀ j,j<n→∃ s:ByteArray,w.cell? ⟨b,o+j,none⟩=some (.string s)∧w.frozen? ⟨b,o+j,none⟩=false∧(j<i→s=⟨(mk (k+j)).toArray⟩)
theorem Marked.step {w w2:World} {b o k n i:Nat} (h:Marked w b o k n i) (hb:Below w.heap.size w w2) (hi:i<n):Marked (w2.setCell ⟨b,o+i,none⟩ (tx (mk (k+i)))) b o k n (i+1):=by
 obtain⟨h1,h2⟩:=h
 refine⟨Nat.lt_of_lt_of_le (Nat.lt_of_lt_of_le h1 hb.size) (by simp),fun j hj => ?_⟩
 obtain⟨s,h3,h4,h5⟩:=h2 j hj
 have h3':w2.cell? ⟨b,o+j,none⟩=some (.string s):=by rw[hb.cell (p:=⟨b,o+j,none⟩) h1];exact h3
 have h4':w2.frozen? ⟨b,o+j,none⟩=false:=by rw[hb.frozen (p:=⟨b,o+j,none⟩) h1];exact h4
 by_cases hji:j=i
 ·subst hji
  exact⟨_,World.cell?_setCell_same w2 _ _ h3',by simpa using h4',fun _=>rfl⟩
 ·exact⟨s,(World.cell?_setCell_other w2 _ _ _ (by first|(simp;done)|(simp;omega))).trans h3',by simpa using h4',fun hlt=>h5 (by omega)⟩
set_option maxRecDepth 20000 in
theorem marked (k:Nat) (h0:0<k) (b:Nat) (v:Value) (w:World) (l:List (List UInt8)) (hn:l.length+k≤2000000) (H:RowAt w b v (l.map tx)):Calls Tryz.prog 17 #[v, .int .i64 k] w fun e w'=>e=.returned (.int .i64 ((k:Int)+l.length))∧RowAt w' b v (mks k l.length)∧Beside b w w':=by
 obtain⟨a,c,rfl,h11,h12,h13⟩:=H
 obtain⟨n,hn2⟩:∃ n,l.length=n:=⟨_,rfl⟩
 have hnl:(l.map tx).length=n:=by rw[List.length_map,hn2]
 have hmm:∀ w':World,(∀ o,a=some ⟨b,o,none⟩→0<n→Marked w' b o k n n)→RowAt w' b (.slice a n c) (mks k n):=by
  intro w' hm
  refine⟨a,c,by rw[mks_len],by rw[mks_len,← hnl];exact h11,h12, ?_⟩
  rcases h13 with h13|⟨o,ha,h14,h15⟩
  ·refine .inl (List.eq_nil_of_length_eq_zero ?_)
   rw[mks_len,← hnl,h13];rfl
  ·rcases Nat.eq_zero_or_pos n with hz|hz
   ·exact .inl (List.eq_nil_of_length_eq_zero (by rw[mks_len];exact hz))
   obtain⟨h1,h2⟩:=hm o ha hz
   refine .inr ⟨o,ha,h1,fun i hi => ?_⟩
   rw[mks_len] at hi
   obtain⟨s,h3,h4,h5⟩:=h2 i hi
   have h6:=h5 hi
   subst h6
   exact⟨by rw[h3];simp[mks],h4⟩
 have hst:∀ o,a=some ⟨b,o,none⟩→0<n→Marked w b o k n 0:=by
  intro o ha hz
  rcases h13 with h13|⟨o',ha',h14,h15⟩
  ·exact absurd hnl (by rw[h13];simp;omega)
  ·obtain rfl:o'=o:=by rw[ha] at ha';simpa using ha'.symm
   refine⟨h14,fun j hj => ?_⟩
   have h16:=h15 j (by rw[hnl];exact hj)
   rw[List.getElem_map] at h16
   exact⟨_,h16.1,h16.2,fun h=>by omega⟩
 have hex:0<n→∃ o,a=some ⟨b,o,none⟩:=by
  intro hz
  rcases h13 with h13|⟨o',ha',h14,h15⟩
  ·exact absurd hnl (by rw[h13];simp;omega)
  ·exact⟨o',ha'⟩
 have HMM:=hid hmm
 have HST:=hid hst
 have HEX:=hid hex
 rw[hn2] at hn ⊢
 rw[hnl] at h11 ⊢
 clear hmm hst hex h13 hnl hn2
 go_enter Tryz.func17,Tryz.ntmps17
 go_wp2
 go_loopw [1,5] (fun u v wr=>∃ (i:Nat),v=.int .i64 i∧u=.int .i64 ((k:Int)+i)∧i≤n∧Hid (Beside b w wr)∧Hid (∀ o,a=some ⟨b,o,none⟩→0<n→Marked wr b o k n i)) (fun _ v _=>n-(RowKit.intOf v).toNat)
 case atStart=>exact⟨0,rfl,by simp,by omega,hid (Beside.refl _ _),HST⟩
 case round =>
  obtain⟨i,rfl,rfl,hi,hb,hm⟩:=hrel
  by_cases hlt:i<n
  ·obtain⟨o,ha⟩:=HEX.out (by omega)
   have hm1:=hm.out o ha (by omega)
   subst ha
   obtain⟨s,h3,h4,_⟩:=hm1.2 i hlt
   have HM1:=hid hm1
   have HC3:=hid h3
   have HC4:=hid h4
   have hbw:=hm1.1
   have HT:=hid fun w=>markText (k+i) (by omega) (by omega) w
   rw[Int.natCast_add] at HT
   clear hm1 h3 h4 HST HEX hm
   go_wp2_with (go_at_call 40;refine(HT.out _).mono ?_;rintro e w2 ⟨rfl,hb2⟩;have p2:w2.cell? ⟨b,o+i,none⟩=some (.string s):=(by rw[hb2.cell (p:=⟨b,o+i,none⟩) hbw];exact HC3.out);have p3:w2.frozen? ⟨b,o+i,none⟩=false:=(by rw[hb2.frozen (p:=⟨b,o+i,none⟩) hbw];exact HC4.out);have HB2:=hid hb2;clear hb2)
   go_roundw
   case rel=>exact⟨i+1,by go_num,by go_num,by omega,hid ((hb.out.trans (Beside.of_below HB2.out (Nat.le_refl _))).trans (Beside.set b w2 _ _)),hid fun o' ho' _=>by
    obtain rfl:o=o':=by simpa using ho'
    exact HM1.out.step HB2.out hlt⟩
   case measure=>simp[RowKit.intOf];omega
  ·have hin:i=n:=by omega
   subst hin
   go_wp2
   go_ret
   exact⟨rfl,HMM.out _ hm.out,hb.out⟩
end Go.Proofs.YtmdacedmjbiekaaGreatDoor
