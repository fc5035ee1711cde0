/- Packed by pack.py: Sx PlainD PlainE PlainS PlainT Mr PlainA. -/
import Derived.Test.YtmdacedmjbiekaaGreatDoorQ0
import Derived.Test.YtmdacedmjbiekaaGreatDoorQ2
import Derived.Deep.RegionWith
namespace Go.Proofs.YtmdacedmjbiekaaGreatDoor
open Go.ChangeShapes Go.WideShapes Go.ChangeAt Go.RowKit Go.Lib
set_option linter.unusedVariables false
def RowAt (w:World) (b:Nat) (v:Value) (xs:List Value):Prop :=
 ∃ a cap,v=.slice a xs.length cap∧xs.length≤cap∧cap≤maxLen∧(xs=[]∨∃ o,a=some ⟨b,o,none⟩∧b<w.heap.size∧∀ i (h:i<xs.length),w.cell? ⟨b,o+i,none⟩=some xs[i]∧w.frozen? ⟨b,o+i,none⟩=false)
theorem RowAt.keep {w w':World} {b:Nat} {v:Value} {xs:List Value} (h:RowAt w b v xs) (hs:w.heap.size≤w'.heap.size) (hk:b<w.heap.size→w'.heap[b]? = w.heap[b]?):RowAt w' b v xs:=by
 obtain⟨a,cap,h1,h2,h3,h4⟩:=h
 refine⟨a,cap,h1,h2,h3, ?_⟩
 rcases h4 with h4|⟨o,h5,h6,h7⟩
 ·exact .inl h4
 ·refine .inr ⟨o,h5,Nat.lt_of_lt_of_le h6 hs,fun i hi => ?_⟩
  have h8:=hk h6
  exact⟨(World.cell?_of_block (w:=w) (a:=⟨b,o+i,none⟩) h8).trans (h7 i hi).1,(World.frozen?_of_block (w:=w) (a:=⟨b,o+i,none⟩) h8).trans (h7 i hi).2⟩
theorem RowAt.below {w w':World} {b B:Nat} {v:Value} {xs:List Value} (h:RowAt w b v xs) (hb:Below B w w') (hB:b<w.heap.size→b<B):RowAt w' b v xs:=h.keep hb.size fun hx=>hb.block b (hB hx)
theorem RowAt.beside {w w':World} {b rb:Nat} {v:Value} {xs:List Value} (h:RowAt w b v xs) (hb:Beside rb w w') (hB:b≠rb):RowAt w' b v xs:=h.keep hb.size fun hx=>hb.block b hx hB
theorem RowAt.drewN {w:World} {b:Nat} {v:Value} {xs:List Value} (h:RowAt w b v xs) (n:Nat):RowAt (w.drewN n) b v xs:=h.keep (Nat.le_refl _) fun _=>rfl
theorem RowAt.of_owns {w:World} {base:Nat} {e:TypeId} {v:Value} {xs:List Value} (h:w.ownsRow base e 1 v xs.length xs):∃ b,base≤b∧RowAt w b v xs:=by
 obtain⟨h1,h2|⟨g,cap,cur,h3,h4,h5,h6,h7,h8,h9⟩⟩:=h
 ·refine⟨base,Nat.le_refl _,none,0, ?_,by omega,by unfold maxLen;omega, .inl (List.eq_nil_of_length_eq_zero h2.2)⟩
  rw[h2.1,h2.2]
 ·refine⟨g,h4,_,cap,h3,h6,h7, .inr ⟨0,rfl,(Array.getElem?_eq_some_iff.1 h5).1,fun i hi => ?_⟩⟩
  have hx:(cur.toList.take (xs.length * 1))[i]? = xs[i]?:=by rw[h9]
  rw[List.getElem?_take,if_pos (by omega),List.getElem?_eq_getElem hi] at hx
  have hx2:cur[i]? = some xs[i]:=by simpa using hx
  simp[World.cell?,World.frozen?,h5,hx2]
theorem wpList_append_cell {P:Program} (w:World) {ops:Array Oper} {rest:List Oper} {o:Oper} {a:Act} {Q:Exit→Act→World→Prop} (hgd:o.guard=none) (s x:Operand) (t:TypeId)
  (ho:o.op=.call { callee:=.builtin .append,args:=#[s,x],argTypes:=#[t,t] })
  (base:Nat) (e:TypeId) (z:Value) (bytes:Nat) (ht:P.underlying t=some (.slice e)) (hi:(P.info? e).map (fun i=>(i.zero,i.size,i.bytes))=some (some z,1,bytes)) (hz1:z.cells.size=1)
  (v:Value) (xs:List Value) (hs:a.eval s=v) (hown:w.ownsRow base e 1 v xs.length xs)
  (ad:Addr) (u:Value) (hx:a.eval x=.slice (some ad) 1 1) (hc:w.cell? ad=some u) (hu:u.oneCell'=true)
  (hn:(xs.length+1) * bytes≤140737488355328) (hn1:xs.length+1≤140737488355328) (hbase:base≤w.heap.size)
  (h:∀ v' w',w'.ownsRow base e 1 v' (xs++[u]).length (xs++[u])→Below base w w'→wpList P ops Q rest (a.put o.dst v') w'):wpList P ops Q (o::rest) a w:=by
 obtain⟨i0,hi0,hz0,hz2,hz3⟩:=info_parts hi
 refine wpList_append_one w hgd s x t ho base e i0 z 1 bytes ht hi0 hz0 hz2 hz3 hz1 (by decide) v xs.length _ hs hown ad [u] hx rfl ?_ ?_ hn hn1 hbase ?_
 ·intro j u' hj
  match j,hj with
  | 0,hj=>simp at hj;subst hj;simpa[Addr.add] using hc
 ·intro u' hu';simp at hu';subst hu';exact hu
 ·intro v' w' g1 g2
  refine h v' w' ?_ g2
  have e1:(xs++[u]).length=xs.length+1:=by simp
  rw[e1]
  exact g1
def digs (n:Nat):List UInt8:=if n=0 then [] else digs (n / 10)++[UInt8.ofNat (48+n % 10)]
termination_by n
decreasing_by omega
theorem digs_step {n:Nat} (h:0<n):digs n=digs (n / 10)++[UInt8.ofNat (48+n % 10)]:=by rw[digs,if_neg (by omega)]
theorem digs_len (n:Nat):(digs n).length≤n:=by
 induction n using Nat.strongRecOn with
 | ind n ih =>
  by_cases h:n=0
  ·subst h;rw[digs,if_pos rfl];simp
  ·rw[digs_step (by omega),List.length_append,List.length_singleton]
   have:=ih (n / 10) (by omega)
   omega
def mk (n:Nat):List UInt8:=109::digs n
set_option maxRecDepth 20000 in
theorem markText (k:Nat) (hk:k≤4000000) (h0:0<k) (w:World):Calls Tryz.prog 40 #[.int .i64 k] w fun e w'=>e=.returned (tx (mk k))∧Below w.heap.size w w':=by
 have kc:=run_convert_lit (P:=Tryz.prog) 28 9 5 Tryz.underlying28 Tryz.underlying5 Tryz.underlying9
 go_enter Tryz.func40,Tryz.ntmps40
 go_wp2
 go_loopw [0,3] (fun v t wr=>∃ (i:Nat) (s:ByteArray),v=.int .i64 i∧t=.string s∧i≤k∧Hid (digs i++s.data.toList=digs k)∧Hid (Below w.heap.size w wr)) (fun v _ _=>(RowKit.intOf v).toNat)
 case atStart=>exact⟨k,⟨#[]⟩,rfl,rfl,Nat.le_refl _,hid (show _=_ by simp),hid (Below.refl _ _)⟩
 case round =>
  obtain⟨i,s,rfl,rfl,hi,hs,hb⟩:=hrel
  have hsz:s.size≤4000000:=by
   have h1:=congrArg List.length hs.out
   have h2:=digs_len k
   rw[List.length_append,size_list] at h1
   omega
  by_cases hlt:0<i
  ·go_wp2
   go_roundw
   case rel=>exact⟨i / 10,_,by go_num,rfl,by omega,hid (show _=_ by rw[← hs.out,digs_step hlt,UInt8.ofNat_add];simp),hid (hb.out.alloc hb.out.size _)⟩
   case measure=>simp[RowKit.intOf];omega
  ·have hi0:i=0:=by omega
   subst hi0
   have he:(⟨#[109]⟩:ByteArray)++s=⟨(mk k).toArray⟩:=by
    rw[eq_list,mk,← hs.out,digs]
    simp
   go_wp2
   go_ret
   exact⟨rfl,hb.out⟩
def mks (k n:Nat):List Value:=(List.range n).map fun i=>tx (mk (k+i))
theorem mks_len (k n:Nat):(mks k n).length=n:=by simp[mks]
def Marked (w:World) (b o k n i:Nat):Prop:=b<w.heap.size∧∀ j,j<n→∃ s:ByteArray,w.cell? ⟨b,o+j,none⟩=some (.string s)∧w.frozen? ⟨b,o+j,none⟩=false∧(j<i→s=⟨(mk (k+j)).toArray⟩)
theorem Marked.step {w w2:World} {b o k n i:Nat} (h:Marked w b o k n i) (hb:Below w.heap.size w w2) (hi:i<n):Marked (w2.setCell ⟨b,o+i,none⟩ (tx (mk (k+i)))) b o k n (i+1):=by
 obtain⟨h1,h2⟩:=h
 refine⟨Nat.lt_of_lt_of_le (Nat.lt_of_lt_of_le h1 hb.size) (by simp),fun j hj => ?_⟩
 obtain⟨s,h3,h4,h5⟩:=h2 j hj
 have h3':w2.cell? ⟨b,o+j,none⟩=some (.string s):=by rw[hb.cell (p:=⟨b,o+j,none⟩) h1];exact h3
 have h4':w2.frozen? ⟨b,o+j,none⟩=false:=by rw[hb.frozen (p:=⟨b,o+j,none⟩) h1];exact h4
 by_cases hji:j=i
 ·subst hji
  exact⟨_,World.cell?_setCell_same w2 _ _ h3',by simpa using h4',fun _=>rfl⟩
 ·exact⟨s,(World.cell?_setCell_other w2 _ _ _ (by first|(simp;done)|(simp;omega))).trans h3',by simpa using h4',fun hlt=>h5 (by omega)⟩
set_option maxRecDepth 20000 in
theorem marked (k:Nat) (h0:0<k) (b:Nat) (v:Value) (w:World) (l:List (List UInt8)) (hn:l.length+k≤2000000) (H:RowAt w b v (l.map tx)):Calls Tryz.prog 17 #[v, .int .i64 k] w fun e w'=>e=.returned (.int .i64 ((k:Int)+l.length))∧RowAt w' b v (mks k l.length)∧Beside b w w':=by
 obtain⟨a,c,rfl,h11,h12,h13⟩:=H
 obtain⟨n,hn2⟩:∃ n,l.length=n:=⟨_,rfl⟩
 have hnl:(l.map tx).length=n:=by rw[List.length_map,hn2]
 have hmm:∀ w':World,(∀ o,a=some ⟨b,o,none⟩→0<n→Marked w' b o k n n)→RowAt w' b (.slice a n c) (mks k n):=by
  intro w' hm
  refine⟨a,c,by rw[mks_len],by rw[mks_len,← hnl];exact h11,h12, ?_⟩
  rcases h13 with h13|⟨o,ha,h14,h15⟩
  ·refine .inl (List.eq_nil_of_length_eq_zero ?_)
   rw[mks_len,← hnl,h13];rfl
  ·rcases Nat.eq_zero_or_pos n with hz|hz
   ·exact .inl (List.eq_nil_of_length_eq_zero (by rw[mks_len];exact hz))
   obtain⟨h1,h2⟩:=hm o ha hz
   refine .inr ⟨o,ha,h1,fun i hi => ?_⟩
   rw[mks_len] at hi
   obtain⟨s,h3,h4,h5⟩:=h2 i hi
   have h6:=h5 hi
   subst h6
   exact⟨by rw[h3];simp[mks],h4⟩
 have hst:∀ o,a=some ⟨b,o,none⟩→0<n→Marked w b o k n 0:=by
  intro o ha hz
  rcases h13 with h13|⟨o',ha',h14,h15⟩
  ·exact absurd hnl (by rw[h13];simp;omega)
  ·obtain rfl:o'=o:=by rw[ha] at ha';simpa using ha'.symm
   refine⟨h14,fun j hj => ?_⟩
   have h16:=h15 j (by rw[hnl];exact hj)
   rw[List.getElem_map] at h16
   exact⟨_,h16.1,h16.2,fun h=>by omega⟩
 have hex:0<n→∃ o,a=some ⟨b,o,none⟩:=by
  intro hz
  rcases h13 with h13|⟨o',ha',h14,h15⟩
  ·exact absurd hnl (by rw[h13];simp;omega)
  ·exact⟨o',ha'⟩
 have HMM:=hid hmm
 have HST:=hid hst
 have HEX:=hid hex
 rw[hn2] at hn ⊢
 rw[hnl] at h11 ⊢
 clear hmm hst hex h13 hnl hn2
 go_enter Tryz.func17,Tryz.ntmps17
 go_wp2
 go_loopw [1,5] (fun u v wr=>∃ (i:Nat),v=.int .i64 i∧u=.int .i64 ((k:Int)+i)∧i≤n∧Hid (Beside b w wr)∧Hid (∀ o,a=some ⟨b,o,none⟩→0<n→Marked wr b o k n i)) (fun _ v _=>n-(RowKit.intOf v).toNat)
 case atStart=>exact⟨0,rfl,by simp,by omega,hid (Beside.refl _ _),HST⟩
 case round =>
  obtain⟨i,rfl,rfl,hi,hb,hm⟩:=hrel
  by_cases hlt:i<n
  ·obtain⟨o,ha⟩:=HEX.out (by omega)
   have hm1:=hm.out o ha (by omega)
   subst ha
   obtain⟨s,h3,h4,_⟩:=hm1.2 i hlt
   have HM1:=hid hm1
   have HC3:=hid h3
   have HC4:=hid h4
   have hbw:=hm1.1
   have HT:=hid fun w=>markText (k+i) (by omega) (by omega) w
   rw[Int.natCast_add] at HT
   clear hm1 h3 h4 HST HEX hm
   go_wp2_with (go_at_call 40;refine(HT.out _).mono ?_;rintro e w2 ⟨rfl,hb2⟩;have p2:w2.cell? ⟨b,o+i,none⟩=some (.string s):=(by rw[hb2.cell (p:=⟨b,o+i,none⟩) hbw];exact HC3.out);have p3:w2.frozen? ⟨b,o+i,none⟩=false:=(by rw[hb2.frozen (p:=⟨b,o+i,none⟩) hbw];exact HC4.out);have HB2:=hid hb2;clear hb2)
   go_roundw
   case rel=>exact⟨i+1,by go_num,by go_num,by omega,hid ((hb.out.trans (Beside.of_below HB2.out (Nat.le_refl _))).trans (Beside.set b w2 _ _)),hid fun o' ho' _=>by
    obtain rfl:o=o':=by simpa using ho'
    exact HM1.out.step HB2.out hlt⟩
   case measure=>simp[RowKit.intOf];omega
  ·have hin:i=n:=by omega
   subst hin
   go_wp2
   go_ret
   exact⟨rfl,HMM.out _ hm.out,hb.out⟩
end Go.Proofs.YtmdacedmjbiekaaGreatDoor

namespace Wf
set_option linter.unusedVariables false
set_option linter.unusedSimpArgs false
def dec (n:Nat):Bs:=if n<10 then [UInt8.ofNat (48+n)] else dec (n / 10)++[UInt8.ofNat (48+n % 10)]
termination_by n
decreasing_by omega
def isDig (c:UInt8):Bool:=decide (48≤c.toNat)&&decide (c.toNat≤57)
def val (s:Bs):Nat:=s.foldl (fun n c=>10 * n+(c.toNat-48)) 0
def plainN (s:Bs) (most:Nat):Option Nat :=
 if s≠[]∧s.length≤6∧s.all isDig=true∧(s.head? = some 48→s.length=1)∧val s≤most then some (val s) else none
theorem u8 {n:Nat} (h:n<256):(UInt8.ofNat n).toNat=n:=by simp[UInt8.toNat_ofNat'];omega
theorem snoc_ind {P:Bs→Prop} (h0:P []) (h1:∀ s c,P s→P (s++[c])) (s:Bs):P s:=by
 have h:∀ t:Bs,P t.reverse:=by
  intro t
  induction t with
  | nil=>exact h0
  | cons c t ih=>rw[List.reverse_cons];exact h1 _ _ ih
 have:=h s.reverse
 rwa[List.reverse_reverse] at this
theorem head_app {s t:Bs} (h:s≠[]):(s++t).head? = s.head?:=by cases s with|nil=>exact absurd rfl h|cons a s=>rfl
theorem dec_lt {n:Nat} (h:n<10):dec n=[UInt8.ofNat (48+n)]:=by rw[dec,if_pos h]
theorem dec_ge {n:Nat} (h:10≤n):dec n=dec (n / 10)++[UInt8.ofNat (48+n % 10)]:=by rw[dec,if_neg (by omega)]
theorem dec_ind {P:Nat→Prop} (h0:∀ n,n<10→P n) (h1:∀ n,10≤n→P (n / 10)→P n) (n:Nat):P n:=by
 induction n using Nat.strongRecOn with
 | ind n ih =>
  by_cases h:n<10
  ·exact h0 n h
  ·exact h1 n (by omega) (ih (n / 10) (by omega))
theorem isDig_ofNat {n:Nat} (h:n<10):isDig (UInt8.ofNat (48+n))=true:=by
 have:=u8 (show 48+n<256 by omega)
 simp only[isDig,this,Bool.and_eq_true,decide_eq_true_eq];omega
theorem dec_all (n:Nat):(dec n).all isDig=true:=by
 induction n using dec_ind with
 | h0 n h=>rw[dec_lt h];simp only[List.all_cons,List.all_nil,Bool.and_true];exact isDig_ofNat h
 | h1 n h ih =>
  rw[dec_ge h,List.all_append,ih]
  simp only[List.all_cons,List.all_nil,Bool.and_true,Bool.true_and];exact isDig_ofNat (by omega)
theorem dec_ne (n:Nat):dec n≠[]:=by
 by_cases h:n<10
 ·rw[dec_lt h];simp
 ·rw[dec_ge (by omega)];simp
theorem val_snoc (s:Bs) (c:UInt8):val (s++[c])=10 * val s+(c.toNat-48):=by simp[val,List.foldl_append]
theorem val_dec (n:Nat):val (dec n)=n:=by
 induction n using dec_ind with
 | h0 n h =>
  rw[dec_lt h]
  have:=u8 (show 48+n<256 by omega)
  simp only[val,List.foldl_cons,List.foldl_nil,this];omega
 | h1 n h ih =>
  rw[dec_ge h,val_snoc,ih,u8 (by omega)];omega
theorem dec_head (n:Nat) (h:(dec n).head? = some 48):n=0:=by
 induction n using dec_ind with
 | h0 n h' =>
  rw[dec_lt h'] at h
  simp only[List.head?_cons,Option.some.injEq] at h
  have:=congrArg UInt8.toNat h
  rw[u8 (by omega)] at this
  simp at this;exact this
 | h1 n h' ih =>
  rw[dec_ge h'] at h
  have hn:=dec_ne (n / 10)
  rw[head_app hn] at h
  have:=ih h
  omega
theorem dec_len (n k:Nat) (h:n<10 ^ (k+1)):(dec n).length≤k+1:=by
 induction k generalizing n with
 | zero=>rw[dec_lt (by simpa using h)];simp
 | succ k ih =>
  by_cases h1:n<10
  ·rw[dec_lt h1];simp
  ·rw[dec_ge (by omega)]
   have:=ih (n / 10) (by have:(10:Nat) ^ (k+1+1)=10 ^ (k+1) * 10:=rfl;omega)
   simp;omega
theorem dec_len6 {n:Nat} (h:n≤999999):(dec n).length≤6:=dec_len n 5 (by have:(10:Nat)^6=1000000:=rfl;omega)
theorem dec_len_lo (n k:Nat) (h:10 ^ k≤n):k+1≤(dec n).length:=by
 induction k generalizing n with
 | zero=>have:=List.length_pos_iff.2 (dec_ne n);omega
 | succ k ih =>
  have e:(10:Nat) ^ (k+1)=10 ^ k * 10:=rfl
  have hp:0<(10:Nat)^k:=Nat.pow_pos (by omega)
  rw[dec_ge (by omega)]
  have:=ih (n / 10) (by omega)
  simp;omega
theorem plainN_dec {n most:Nat} (h:n≤most) (h6:n≤999999):plainN (dec n) most=some n:=by
 rw[plainN,if_pos,val_dec]
 refine⟨dec_ne n,dec_len6 h6,dec_all n,fun h0 => ?_,by rw[val_dec];exact h⟩
 rw[dec_head n h0,dec_lt (by omega)];rfl
theorem dec_val {s:Bs} (hs:s≠[]) (hd:s.all isDig=true) (h0:s.head? = some 48→s.length=1):dec (val s)=s:=by
 induction s using snoc_ind with
 | h0=>exact absurd rfl hs
 | h1 s c ih =>
  simp only[List.all_append,List.all_cons,List.all_nil,Bool.and_true,Bool.and_eq_true,isDig,decide_eq_true_eq] at hd
  obtain⟨hd1,hc1,hc2⟩:=hd
  have hcc:UInt8.ofNat (48+(c.toNat-48))=c:=by
   rw[show 48+(c.toNat-48)=c.toNat by omega];simp
  by_cases hn:s=[]
  ·subst hn
   simp only[List.nil_append,val,List.foldl_cons,List.foldl_nil]
   rw[dec_lt (by omega)];simp only[Nat.mul_zero,Nat.zero_add];rw[hcc]
  ·have h0':s.head? = some 48→s.length=1:=by
    intro hh
    rw[head_app hn] at h0
    have:=h0 hh
    simp at this;exact absurd this hn
   have ih':=ih hn hd1 h0'
   have hz:val s≠0:=by
    intro hz
    rw[hz,dec_lt (by omega)] at ih'
    rw[head_app hn,← ih'] at h0
    have:=h0 (by decide)
    simp at this
   rw[val_snoc,dec_ge (by omega)]
   rw[show(10 * val s+(c.toNat-48)) / 10=val s by omega,show(10 * val s+(c.toNat-48)) % 10=c.toNat-48 by omega,ih',hcc]
theorem plainN_some {s:Bs} {most n:Nat} (h:plainN s most=some n):s=dec n∧n≤most∧n≤999999:=by
 rw[plainN] at h
 split at h
 ·rename_i hx
  obtain⟨h1,h2,h3,h4,h5⟩:=hx
  simp only[Option.some.injEq] at h
  subst h
  refine⟨(dec_val h1 h3 h4).symm,h5, ?_⟩
  have e:=dec_val h1 h3 h4
  by_cases hb:val s≤999999
  ·exact hb
  ·have:=dec_len_lo (val s) 6 (by have:(10:Nat)^6=1000000:=rfl;omega)
   rw[e] at this;omega
 ·simp at h
end Wf

namespace Wf
set_option linter.unusedVariables false
set_option linter.unusedSimpArgs false
structure Fd where
 tag:Nat
 name:Bs
 kind:K
 given:Bs
deriving Inhabited,DecidableEq
structure Ty where
 sort:UInt8
 name:Bs
 fields:List Fd
deriving Inhabited,DecidableEq
abbrev Sc:=List Ty
def Ty.field (t:Ty) (tag:Nat):Option Fd:=t.fields.find? (fun f=>f.tag==tag)
def Sc.find (x:Sc) (name:Bs):Option Ty:=List.find? (fun t=>t.name==name) x
def stands (x:Sc):Nat→K→Bs
 | _, .list _=>[91,93]
 | _, .opt _=>[45]
 | _, .num=>[48]
 | _, .txt=>[39,39]
 | _, .flag=>[110,111]
 | 0, .ref _=>[]
 | n+1, .ref nm =>
  match x.find nm with
  | none=>[]
  | some t =>
   if t.sort=82 then [123,125]
   else match t.fields with
    | []=>[]
    | f::_=>if t.sort=69 then 35::dec f.tag else 60::(dec f.tag++61::(stands x n f.kind++[62]))
def standF (x:Sc) (f:Fd):Bs:=if f.given=[] then stands x 9 f.kind else f.given
inductive V where
 | mk (what:UInt8) (text:Bs) (tag:Nat) (kids:List V)
deriving Inhabited
def V.what:V→UInt8 | .mk a _ _ _=>a
def V.text:V→Bs | .mk _ b _ _=>b
def V.tag:V→Nat | .mk _ _ c _=>c
def V.kids:V→List V | .mk _ _ _ d=>d
theorem V.induct {P:V→Prop} (h:∀ a b c d,(∀ v,v∈d→P v)→P (.mk a b c d)) (v:V):P v :=
 V.rec (motive_1:=P) (motive_2:=fun l=>∀ v,v∈l→P v) (fun a b c d ih=>h a b c d ih) (by simp) (fun v l hv hl=>by
  intro u hu
  rcases List.mem_cons.1 hu with rfl|hu
  ·exact hv
  ·exact hl u hu) v
def commas:List Bs→Bs
 | []=>[]
 | [a]=>a
 | a::b::l=>a++44::commas (b::l)
def form (what:UInt8) (text:Bs) (tag:Nat) (parts:List Bs):Bs :=
 if what=116 then 39::(text++[39])
 else if what=91 then 91::(commas parts++[93])
 else if what=63 then (if parts=[] then [45] else 43::commas parts)
 else if what=61 then dec tag++61::commas parts
 else if what=82 then 123::(commas parts++[125])
 else if what=85 then 60::(dec tag++61::(commas parts++[62]))
 else if what=69 then 35::dec tag
 else text
mutual
def V.print:V→Bs
 | .mk what text tag kids=>form what text tag (V.prints kids)
def V.prints:List V→List Bs
 | []=>[]
 | v::l=>v.print::V.prints l
end
mutual
def V.deep:V→Nat
 | .mk what _ _ kids=>if what=61 then V.deeps kids else V.deeps kids+1
def V.deeps:List V→Nat
 | []=>0
 | v::l=>max v.deep (V.deeps l)
end
theorem V.prints_map (l:List V):V.prints l=l.map V.print:=by
 induction l with
 | nil=>rfl
 | cons v l ih=>simp[V.prints,ih]
theorem V.deeps_le {l:List V} {n:Nat}:V.deeps l≤n↔∀ v,v∈l→v.deep≤n:=by
 induction l with
 | nil=>simp[V.deeps]
 | cons v l ih=>simp[V.deeps,Nat.max_le,ih]
def isTxt (c:UInt8):Bool:=(decide (97≤c.toNat)&&decide (c.toNat≤122)) || (decide (48≤c.toNat)&&decide (c.toNat≤57)) || c==32
def numTok (most:Nat) (s:Bs):Option (Nat × Bs) :=
 (plainN (s.takeWhile isDig) most).map fun n=>(n,s.dropWhile isDig)
abbrev Reads:=Bs→Option (V × Bs)
def itemsW (p:Reads):Nat→Bs→Option (List V × Bs)
 | 0,_=>none
 | m+1,s =>
  match p s with
  | none=>none
  | some (v,rest) =>
   match rest with
   | 44::r=>(itemsW p m r).map fun x=>(v::x.1,x.2)
   | 93::r=>some ([v],r)
   | _=>none
def fieldTok (t:Ty) (p:K→Reads) (s:Bs):Option (Fd × V × Bs) :=
 match numTok 200 s with
 | none=>none
 | some (tag,rest) =>
  match rest,t.field tag with
  | 61::r,some f=>(p f.kind r).map fun y=>(f,y.1,y.2)
  | _,_=>none
def fieldsW (x:Sc) (t:Ty) (p:K→Reads):Nat→Nat→Bs→Option (List V × Bs)
 | 0,_,_=>none
 | m+1,last,s =>
  match fieldTok t p s with
  | none=>none
  | some (f,v,rest) =>
   if f.tag≤last∨v.print=standF x f then none else
   match rest with
   | 44::r=>(fieldsW x t p m f.tag r).map fun y=>(.mk 61 [] f.tag [v]::y.1,y.2)
   | 125::r=>some ([.mk 61 [] f.tag [v]],r)
   | _=>none
def closeU (g:Nat) (v:V) (s:Bs):Option (V × Bs) :=
 match s with
 | 62::q=>some (.mk 85 [] g [v],q)
 | _=>none
def parseTy (x:Sc) (p:K→Reads) (t:Ty) (s:Bs):Option (V × Bs) :=
 if t.sort=69 then
  match s with
  | 35::r =>
   match numTok 200 r with
   | none=>none
   | some (tag,rest)=>if (t.field tag).isSome then some (.mk 69 [] tag [],rest) else none
  | _=>none
 else if t.sort=85 then
  match s with
  | 60::r =>
   match fieldTok t p r with
   | some (f,v,rest)=>closeU f.tag v rest
   | none=>none
  | _=>none
 else
  match s with
  | 123::r =>
   match r with
   | 125::q=>some (.mk 82 [] 0 [],q)
   | _=>(fieldsW x t p r.length 0 r).map fun y=>(.mk 82 [] 0 y.1,y.2)
  | _=>none
def parse (x:Sc):Nat→K→Reads
 | 0,_,_=>none
 | n+1,k,s =>
  match k with
  | .num=>(numTok 999999 s).map fun y=>(.mk 110 (dec y.1) 0 [],y.2)
  | .txt =>
   match s with
   | 39::r =>
    match r.dropWhile isTxt with
    | 39::q=>if (r.takeWhile isTxt).length≤12 then some (.mk 116 (r.takeWhile isTxt) 0 [],q) else none
    | _=>none
   | _=>none
  | .flag =>
   match s with
   | 121::101::115::q=>some (.mk 102 [121,101,115] 0 [],q)
   | 110::111::q=>some (.mk 102 [110,111] 0 [],q)
   | _=>none
  | .list k' =>
   match s with
   | 91::r =>
    match r with
    | 93::q=>some (.mk 91 [] 0 [],q)
    | _=>match itemsW (parse x n k') r.length r with
     | none=>none
     | some (l,q)=>if l.length≤20 then some (.mk 91 [] 0 l,q) else none
   | _=>none
  | .opt k' =>
   match s with
   | 45::q=>some (.mk 63 [] 0 [],q)
   | 43::r=>(parse x n k' r).map fun y=>(.mk 63 [] 0 [y.1],y.2)
   | _=>none
  | .ref nm =>
   match x.find nm with
   | none=>none
   | some t=>parseTy x (fun k' s'=>parse x n k' s') t s
def Typed (x:Sc):Nat→K→V→Prop
 | 0,_,_=>False
 | n+1,k,v =>
  match k with
  | .num=>∃ m,m≤999999∧v=.mk 110 (dec m) 0 []
  | .txt=>∃ b:Bs,b.all isTxt=true∧b.length≤12∧v=.mk 116 b 0 []
  | .flag=>v=.mk 102 [121,101,115] 0 []∨v=.mk 102 [110,111] 0 []
  | .list k'=>∃ l:List V,l.length≤20∧(∀ u,u∈l→Typed x n k' u)∧v=.mk 91 [] 0 l
  | .opt k'=>v=.mk 63 [] 0 []∨∃ u,Typed x n k' u∧v=.mk 63 [] 0 [u]
  | .ref nm=>∃ t,x.find nm=some t ∧
   ((t.sort=69∧∃ f,t.field f.tag=some f∧f.tag≤200∧v=.mk 69 [] f.tag []) ∨
    (t.sort≠69∧t.sort=85∧∃ f u,t.field f.tag=some f∧f.tag≤200∧Typed x n f.kind u∧v=.mk 85 [] f.tag [u]) ∨
    (t.sort≠69∧t.sort≠85∧∃ l:List (Fd × V),(l.map (fun e=>e.1.tag)).Pairwise (· < ·) ∧
     (∀ e,e∈l→0<e.1.tag∧t.field e.1.tag=some e.1∧e.1.tag≤200∧Typed x n e.1.kind e.2∧e.2.print≠standF x e.1) ∧
     v=.mk 82 [] 0 (l.map fun e=>.mk 61 [] e.1.tag [e.2])))
end Wf

namespace Wf
set_option linter.unusedVariables false
set_option linter.unusedSimpArgs false
def cutAt (c:UInt8):Bs→List Bs
 | []=>[[]]
 | a::r =>
  if a=c then []::cutAt c r
  else match cutAt c r with
   | []=>[[a]]
   | p::ps=>(a::p)::ps
def cut1 (c:UInt8):Bs→Bs × Bs × Bool
 | []=>([],[],false)
 | a::r=>if a=c then ([],r,true) else (a::(cut1 c r).1,(cut1 c r).2.1,(cut1 c r).2.2)
theorem cutAt_ne (c:UInt8) (s:Bs):cutAt c s≠[]:=by
 cases s with
 | nil=>simp[cutAt]
 | cons a r =>
  simp only[cutAt]
  split
  ·simp
  ·split <;> simp
theorem cut1_false {c:UInt8} {s:Bs} (h:(cut1 c s).2.2=false):(cut1 c s).1=s∧(cut1 c s).2.1=[]∧c ∉ s∧cutAt c s=[s]:=by
 induction s with
 | nil=>simp[cut1,cutAt]
 | cons a r ih =>
  simp only[cut1] at h ⊢
  by_cases ha:a=c
  ·simp[ha] at h
  ·simp only[if_neg ha] at h ⊢
   obtain⟨h1,h2,h3,h4⟩:=ih h
   refine⟨by rw[h1],h2, ?_, ?_⟩
   ·simp only[List.mem_cons,not_or];exact⟨fun e=>ha e.symm,h3⟩
   ·simp only[cutAt,if_neg ha,h4]
theorem cut1_true {c:UInt8} {s:Bs} (h:(cut1 c s).2.2=true):s=(cut1 c s).1++c::(cut1 c s).2.1∧c ∉ (cut1 c s).1∧cutAt c s=(cut1 c s).1::cutAt c (cut1 c s).2.1:=by
 induction s with
 | nil=>simp[cut1] at h
 | cons a r ih =>
  simp only[cut1] at h ⊢
  by_cases ha:a=c
  ·simp[ha,cutAt]
  ·simp only[if_neg ha] at h ⊢
   obtain⟨h1,h2,h3⟩:=ih h
   refine⟨by rw[List.cons_append,← h1], ?_, ?_⟩
   ·simp only[List.mem_cons,not_or];exact⟨fun e=>ha e.symm,h2⟩
   ·simp only[cutAt,if_neg ha,h3]
theorem cutAt_single {c:UInt8} {s:Bs} (h:c ∉ s):cutAt c s=[s]:=by
 cases hb:(cut1 c s).2.2 with
 | false=>exact(cut1_false hb).2.2.2
 | true =>
  have:=(cut1_true hb).1
  rw[this] at h;simp at h
theorem cutAt_app {c:UInt8} {a b:Bs} (h:c ∉ a):cutAt c (a++c::b)=a::cutAt c b:=by
 induction a with
 | nil=>simp[cutAt]
 | cons x a ih =>
  simp only[List.mem_cons,not_or] at h
  simp only[List.cons_append,cutAt,if_neg (Ne.symm h.1),ih h.2]
theorem cutAt_mem {c:UInt8}:∀ (s p:Bs),p∈cutAt c s→c ∉ p∧∀ a,a∈p→a∈s:=by
 intro s
 induction s with
 | nil=>intro p h;simp[cutAt] at h;subst h;simp
 | cons a r ih =>
  intro p h
  simp only[cutAt] at h
  split at h
  ·rcases List.mem_cons.1 h with rfl|h
   ·simp
   ·obtain⟨h1,h2⟩:=ih p h
    exact⟨h1,fun b hb=>List.mem_cons_of_mem _ (h2 b hb)⟩
  ·rename_i ha
   cases hr:cutAt c r with
   | nil=>exact absurd hr (cutAt_ne c r)
   | cons q qs =>
    rw[hr] at h ih
    simp only at h
    rcases List.mem_cons.1 h with rfl|h
    ·obtain⟨h1,h2⟩:=ih q (by simp)
     refine⟨by simp only[List.mem_cons,not_or];exact⟨Ne.symm ha,h1⟩, ?_⟩
     intro b hb
     rcases List.mem_cons.1 hb with rfl|hb
     ·simp
     ·exact List.mem_cons_of_mem _ (h2 b hb)
    ·obtain⟨h1,h2⟩:=ih p (by simp[h])
     exact⟨h1,fun b hb=>List.mem_cons_of_mem _ (h2 b hb)⟩
def quoted (s:Bs):Bool:=decide (s.head? = some 39)&&decide (s.tail.getLast? = some 39)&&s.tail.dropLast.all isTxt&&decide (s.length≤14)
theorem quoted_iff {s:Bs}:quoted s=true↔∃ b:Bs,s=39::(b++[39])∧b.all isTxt=true∧b.length≤12:=by
 constructor
 ·intro h
  simp only[quoted,Bool.and_eq_true,decide_eq_true_eq] at h
  obtain⟨⟨⟨h1,h2⟩,h3⟩,h4⟩:=h
  cases s with
  | nil=>simp at h1
  | cons a r =>
   simp only[List.head?_cons,Option.some.injEq] at h1
   subst h1
   simp only[List.tail_cons] at h2 h3
   have hr:r≠[]:=by intro e;subst e;simp at h2
   rw[List.getLast?_eq_some_getLast hr] at h2
   simp only[Option.some.injEq] at h2
   refine⟨r.dropLast, ?_,h3, ?_⟩
   ·rw[← h2,List.dropLast_concat_getLast hr]
   ·simp only[List.length_cons,List.length_dropLast] at h4 ⊢;omega
 ·rintro⟨b,rfl,h1,h2⟩
  simp only[quoted,Bool.and_eq_true,decide_eq_true_eq]
  refine⟨⟨⟨rfl,by simp⟩,by simpa using h1⟩,by simp;omega⟩
def stOk (k:K) (s:Bs):Bool :=
 match k with
 | .num=>(match plainN s 999999 with|some m=>decide (0<m)|none=>false)
 | .txt=>quoted s&&decide (s≠[39,39])
 | .flag=>decide (s=[121,101,115])
 | _=>false
def fdA (sort:UInt8) (s:Bs):Option Fd :=
 let h:=cut1 61 s
 match cutAt 58 h.1 with
 | [a,b] =>
  if sort≠69 then none else
  match plainN a 200 with
  | none=>none
  | some tag=>if tag<1∨isName b=false∨h.2.2=true then none else some ⟨tag,b, .num,[]⟩
 | [a,b,d] =>
  if sort=69 then none else
  match plainN a 200 with
  | none=>none
  | some tag =>
   if tag<1∨isName b=false then none else
   match parseK d with
   | none=>none
   | some k=>if h.2.2=true∧(sort≠82∨stOk k h.2.1=false) then none else some ⟨tag,b,k,h.2.1⟩
 | _=>none
def fdB (sort:UInt8) (s:Bs):Option Fd :=
 match cutAt 58 s with
 | [a,b] =>
  if sort≠69 then none else
  match plainN a 200 with
  | none=>none
  | some tag=>if tag<1∨isName b=false then none else some ⟨tag,b, .num,[]⟩
 | [a,b,d] =>
  if sort=69 then none else
  match plainN a 200 with
  | none=>none
  | some tag =>
   if tag<1∨isName b=false then none else
   match cutAt 61 d with
   | [e]=>(parseK e).map fun k=>⟨tag,b,k,[]⟩
   | [e,g] =>
    match parseK e with
    | none=>none
    | some k=>if sort=82∧stOk k g=true then some ⟨tag,b,k,g⟩ else none
   | _=>none
 | _=>none
theorem plainN_dig {s:Bs} {m n:Nat} (h:plainN s m=some n):∀ c,c∈s→isDig c=true:=by
 rw[(plainN_some h).1];exact List.all_eq_true.1 (dec_all n)
theorem isName_low {s:Bs} (h:isName s=true):∀ c,c∈s→isLow c=true:=by
 simp only[isName,Bool.and_eq_true] at h
 exact List.all_eq_true.1 h.2
theorem stOk_no {k:K} {s:Bs} (h:stOk k s=true):(58:UInt8) ∉ s∧(61:UInt8) ∉ s:=by
 cases k with
 | num =>
  simp only[stOk] at h
  cases hp:plainN s 999999 with
  | none=>rw[hp] at h;simp at h
  | some m =>
   have:=plainN_dig hp
   exact⟨fun hc=>absurd (this _ hc) (by decide),fun hc=>absurd (this _ hc) (by decide)⟩
 | txt =>
  simp only[stOk,Bool.and_eq_true,decide_eq_true_eq] at h
  obtain⟨b,rfl,hb,_⟩:=quoted_iff.1 h.1
  have ht:=List.all_eq_true.1 hb
  have key:∀ c:UInt8,c∈(39::(b++[39]):Bs)→c=39∨isTxt c=true:=by
   intro c hc
   simp only[List.mem_cons,List.mem_append,List.mem_nil_iff,or_false] at hc
   rcases hc with h|h|h
   ·exact .inl h
   ·exact .inr (ht c h)
   ·exact .inl h
  refine⟨fun hc => ?_,fun hc => ?_⟩
  ·rcases key _ hc with h|h
   ·revert h;decide
   ·revert h;decide
  ·rcases key _ hc with h|h
   ·revert h;decide
   ·revert h;decide
 | flag=>simp only[stOk,decide_eq_true_eq] at h;subst h;decide
 | ref n=>simp[stOk] at h
 | list k=>simp[stOk] at h
 | opt k=>simp[stOk] at h
def joinAt (c:UInt8):List Bs→Bs
 | []=>[]
 | [a]=>a
 | a::b::l=>a++c::joinAt c (b::l)
theorem cutAt_join (c:UInt8) (s:Bs):joinAt c (cutAt c s)=s:=by
 induction s with
 | nil=>rfl
 | cons a r ih =>
  simp only[cutAt]
  cases hr:cutAt c r with
  | nil=>exact absurd hr (cutAt_ne c r)
  | cons p ps =>
   rw[hr] at ih
   split
   ·rename_i h;simp only[joinAt,List.nil_append,ih,h]
   ·cases ps with
    | nil=>simp only[joinAt] at ih ⊢;rw[ih]
    | cons q qs=>simp only[joinAt,List.cons_append] at ih ⊢;rw[ih]
theorem cutAt_tail {c:UInt8} {t:Bs} (ht:c ∉ t):∀ x:Bs,∀ ps q,cutAt c x=ps++[q]→cutAt c (x++t)=ps++[q++t]:=by
 intro x
 induction x with
 | nil =>
  intro ps q h
  simp only[cutAt] at h
  cases ps with
  | nil=>simp only[List.nil_append,List.cons.injEq,and_true] at h;subst h;simp[cutAt_single ht]
  | cons p ps=>simp at h
 | cons a r ih =>
  intro ps q h
  simp only[cutAt,List.cons_append] at h ⊢
  by_cases ha:a=c
  ·rw[if_pos ha] at h ⊢
   cases ps with
   | nil=>simp at h;exact absurd h.2 (cutAt_ne c r)
   | cons p ps =>
    simp only[List.cons_append,List.cons.injEq] at h ⊢
    exact⟨h.1,ih ps q h.2⟩
  ·rw[if_neg ha] at h ⊢
   cases hr:cutAt c r with
   | nil=>exact absurd hr (cutAt_ne c r)
   | cons p0 ps0 =>
    rw[hr] at h ih
    simp only at h
    cases ps with
    | nil =>
     simp only[List.nil_append,List.cons.injEq] at h
     obtain⟨rfl,rfl⟩:=h
     rw[ih [] p0 rfl];rfl
    | cons p ps =>
     simp only[List.cons_append,List.cons.injEq] at h
     rw[ih (p0::ps) q (by rw[h.2];rfl)]
     simp[h.1]
theorem cut1_app {c:UInt8} {p q:Bs} (h:c ∉ p):cut1 c (p++q)=(p++(cut1 c q).1,(cut1 c q).2.1,(cut1 c q).2.2):=by
 induction p with
 | nil=>simp
 | cons a p ih =>
  simp only[List.mem_cons,not_or] at h
  simp only[List.cons_append,cut1,if_neg (Ne.symm h.1),ih h.2]
theorem cut1_sub {c:UInt8} (s:Bs):∀ a,a∈(cut1 c s).2.1→a∈s:=by
 cases hb:(cut1 c s).2.2 with
 | false=>rw[(cut1_false hb).2.1];simp
 | true =>
  have:=(cut1_true hb).1
  intro a ha
  rw[this];simp[ha]
theorem fdA_no {sort:UInt8} {s:Bs} (hb:(cut1 61 s).2.2=true) (hs:∀ k,stOk k (cut1 61 s).2.1=false):fdA sort s=none:=by
 unfold fdA
 simp only[hb]
 split
 ·split
  ·rfl
  ·split
   ·rfl
   ·simp
 ·split
  ·rfl
  ·split
   ·rfl
   ·split
    ·rfl
    ·split
     ·rfl
     ·simp[hs]
 ·rfl
theorem fdA_fdB (sort:UInt8) (s:Bs):fdA sort s=fdB sort s:=by
 cases hb:(cut1 61 s).2.2 with
 | false =>
  obtain⟨h1,h2,h3,_⟩:=cut1_false hb
  unfold fdA fdB
  simp only[hb,h1,h2]
  split
  ·simp
  ·rename_i a b d heq
   have hd:(61:UInt8) ∉ d:=fun hc=>h3 ((cutAt_mem s d (by rw[heq];simp)).2 _ hc)
   rw[cutAt_single hd]
   split
   ·rfl
   ·cases plainN a 200 with
    | none=>rfl
    | some tag =>
     simp only
     split
     ·rfl
     ·cases parseK d <;> simp
  ·rfl
 | true =>
  obtain⟨h1,h2,h3⟩:=cut1_true hb
  by_cases hc:(58:UInt8)∈(cut1 61 s).2.1
  ·rw[fdA_no hb (fun k=>by
    cases hs:stOk k (cut1 61 s).2.1 with
    | false=>rfl
    | true=>exact absurd hc (stOk_no hs).1)]
   have h61:(61:UInt8)∈s:=by rw[h1];simp
   unfold fdB
   split
   ·rename_i a b heq
    have hj:=cutAt_join 58 s
    rw[heq] at hj
    split
    ·rfl
    ·cases hp:plainN a 200 with
     | none=>rfl
     | some tag =>
      simp only
      split
      ·rfl
      ·rename_i hh
       exfalso
       simp only[not_or,Nat.not_lt,Bool.not_eq_false] at hh
       rw[← hj] at h61
       simp only[joinAt,List.mem_append,List.mem_cons] at h61
       rcases h61 with h|h|h
       ·exact absurd (plainN_dig hp _ h) (by decide)
       ·exact absurd h (by decide)
       ·exact absurd (isName_low hh.2 _ h) (by decide)
   ·rename_i a b d heq
    have hj:=cutAt_join 58 s
    rw[heq] at hj
    split
    ·rfl
    ·cases hp:plainN a 200 with
     | none=>rfl
     | some tag =>
      simp only
      split
      ·rfl
      ·rename_i hh
       exfalso
       simp only[not_or,Nat.not_lt,Bool.not_eq_false] at hh
       have n1:(61:UInt8) ∉ a:=fun h=>absurd (plainN_dig hp _ h) (by decide)
       have n2:(61:UInt8) ∉ b:=fun h=>absurd (isName_low hh.2 _ h) (by decide)
       have e:s=(a++58::(b++[58]))++d:=by rw[← hj];simp[joinAt]
       have n3:(61:UInt8) ∉ (a++58::(b++[58])):=by simp[n1,n2]
       rw[e,cut1_app n3] at hc
       have:=cut1_sub d _ hc
       exact(cutAt_mem s d (by rw[heq];simp)).1 this
   ·rfl
  ·have e:s=(cut1 61 s).1++61::(cut1 61 s).2.1:=h1
   have hp:cutAt 58 (cut1 61 s).1=(cutAt 58 (cut1 61 s).1).dropLast++[(cutAt 58 (cut1 61 s).1).getLast (cutAt_ne _ _)]:=(List.dropLast_concat_getLast (cutAt_ne _ _)).symm
   have ht:=cutAt_tail (c:=58) (t:=61::(cut1 61 s).2.1) (by simp[hc]) _ _ _ hp
   rw[← e] at ht
   generalize hx:(cut1 61 s).1=x at *
   generalize hv:(cut1 61 s).2.1=v at *
   generalize hq:(cutAt 58 x).getLast (cutAt_ne _ _)=q at *
   generalize hps:(cutAt 58 x).dropLast=ps at *
   unfold fdA fdB
   simp only[hb,hx,hv,ht,hp]
   have hqx:(61:UInt8) ∉ q:=fun hh=>h2 ((cutAt_mem x q (by rw[hp];simp)).2 _ hh)
   match ps with
   | []=>rfl
   | [a] =>
    simp only[List.cons_append,List.nil_append]
    split
    ·rfl
    ·cases plainN a 200 with
     | none=>rfl
     | some tag =>
      have:isName (q++61::v)=false:=by
       cases hn:isName (q++61::v) with
       | false=>rfl
       | true=>exact absurd (isName_low hn 61 (by simp)) (by decide)
      simp[this]
   | [a,b] =>
    simp only[List.cons_append,List.nil_append]
    split
    ·rfl
    ·cases plainN a 200 with
     | none=>rfl
     | some tag =>
      simp only
      split
      ·rfl
      ·rw[cutAt_app hqx]
       by_cases h61:(61:UInt8)∈v
       ·cases hcv:cutAt 61 v with
        | nil=>exact absurd hcv (cutAt_ne _ _)
        | cons g gs =>
         cases gs with
         | nil =>
          have:=cutAt_join 61 v
          rw[hcv] at this
          simp only[joinAt] at this
          subst this
          exact absurd h61 (cutAt_mem g g (by rw[hcv];simp)).1
         | cons g2 gs =>
          simp only
          cases parseK q with
          | none=>rfl
          | some k =>
           have:stOk k v=false:=by
            cases hs:stOk k v with
            | false=>rfl
            | true=>exact absurd h61 (stOk_no hs).2
           simp[this]
       ·rw[cutAt_single h61]
        simp only
        cases parseK q with
        | none=>rfl
        | some k =>
         by_cases hs:sort=82
         ·by_cases ho:stOk k v=true
          ·simp[hs,ho]
          ·simp only[Bool.not_eq_true] at ho;simp[hs,ho]
         ·simp[hs]
   | a::b::d::ps=>cases ps <;> rfl
end Wf

namespace Wf
set_option linter.unusedVariables false
set_option linter.unusedSimpArgs false
def addFds (sort:UInt8):List Fd→List Bs→Option (List Fd)
 | acc,[]=>some acc
 | acc,s::l =>
  match fdA sort s with
  | none=>none
  | some f=>if acc.any (fun g=>decide (f.tag≤g.tag) || g.name==f.name) then none else addFds sort (acc++[f]) l
def lineTy (line:Bs):Option Ty :=
 match line with
 | []=>none
 | c::r =>
  if c≠82∧c≠85∧c≠69 then none else
  let h:=cut1 61 r
  if h.2.2=false∨isName h.1=false then none else
  if h.2.1=[] then (if c=82 then some ⟨c,h.1,[]⟩ else none) else
  match addFds c [] (cutAt 44 h.2.1) with
  | none=>none
  | some l=>if l.length≤8 then some ⟨c,h.1,l⟩ else none
def addTys:List Ty→List Bs→Option (List Ty)
 | acc,[]=>some acc
 | acc,s::l =>
  if acc.length=8 then none else
  match lineTy s with
  | none=>none
  | some t=>if acc.any (fun u=>u.name==t.name) then none else addTys (acc++[t]) l
def hasRef (x:Sc) (k:K):Bool:=decide (k.base≠[64]) || (x.find k.name).isSome
def endsIn (x:Sc):Nat→Ty→Bool
 | 0,_=>false
 | n+1,t =>
  if t.sort≠85 then true else
  match t.fields with
  | []=>true
  | f::_ =>
   match f.kind with
   | .ref nm=>(match x.find nm with|none=>true|some u=>endsIn x n u)
   | _=>true
def refsOk (x:Sc):Bool:=x.all fun t=>decide (t.sort=69) || t.fields.all fun f=>hasRef x f.kind
def schemaOf (s:Bs):Option Sc :=
 if 400<s.length then none else
 if (cutAt 10 s).getLast? ≠ some [] then none else
 match addTys [] (cutAt 10 s).dropLast with
 | none=>none
 | some x=>if refsOk x=true∧x.all (endsIn x 9)=true then some x else none
theorem addFds_len {sort:UInt8}:∀ (l:List Bs) (acc r:List Fd),addFds sort acc l=some r→r.length=acc.length+l.length∧∃ q,r=acc++q:=by
 intro l
 induction l with
 | nil=>intro acc r h;simp[addFds] at h;subst h;simp
 | cons s l ih =>
  intro acc r h
  simp only[addFds] at h
  split at h
  ·simp at h
  ·split at h
   ·simp at h
   ·obtain⟨h1,q,h2⟩:=ih _ _ h
    refine⟨by rw[h1];simp;omega,_::q,by rw[h2];simp;rfl⟩
structure FdOk (sort:UInt8) (f:Fd):Prop where
 tag1:1≤f.tag
 tag2:f.tag≤200
 name:isName f.name=true
 kind:sort≠69→∃ s,parseK s=some f.kind
 given:f.given≠[]→sort=82∧stOk f.kind f.given=true
 enum:sort=69→f.kind=.num∧f.given=[]
theorem fdA_ok {sort:UInt8} {s:Bs} {f:Fd} (h:fdA sort s=some f):FdOk sort f:=by
 rw[fdA_fdB] at h
 unfold fdB at h
 split at h
 ·split at h
  ·simp at h
  ·rename_i hs
   simp only[ne_eq,Decidable.not_not] at hs
   split at h
   ·simp at h
   ·rename_i tag hp
    split at h
    ·simp at h
    ·rename_i hh
     simp only[not_or,Nat.not_lt,Bool.not_eq_false] at hh
     simp only[Option.some.injEq] at h
     subst h
     exact⟨hh.1,(plainN_some hp).2.1,hh.2,fun h=>absurd hs h,by simp,fun _=>⟨rfl,rfl⟩⟩
 ·split at h
  ·simp at h
  ·rename_i hs
   split at h
   ·simp at h
   ·rename_i tag hp
    split at h
    ·simp at h
    ·rename_i hh
     simp only[not_or,Nat.not_lt,Bool.not_eq_false] at hh
     split at h
     ·rename_i e _
      cases hk:parseK e with
      | none=>rw[hk] at h;simp at h
      | some k =>
       rw[hk] at h
       simp only[Option.map_some,Option.some.injEq] at h
       subst h
       exact⟨hh.1,(plainN_some hp).2.1,hh.2,fun _=>⟨e,hk⟩,by simp,fun h=>absurd h hs⟩
     ·rename_i e g _
      cases hk:parseK e with
      | none=>rw[hk] at h;simp at h
      | some k =>
       rw[hk] at h
       simp only at h
       split at h
       ·rename_i ho
        simp only[Option.some.injEq] at h
        subst h
        exact⟨hh.1,(plainN_some hp).2.1,hh.2,fun _=>⟨e,hk⟩,fun _=>ho,fun h=>absurd h hs⟩
       ·simp at h
     ·simp at h
 ·simp at h
theorem addFds_ok {sort:UInt8}:∀ (l:List Bs) (acc r:List Fd),addFds sort acc l=some r →
  (∀ f,f∈acc→FdOk sort f)→(acc.map (·.tag)).Pairwise (· < ·)→(acc.map (·.name)).Pairwise (· ≠ ·) →
  (∀ f,f∈r→FdOk sort f)∧(r.map (·.tag)).Pairwise (· < ·)∧(r.map (·.name)).Pairwise (· ≠ ·):=by
 intro l
 induction l with
 | nil=>intro acc r h h1 h2 h3;simp[addFds] at h;subst h;exact⟨h1,h2,h3⟩
 | cons s l ih =>
  intro acc r h h1 h2 h3
  simp only[addFds] at h
  split at h
  ·simp at h
  ·rename_i f hf
   split at h
   ·simp at h
   ·rename_i hh
    simp only[List.any_eq_true,not_exists,not_and,Bool.or_eq_true,decide_eq_true_eq,beq_iff_eq,not_or,Nat.not_le] at hh
    refine ih _ _ h ?_ ?_ ?_
    ·intro g hg
     rcases List.mem_append.1 hg with hg|hg
     ·exact h1 g hg
     ·simp only[List.mem_singleton] at hg;subst hg;exact fdA_ok hf
    ·rw[List.map_append]
     refine List.pairwise_append.2 ⟨h2,by simp, ?_⟩
     intro a ha b hb
     obtain⟨g,hg,rfl⟩:=List.mem_map.1 ha
     simp only[List.map_cons,List.map_nil,List.mem_singleton] at hb
     subst hb
     exact(hh g hg).1
    ·rw[List.map_append]
     refine List.pairwise_append.2 ⟨h3,by simp, ?_⟩
     intro a ha b hb
     obtain⟨g,hg,rfl⟩:=List.mem_map.1 ha
     simp only[List.map_cons,List.map_nil,List.mem_singleton] at hb
     subst hb
     exact(hh g hg).2
structure TyOk (t:Ty):Prop where
 sort:t.sort=82∨t.sort=85∨t.sort=69
 name:isName t.name=true
 some:t.sort≠82→t.fields≠[]
 len:t.fields.length≤8
 fds:∀ f,f∈t.fields→FdOk t.sort f
 tags:(t.fields.map (·.tag)).Pairwise (· < ·)
 names:(t.fields.map (·.name)).Pairwise (· ≠ ·)
theorem lineTy_ok {s:Bs} {t:Ty} (h:lineTy s=some t):TyOk t:=by
 unfold lineTy at h
 split at h
 ·simp at h
 ·rename_i c r
  split at h
  ·simp at h
  ·rename_i hc
   have hc':c=82∨c=85∨c=69:=by
    by_cases a:c=82
    ·exact .inl a
    ·by_cases b:c=85
     ·exact .inr (.inl b)
     ·exact .inr (.inr (Decidable.byContradiction fun d=>hc ⟨a,b,d⟩))
   simp only at h
   split at h
   ·simp at h
   ·rename_i hn
    simp only[not_or,Bool.not_eq_false] at hn
    split at h
    ·split at h
     ·rename_i h82
      simp only[Option.some.injEq] at h
      subst h
      exact⟨hc',hn.2,fun h=>absurd h82 h,by simp,by simp,by simp,by simp⟩
     ·simp at h
    ·rename_i hne
     cases ha:addFds c [] (cutAt 44 (cut1 61 r).2.1) with
     | none=>rw[ha] at h;simp at h
     | some l =>
      rw[ha] at h
      simp only at h
      split at h
      ·rename_i hl
       simp only[Option.some.injEq] at h
       subst h
       obtain⟨b1,b2,b3⟩:=addFds_ok _ _ _ ha (by simp) (by simp) (by simp)
       obtain⟨b4,_⟩:=addFds_len _ _ _ ha
       refine⟨hc',hn.2,fun _ e => ?_,hl,b1,b2,b3⟩
       simp only at e
       subst e
       have hpos:=List.length_pos_iff.2 (cutAt_ne 44 (cut1 61 r).2.1)
       simp only[List.length_nil,Nat.zero_add] at b4
       omega
      ·simp at h
theorem addTys_ok:∀ (l:List Bs) (acc r:List Ty),addTys acc l=some r →
  (∀ t,t∈acc→TyOk t)→(acc.map (·.name)).Pairwise (· ≠ ·)→acc.length≤8 →
  (∀ t,t∈r→TyOk t)∧(r.map (·.name)).Pairwise (· ≠ ·)∧r.length≤8:=by
 intro l
 induction l with
 | nil=>intro acc r h h1 h2 h3;simp[addTys] at h;subst h;exact⟨h1,h2,h3⟩
 | cons s l ih =>
  intro acc r h h1 h2 h3
  simp only[addTys] at h
  split at h
  ·simp at h
  ·rename_i h8
   split at h
   ·simp at h
   ·rename_i t ht
    split at h
    ·simp at h
    ·rename_i hh
     simp only[List.any_eq_true,not_exists,not_and,beq_iff_eq] at hh
     refine ih _ _ h ?_ ?_ (by simp;omega)
     ·intro u hu
      rcases List.mem_append.1 hu with hu|hu
      ·exact h1 u hu
      ·simp only[List.mem_singleton] at hu;subst hu;exact lineTy_ok ht
     ·rw[List.map_append]
      refine List.pairwise_append.2 ⟨h2,by simp, ?_⟩
      intro a ha b hb
      obtain⟨g,hg,rfl⟩:=List.mem_map.1 ha
      simp only[List.map_cons,List.map_nil,List.mem_singleton] at hb
      subst hb
      exact hh g hg
structure ScOk (x:Sc):Prop where
 tys:∀ t,t∈x→TyOk t
 names:(x.map (·.name)).Pairwise (· ≠ ·)
 len:x.length≤8
 refs:∀ t,t∈x→t.sort≠69→∀ f,f∈t.fields→hasRef x f.kind=true
 ends:∀ t,t∈x→endsIn x 9 t=true
theorem schemaOf_ok {s:Bs} {x:Sc} (h:schemaOf s=some x):ScOk x:=by
 unfold schemaOf at h
 split at h
 ·simp at h
 ·split at h
  ·simp at h
  ·split at h
   ·simp at h
   ·rename_i y hy
    split at h
    ·rename_i hh
     simp only[Option.some.injEq] at h
     subst h
     obtain⟨b1,b2,b3⟩:=addTys_ok _ _ _ hy (by simp) (by simp) (by simp)
     refine⟨b1,b2,b3, ?_,fun t ht=>List.all_eq_true.1 hh.2 t ht⟩
     intro t ht hs f hf
     have:=List.all_eq_true.1 hh.1 t ht
     simp only[Bool.or_eq_true,decide_eq_true_eq] at this
     rcases this with h|h
     ·exact absurd h hs
     ·exact List.all_eq_true.1 h f hf
    ·simp at h
theorem find_mem {x:Sc} {nm:Bs} {t:Ty} (h:x.find nm=some t):t∈x∧t.name=nm:=by
 refine⟨List.mem_of_find?_eq_some h, ?_⟩
 have:=List.find?_some h
 simpa using this
theorem field_mem {t:Ty} {g:Nat} {f:Fd} (h:t.field g=some f):f∈t.fields∧f.tag=g:=by
 refine⟨List.mem_of_find?_eq_some h, ?_⟩
 have:=List.find?_some h
 simpa using this
end Wf

namespace Go.Proofs.YtmdacedmjbiekaaGreatDoor
open Go.ChangeShapes Go.WideShapes Go.ChangeAt Go.RowKit Go.Lib
set_option linter.unusedVariables false
def RowK (w:World) (b:Nat) (v:Value) (k:Nat) (es:List (List Value)):Prop :=
 ∃ a cap,v=.slice a es.length cap∧es.length≤cap∧cap≤maxLen∧(es=[]∨∃ o,a=some ⟨b,o,none⟩∧b<w.heap.size∧∀ i (h:i<es.length) j u,j<k→es[i][j]? = some u→w.cell? ⟨b,o+i * k+j,none⟩=some u)
theorem RowK.keep {w w':World} {b k:Nat} {v:Value} {es:List (List Value)} (h:RowK w b v k es) (hs:w.heap.size≤w'.heap.size) (hk:b<w.heap.size→w'.heap[b]? = w.heap[b]?):RowK w' b v k es:=by
 obtain⟨a,cap,h1,h2,h3,h4⟩:=h
 refine⟨a,cap,h1,h2,h3, ?_⟩
 rcases h4 with h4|⟨o,h5,h6,h7⟩
 ·exact .inl h4
 ·exact .inr ⟨o,h5,Nat.lt_of_lt_of_le h6 hs,fun i hi j u hj hu=>(World.cell?_of_block (w:=w) (a:=⟨b,o+i * k+j,none⟩) (hk h6)).trans (h7 i hi j u hj hu)⟩
theorem RowK.below {w w':World} {b k:Nat} {v:Value} {es:List (List Value)} (h:RowK w b v k es) (hb:Below w.heap.size w w'):RowK w' b v k es:=h.keep hb.size fun hx=>hb.block b hx
theorem RowK.drewN {w:World} {b k:Nat} {v:Value} {es:List (List Value)} (h:RowK w b v k es) (n:Nat):RowK (w.drewN n) b v k es:=h.keep (Nat.le_refl _) fun _=>rfl
theorem flat_get (k:Nat):∀ (es:List (List Value)),(∀ e∈es,e.length=k)→∀ i (hi:i<es.length) j,j<k→es.flatten[i * k+j]? = es[i][j]?:=by
 intro es
 induction es with
 | nil=>intro _ i hi;simp at hi
 | cons e es ih =>
  intro hk i hi j hj
  have he:e.length=k:=hk e (List.mem_cons_self ..)
  rw[List.flatten_cons]
  cases i with
  | zero =>
   rw[Nat.zero_mul,Nat.zero_add,List.getElem?_append_left (by omega)]
   rfl
  | succ i =>
   have e1:(i+1) * k+j=e.length+(i * k+j):=by rw[Nat.succ_mul,he];omega
   rw[e1,List.getElem?_append_right (by omega),Nat.add_sub_cancel_left]
   rw[ih (fun e' h'=>hk e' (List.mem_cons_of_mem _ h')) i (by simpa using hi) j hj]
   rfl
theorem flat_len (k:Nat):∀ (es:List (List Value)),(∀ e∈es,e.length=k)→es.flatten.length=es.length * k:=by
 intro es
 induction es with
 | nil=>intro _;simp
 | cons e es ih =>
  intro hk
  rw[List.flatten_cons,List.length_append,hk e (List.mem_cons_self ..),ih (fun e' h'=>hk e' (List.mem_cons_of_mem _ h')),List.length_cons,Nat.succ_mul]
  omega
theorem RowK.of_owns {w:World} {base k:Nat} {e:TypeId} {v:Value} {es:List (List Value)} (h:w.ownsRow base e k v es.length es.flatten) (hk:∀ e∈es,e.length=k):∃ b,base≤b∧RowK w b v k es:=by
 obtain⟨h1,h2|⟨g,cap,cur,h3,h4,h5,h6,h7,h8,h9⟩⟩:=h
 ·refine⟨base,Nat.le_refl _,none,0, ?_,by omega,by unfold maxLen;omega, .inl (List.eq_nil_of_length_eq_zero h2.2)⟩
  rw[h2.1,h2.2]
 ·refine⟨g,h4,_,cap,h3,h6,h7, .inr ⟨0,rfl,(Array.getElem?_eq_some_iff.1 h5).1,fun i hi j u hj hu => ?_⟩⟩
  have hlt:i * k+j<es.length * k:=by
   have:(i+1) * k≤es.length * k:=Nat.mul_le_mul_right k hi
   rw[Nat.succ_mul] at this;omega
  have hx:(cur.toList.take (es.length * k))[i * k+j]? = es.flatten[i * k+j]?:=by rw[h9]
  rw[List.getElem?_take,if_pos hlt,flat_get k es hk i hi j hj,hu] at hx
  have hx2:cur[i * k+j]? = some u:=by simpa using hx
  simp[World.cell?,h5,hx2]
def fdC (sort:UInt8) (f:Wf.Fd):List Value :=
 if sort=69 then [.int .i64 f.tag,tx f.name,tx [],tx [],tx [],tx []] else [.int .i64 f.tag,tx f.name,tx f.kind.signs,tx f.kind.base,tx f.kind.name,tx f.given]
theorem fdC_len (sort:UInt8) (f:Wf.Fd):(fdC sort f).length=6:=by unfold fdC;split <;> rfl
def TyAt (w:World) (b:Nat) (t:Wf.Ty):Prop:=∃ fb v line,b<w.heap.size∧w.cell? ⟨b,0,none⟩=some (.int .u8 t.sort.toNat)∧w.cell? ⟨b,1,none⟩=some (tx t.name)∧w.cell? ⟨b,2,none⟩=some v∧w.cell? ⟨b,3,none⟩=some (.string line)∧RowK w fb v 6 (t.fields.map (fdC t.sort))
theorem TyAt.below {w w':World} {b:Nat} {t:Wf.Ty} (h:TyAt w b t) (hb:Below w.heap.size w w'):TyAt w' b t:=by
 obtain⟨fb,v,line,h0,h1,h2,h3,h4,h5⟩:=h
 refine⟨fb,v,line,Nat.lt_of_lt_of_le h0 hb.size, ?_, ?_, ?_, ?_,h5.below hb⟩
 ·exact(hb.cell (p:=⟨b,0,none⟩) h0).trans h1
 ·exact(hb.cell (p:=⟨b,1,none⟩) h0).trans h2
 ·exact(hb.cell (p:=⟨b,2,none⟩) h0).trans h3
 ·exact(hb.cell (p:=⟨b,3,none⟩) h0).trans h4
abbrev ptr (b:Nat):Value:=.pointer (some ⟨b,0,none⟩)
def ptrR:Value→Option (DataW Unit × List MemPlace)
 | .pointer (some ⟨b,0,none⟩)=>some (.lit (.int .i64 b),[])
 | .pointer none=>some (.nil,[])
 | _=>none
theorem ptrR_inv {v:Value} {d:DataW Unit} {ps:List MemPlace} (h:ptrR v=some (d,ps)):(∃ b:Nat,v=ptr b∧d=.lit (.int .i64 b))∨(v=.pointer none∧d=.nil):=by
 unfold ptrR at h
 split at h
 ·rename_i b;cases h;exact .inl ⟨b,rfl,rfl⟩
 ·cases h;exact .inr ⟨rfl,rfl⟩
 ·cases h
def MapIs (w:World) (mb:Nat) (n:Nat) (f:List UInt8→Option Nat):Prop:=∃ D,w.ownsMap Tryz.prog 9 ptrR mb n D ∧
 ∀ nm,D.atKey (.string nm) .nil=match f nm with|some b=>.lit (.int .i64 b)|none=>.nil
end Go.Proofs.YtmdacedmjbiekaaGreatDoor

namespace Wf
set_option linter.unusedVariables false
set_option linter.unusedSimpArgs false
def putN (n:Nat):Bs:=if n<128 then [UInt8.ofNat n] else UInt8.ofNat (128+n % 128)::putN (n / 128)
termination_by n
decreasing_by omega
end Wf
