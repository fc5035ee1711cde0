/- Packed by pack.py: Nq Hc Vb Iu. -/
import Derived.Test.YtidjpalnmnehmaaGreatDoorE7
import Derived.Test.YtidjpalnmnehmaaGreatDoorE6
import Derived.Test.YtidjpalnmnehmaaGreatDoorE20
import Derived.Test.YtidjpalnmnehmaaGreatDoorE1
import Derived.Shelf.Strings.Builder1
import Derived.Test.YtidjpalnmnehmaaGreatDoorE8
import Derived.Deep.RegionWith
import Derived.Deep.QuietTactic
import Derived.BigQuiet
namespace Go.Proofs.YtidjpalnmnehmaaGreatDoor
open Go.ChangeShapes Go.WideShapes Go.ChangeAt Go.RowKit Go.Lib
set_option linter.unusedVariables false
structure NumC (l:List UInt8):Prop where
 ne:l≠[]
 len:l.length≤6
 all:l.all Wf.isDig=true
 head:l.head? = some 48→l.length=1
noncomputable def numV (l:List UInt8):Nat:=open Classical in if NumC l then Wf.val l else 0
theorem num_bad (most:Nat) {l:List UInt8} (h:¬ NumC l):numV l=0∧(Wf.plainN l most).isSome=false:=by
 refine⟨by unfold numV;rw[if_neg h], ?_⟩
 unfold Wf.plainN
 rw[if_neg (fun hh=>h ⟨hh.1,hh.2.1,hh.2.2.1,hh.2.2.2.1⟩)]
 rfl
theorem num_good (most:Nat) {l:List UInt8} (h:NumC l):numV l=Wf.val l∧(Wf.plainN l most).isSome=decide (Wf.val l≤most):=by
 refine⟨by unfold numV;rw[if_pos h], ?_⟩
 unfold Wf.plainN
 by_cases hv:Wf.val l≤most
 ·rw[if_pos ⟨h.ne,h.len,h.all,h.head,hv⟩,decide_eq_true hv];rfl
 ·rw[if_neg (fun hh=>hv hh.2.2.2.2),decide_eq_false hv];rfl
theorem num_no {l:List UInt8} {i:Nat} {c:UInt8} (h:l[i]? = some c) (hc:c.toNat<48∨57<c.toNat):¬ NumC l:=by
 intro hn
 have:=List.all_eq_true.1 hn.all c (List.mem_of_getElem? h)
 simp[Wf.isDig] at this
 omega
theorem val_lt10 {l:List UInt8} (h:l.all Wf.isDig=true):Wf.val l<10 ^ l.length:=by
 induction l using Wf.snoc_ind with
 | h0=>simp[Wf.val]
 | h1 s c ih =>
  rw[List.all_append,Bool.and_eq_true] at h
  have h1:=ih h.1
  rw[Wf.val_snoc,List.length_append,List.length_singleton,Nat.pow_succ]
  have:Wf.isDig c=true:=by simpa using h.2
  simp[Wf.isDig] at this
  omega
theorem numV_le (l:List UInt8):numV l≤999999:=by
 unfold numV
 split
 ·rename_i h
  have h1:=val_lt10 h.all
  have h2:10 ^ l.length≤10 ^ 6:=Nat.pow_le_pow_right (by decide) h.len
  have h3:10 ^ 6=1000000:=rfl
  omega
 ·omega
theorem numV_some {l:List UInt8} {most n:Nat} (h:Wf.plainN l most=some n):numV l=n:=by
 by_cases hn:NumC l
 ·obtain⟨h1,_⟩:=num_good most hn
  obtain⟨h3,_,_⟩:=Wf.plainN_some h
  rw[h1,h3,Wf.val_dec]
 ·have:=(num_bad most hn).2
  rw[h] at this
  cases this
set_option maxRecDepth 20000 in
set_option maxHeartbeats 1000000 in
theorem plainNumberV (s:ByteArray) (most:Nat) (hm:most≤999999) (w:World):Calls Tryz.prog 76 #[.string s, .int .i64 most] w fun e w'=>e=.returned (.tuple #[.int .i64 (numV s.data.toList), .bool (Wf.plainN s.data.toList most).isSome])∧w=w':=by
 have hl:=size_list s
 by_cases h1:s.size<1
 ·have h0:s.data.toList=[]:=List.eq_nil_of_length_eq_zero (by omega)
  have HN:=hid (num_bad most (show ¬ NumC s.data.toList from fun h=>h.ne h0))
  clear h0 hl
  go_enter Tryz.func76,Tryz.ntmps76
  go_wp2
  go_ret2
  exact⟨by rw[HN.out.1,HN.out.2];rfl,rfl⟩
 ·by_cases h6:6<s.size
  ·have HN:=hid (num_bad most (show ¬ NumC s.data.toList from fun h=>by have:=h.len;omega))
   clear hl
   go_enter Tryz.func76,Tryz.ntmps76
   go_wp2
   go_ret2
   exact⟨by rw[HN.out.1,HN.out.2];rfl,rfl⟩
  ·obtain⟨c0,hc0,e0⟩:=byte_at s 0 (by omega)
   by_cases hz:c0.toNat=48∧1<s.size
   ·obtain⟨hz1,hz2⟩:=hz
    have HN:=hid (num_bad most (show ¬ NumC s.data.toList from fun h=>by
     have:=h.head (by rw[List.head?_eq_getElem?,hc0];exact congrArg some (UInt8.toNat_inj.1 (by rw[hz1];rfl)))
     omega))
    rw[hz1] at e0
    clear hl hc0 hz1
    go_enter Tryz.func76,Tryz.ntmps76
    go_wp2
    go_ret2
    exact⟨by rw[HN.out.1,HN.out.2];rfl,rfl⟩
   ·obtain⟨a,ha⟩:∃ a,c0.toNat=a:=⟨_,rfl⟩
    rw[ha] at e0 hz
    have hne:s.data.toList≠[]:=fun h=>by rw[h] at hl;simp at hl;omega
    have h0:s.data.toList.head? = some 48→s.data.toList.length=1:=by
     intro h
     rw[List.head?_eq_getElem?,hc0] at h
     have h48:a=48:=by rw[← ha,Option.some.inj h];rfl
     omega
    have HE:=hid fun(h:s.data.toList.all Wf.isDig=true)=>num_good most (show NumC s.data.toList from⟨hne,by omega,h,h0⟩)
    have HL:=hid hl
    have hg:(((a:Int)==48)=true∧decide ((1:Int)<(s.size:Int))=false)∨((a:Int)==48)=false:=by
     by_cases h48:a=48
     ·exact .inl ⟨by rw[h48];rfl,decide_eq_false (by omega)⟩
     ·exact .inr (by rw[beq_eq_false_iff_ne];omega)
    clear hz hc0 ha hl hne h0
    rcases hg with⟨hg1,hg2⟩|hg1
    all_goals
     go_enter Tryz.func76,Tryz.ntmps76
     go_wp2
     go_loop [6,28] (fun n i=>∃ k v:Nat,k≤s.size∧i=.int .i64 k∧n=.int .i64 v∧v<10 ^ k∧Hid ((s.data.toList.take k).all Wf.isDig=true∧v=Wf.val (s.data.toList.take k))) (fun _ i=>s.size-(RowKit.intOf i).toNat)
     case atStart=>exact⟨0,0,Nat.zero_le _,rfl,rfl,by decide,hid ⟨by simp,by simp[Wf.val]⟩⟩
     case round =>
      obtain⟨k,v,hk,rfl,rfl,hv,hd⟩:=hrel
      by_cases hlt:k<s.size
      ·obtain⟨c,hc,e1⟩:=byte_at s k hlt
       obtain⟨b,hb⟩:∃ b,c.toNat=b:=⟨_,rfl⟩
       rw[hb] at e1
       have HC:=hid hc
       have HB:=hid hb
       have hv6:v<1000000:=by
        have:10 ^ k≤10 ^ 5:=Nat.pow_le_pow_right (by decide) (by omega)
        have:10 ^ 5=100000:=rfl
        omega
       have hb256:b<256:=by rw[← hb];exact c.toNat_lt
       clear hc hb
       by_cases hlo:b<48
       ·go_wp2
        go_ret2
        have HX:=num_bad most (num_no HC.out (by rw[HB.out];omega))
        exact⟨by rw[HX.1,HX.2];rfl,rfl⟩
       ·by_cases hhi:57<b
        ·go_wp2
         go_ret2
         have HX:=num_bad most (num_no HC.out (by rw[HB.out];omega))
         exact⟨by rw[HX.1,HX.2];rfl,rfl⟩
        ·have HT:=hid (dig_take hd.out.1 HC.out (by rw[HB.out];omega) (by rw[HB.out];omega))
         go_wp2
         go_round
         case rel=>exact⟨k+1,10 * v+(b-48),by omega,by go_num,congrArg (Value.int .i64) (by rw[Int.natCast_add,Int.natCast_mul,Int.ofNat_sub (by omega)];rfl),by rw[Nat.pow_succ];omega,hid ⟨HT.out.1,by rw[HT.out.2,HB.out,hd.out.2]⟩⟩
         case measure=>simp[RowKit.intOf];omega
      ·have hks:k=s.size:=by omega
       subst hks
       have HF:=hid (show s.data.toList.all Wf.isDig=true∧v=Wf.val s.data.toList by have:=hd.out;rwa[List.take_of_length_le (by rw[HL.out];exact Nat.le_refl _)] at this)
       go_wp2
       go_ret2
       have HX:=HE.out HF.out.1
       exact⟨by rw[HX.1,HX.2,← HF.out.2];rfl,rfl⟩
end Go.Proofs.YtidjpalnmnehmaaGreatDoor

namespace Go.Proofs.YtidjpalnmnehmaaGreatDoor
open Go.ChangeShapes Go.WideShapes Go.ChangeAt Go.RowKit Go.Lib
set_option linter.unusedVariables false
set_option linter.unusedSimpArgs false
def Bu (B b:Nat) (l:List UInt8) (w:World):Prop:=Lib.IsBuilder 135 5 B b (Lib.byteCells l) w
theorem Bu.below {B b:Nat} {l:List UInt8} {w w':World} (h:Bu B b l w) (hb:Below w.heap.size w w'):Bu B b l w':=by
 have k:∀ p,Lib.BuilderAt 135 5 B b p (Lib.byteCells l) w→Lib.BuilderAt 135 5 B b p (Lib.byteCells l) w':=fun p h=>by
  have hlt:=h.lt
  obtain⟨h1,v,h2,h3,h4⟩:=h
  exact⟨h1,v,(hb.block b hlt).trans h2,owns_below h3 hb,h4⟩
 exact h.imp (k _) (k _)
theorem Bu.lt {B b:Nat} {l:List UInt8} {w:World} (h:Bu B b l w):B≤b∧b<w.heap.size:=by
 rcases h with h|h
 ·exact⟨h.1,h.lt⟩
 ·exact⟨h.1,h.lt⟩
theorem Bu.new (w:World):Bu w.heap.size w.heap.size [] (w.alloc (.cells #[.pointer none, .slice none 0 0] 135)):=Lib.fresh_isBuilder _ _ _
theorem wstr (B b:Nat) (l:List UInt8) (s:ByteArray) (w:World) (h:Bu B b l w) (hl:l.length+s.size≤1000000000) (hB:B≤w.heap.size):Calls Tryz.prog 79 #[ptr b, .string s] w fun e w'=>e=.returned (.tuple #[.int .i64 s.size, .nilIface])∧Bu B b (l++s.data.toList) w'∧Below B w w':=by
 refine(Any.Builder_WriteString { Tryz.lays156 with } Tryz.Builder_Extra_156 B b (Lib.byteCells l) s w h (by rw[Lib.byteCells_length];omega) hB).mono ?_
 rintro e w' ⟨h1,h2,h3⟩
 refine⟨h1, .inr ?_,h3⟩
 have e0:Lib.byteCells (l++s.data.toList)=Lib.byteCells l++Lib.strCells s:=by unfold Lib.byteCells Lib.strCells;rw[List.map_append]
 rw[e0]
 exact h2
theorem bstr (B b:Nat) (l:List UInt8) (w:World) (h:Bu B b l w) (hB:B≤w.heap.size):Calls Tryz.prog 80 #[ptr b] w fun e w'=>e=.returned (tx l)∧Below B w w' :=
 Any.Builder_String_any Tryz.lays169 Tryz.Builder_Extra_169 B b l w h hB
theorem flat_take {l:List Wf.V} {i:Nat} (hi:i<l.length):((l.take (i+1)).map Wf.V.bytes).flatten=((l.take i).map Wf.V.bytes).flatten++(l[i]).bytes:=by
 have e:l.take (i+1)=l.take i++[l[i]]:=by rw[List.take_add_one,List.getElem?_eq_getElem hi];rfl
 rw[e,List.map_append,List.flatten_append,List.map_cons,List.map_nil,List.flatten_cons,List.flatten_nil,List.append_nil]
theorem flat_mem {l:List Wf.V} {v:Wf.V} (h:v∈l):v.bytes.length≤(l.map Wf.V.bytes).flatten.length:=by
 induction l with
 | nil=>cases h
 | cons a l ih =>
  rw[List.map_cons,List.flatten_cons,List.length_append]
  rcases List.mem_cons.1 h with rfl|h
  ·omega
  ·have:=ih h;omega
theorem flat_take_le (l:List Wf.V) (i:Nat):((l.take i).map Wf.V.bytes).flatten.length≤(l.map Wf.V.bytes).flatten.length:=by
 conv=>rhs;rw[← List.take_append_drop i l]
 rw[List.map_append,List.flatten_append,List.length_append]
 omega
theorem BOk.kid {what:UInt8} {text:List UInt8} {tag:Nat} {kids:List Wf.V} (h:Wf.BOk (.mk what text tag kids)) {u:Wf.V} (hu:u∈kids):Wf.BOk u:=by
 cases h with
 | mk _ _ _ _ _ _ _ h8=>exact h8 u hu
theorem BOk.len {what:UInt8} {text:List UInt8} {tag:Nat} {kids:List Wf.V} (h:Wf.BOk (.mk what text tag kids)):kids.length≤1000∧tag≤999999:=by
 cases h with
 | mk _ _ _ _ h5 h6 _ _=>exact⟨h6,h5⟩
set_option maxRecDepth 20000 in
set_option maxHeartbeats 2000000 in
theorem bytesI (v:Wf.V):∀ (hok:Wf.BOk v) (P:Nat→Prop) (cs:List Value) (W w:World),VC W P v cs→Below W.heap.size W w→v.bytes.length≤100000→Calls Tryz.prog 49 #[.agg cs.toArray] w fun e w'=>e=.returned (tx v.bytes)∧Below w.heap.size w w':=by
 refine Wf.V.induct (P:=fun v=>∀ (hok:Wf.BOk v) (P:Nat→Prop) (cs:List Value) (W w:World),VC W P v cs→Below W.heap.size W w→v.bytes.length≤100000→Calls Tryz.prog 49 #[.agg cs.toArray] w fun e w'=>e=.returned (tx v.bytes)∧Below w.heap.size w w') ?_ v
 intro what text tag kids ih hok P cs W w HV hW hlen
 obtain⟨a,c,rfl,hnc,hcm,hsh,hk⟩:=HV.form
 simp only[Wf.V.what,Wf.V.text,Wf.V.tag,Wf.V.kids] at *
 obtain⟨hkl,htag⟩:=BOk.len hok
 obtain⟨n,hn⟩:∃ n,kids.length=n:=⟨_,rfl⟩
 obtain⟨q,hq⟩:∃ q,what.toNat=q:=⟨_,rfl⟩
 obtain⟨T,hT⟩:∃ T:ByteArray,(⟨text.toArray⟩:ByteArray)=T:=⟨_,rfl⟩
 have hTl:T.data.toList=text:=by rw[← hT]
 have hTs:T.size=text.length:=by rw[← hT];rfl
 have HN:=hid hn
 have HW:=hid hW
 have HFC:=hid (Wf.bytes_by hok q hq)
 have hkb:∀ u,u∈kids→u.bytes.length≤100000→∀ (P:Nat→Prop) (cs:List Value) (W w:World),VC W P u cs→Below W.heap.size W w→Calls Tryz.prog 49 #[.agg cs.toArray] w fun e w'=>e=.returned (tx u.bytes)∧Below w.heap.size w w':=fun u hu hl P cs W w hv hb=>ih u hu (BOk.kid hok hu) P cs W w hv hb hl
 -- of the part at a place
 have KID:=hid fun(i:Nat) (hik:i<kids.length) (hbl:(kids[i]).bytes.length≤100000) (wr:World) (hwr:Below W.heap.size W wr)=>(show ∃ (b o q' n' c' g':Nat) (T':ByteArray) (a':Option Addr),a=some ⟨b,o,none⟩∧b<W.heap.size∧b<wr.heap.size∧wr.cell? ⟨b,o+i * 4,none⟩=some (.int .u8 q')∧wr.cell? ⟨b,o+i * 4+1,none⟩=some (.string T')∧wr.cell? ⟨b,o+i * 4+2,none⟩=some (.int .i64 g')∧wr.cell? ⟨b,o+i * 4+3,none⟩=some (.slice a' n' c')∧∀ wz,Below W.heap.size W wz→Calls Tryz.prog 49 #[.agg #[.int .u8 q', .string T', .int .i64 g', .slice a' n' c']] wz fun e w'=>e=.returned (tx (kids[i]).bytes)∧Below wz.heap.size wz w' from by
  rcases hk with h0|⟨b,o,ha,hPb,hbW,hvs⟩
  ·rw[h0] at hik;simp at hik
  obtain⟨cs',hvc,hcell⟩:=hvs.get i hik
  obtain⟨a',c',rfl,hnc',hcm',hsh',hk'⟩:=hvc.form
  refine⟨b,o,_,_,_,_,_,a',ha,hbW,Nat.lt_of_lt_of_le hbW hwr.size, ?_, ?_, ?_, ?_,fun wz hz=>hkb kids[i] (List.getElem_mem hik) hbl P _ W wz hvc hz⟩
  ·exact(hwr.cell (p:=⟨b,o+i * 4,none⟩) hbW).trans (by have:=hcell 0 _ rfl;rwa[Nat.add_zero] at this)
  ·exact(hwr.cell (p:=⟨b,o+i * 4+1,none⟩) hbW).trans (hcell 1 _ rfl)
  ·exact(hwr.cell (p:=⟨b,o+i * 4+2,none⟩) hbW).trans (hcell 2 _ rfl)
  ·exact(hwr.cell (p:=⟨b,o+i * 4+3,none⟩) hbW).trans (hcell 3 _ rfl))
 have BA:=hid ((Below.refl w.heap.size w).alloc (Nat.le_refl _) (.cells #[.int .u8 q, .string T, .int .i64 tag, .slice a n c] 51))
 rw[hn] at hnc hkl
 unfold maxLen at hcm
 simp only[tx,hT,hq,hn]
 have HNT:=hid fun(m:Nat) (hm:m≤999999) wz=>numText m hm wz
 simp only[tx] at HNT
 clear ih hkb hk hW hsh HV hT hq hok
 rcases HFC.out with⟨rfl,m,hm,hmt,hp⟩|⟨rfl,ht12,hp⟩|⟨rfl,hty,hp⟩|⟨rfl,htn,hp⟩|⟨rfl,hp⟩|⟨rfl,h0,hp⟩|⟨rfl,u,hu,hp⟩|⟨rfl,hp⟩|⟨hq2,u,hu,hp⟩|⟨rfl,hp⟩
 all_goals rw[hp] at hlen ⊢
 all_goals try rw[show((91:Nat):Int)=91 from rfl] at BA ⊢
 all_goals try rw[show((82:Nat):Int)=82 from rfl] at BA ⊢
 all_goals try rw[show((63:Nat):Int)=63 from rfl] at BA ⊢
 all_goals clear hp HFC
 ·have HPN:=hid fun wz=>plainNumberV T 999999 (Nat.le_refl _) wz
  rw[hTl,hmt,Wf.plainN_dec hm hm,numV_some (Wf.plainN_dec hm hm)] at HPN
  have HPN2:=hid fun wz=>(HPN.out wz).mono (R':=fun e w'=>e=.returned (.tuple #[.int .i64 m, .bool true])∧wz=w') fun e w' h=>h
  have HM:=hid (HNT.out m hm)
  clear HPN hTl hTs hmt HNT
  go_enter Tryz.func49,Tryz.ntmps49
  go_wp2_with (first|(go_at_call 77;refine(HM.out _).mono ?_;rintro e w3 ⟨rfl,hb3⟩;have B3:=hid (below_join BA.out hb3);clear hb3)|(go_at_call 76;refine(HPN2.out _).mono ?_;rintro e w2 ⟨rfl,rfl⟩))
  go_ret
  exact⟨rfl,B3.out⟩
 ·have HS:=hid fun wz=>sized T (by omega) wz
  rw[hTl] at HS
  simp only[tx] at HS
  clear hTl hTs HNT
  go_enter Tryz.func49,Tryz.ntmps49
  go_wp2_with (go_at_call 78;refine(HS.out _).mono ?_;rintro e w3 ⟨rfl,hb3⟩;have B3:=hid (below_join BA.out hb3);clear hb3)
  go_ret
  exact⟨rfl,B3.out⟩
 ·have hy:(T.toList==[121,101,115])=true:=by rw[ByteArray.toList_eq,hTl,hty];rfl
  have hy2:(T.toList==(⟨#[121,101,115]⟩:ByteArray).toList)=true:=by rw[ByteArray.toList_eq,ByteArray.toList_eq,hTl,hty];rfl
  clear hTl hTs HNT hty
  go_enter Tryz.func49,Tryz.ntmps49
  go_wp2_with fail
  go_ret
  exact⟨rfl,BA.out⟩
 ·have hy:(T.toList==[121,101,115])=false:=by rw[ByteArray.toList_eq,hTl,beq_eq_false_iff_ne];exact htn
  have hy2:(T.toList==(⟨#[121,101,115]⟩:ByteArray).toList)=false:=by rw[ByteArray.toList_eq,ByteArray.toList_eq,hTl,beq_eq_false_iff_ne];exact htn
  clear hTl hTs HNT htn
  go_enter Tryz.func49,Tryz.ntmps49
  go_wp2_with fail
  go_ret
  exact⟨rfl,BA.out⟩
 ·have hn1:n≤999999:=by omega
  have HM:=hid (HNT.out n hn1)
  rw[hn] at hlen ⊢
  obtain⟨NB,hNB⟩:∃ NB:ByteArray,(⟨(Wf.putN n).toArray⟩:ByteArray)=NB:=⟨_,rfl⟩
  have hNs:NB.size≤3:=by rw[← hNB];exact(Wf.putN_len n hn1).2
  have hNl:NB.data.toList=Wf.putN n:=by rw[← hNB]
  have HNL:=hid hNl
  rw[hNB] at HM
  have hNl2:(Wf.putN n).length≤3:=(Wf.putN_len n hn1).2
  rw[List.length_append] at hlen
  clear hTl hTs HNT hNl hn hNB
  have hfl:=hid fun(i:Nat)=>flat_take_le kids i
  have hfm:=hid fun(u:Wf.V) (h:u∈kids)=>flat_mem h
  go_enter Tryz.func49,Tryz.ntmps49
  go_wp2_with (first|(go_at_call 79;have _u:=B1;refine(wstr (w.heap.size+1) (w.heap.size+1) [] NB _ (U1.out) (by simp;omega) (by have:=U1.out.lt;omega)).mono ?_;rintro e w2 ⟨rfl,hu2,hb2⟩;have BU1:=hid (show Bu (w.heap.size+1) (w.heap.size+1) (Wf.putN n) w2 by rw[← HNL.out];exact hu2);have BW1:=hid (B1.out.trans (hb2.mono (by omega)));have z3:w2.cell? ⟨w.heap.size,3,none⟩=some (.slice a n c):=(hb2.cell (p:=⟨w.heap.size,3,none⟩) (Nat.lt_succ_self _)).trans y3;have zl:w.heap.size<w2.heap.size:=Nat.lt_of_lt_of_le yl hb2.size;clear hu2 hb2)|(go_at_call 77;refine(HM.out _).mono ?_;rintro e w1 ⟨rfl,hb1⟩;have U1:=hid ((show Bu (w.heap.size+1) (w.heap.size+1) [] ((w.alloc (.cells #[.int .u8 91, .string T, .int .i64 tag, .slice a n c] 51)).alloc (.cells #[.pointer none, .slice none 0 0] 135)) from by have:=Bu.new (w.alloc (.cells #[.int .u8 91, .string T, .int .i64 tag, .slice a n c] 51));simpa using this).below hb1);have B1:=hid (below_join (BA.out.alloc BA.out.size (.cells #[.pointer none, .slice none 0 0] 135)) hb1);have y3:w1.cell? ⟨w.heap.size,3,none⟩=some (.slice a n c):=(hb1.cell (p:=⟨w.heap.size,3,none⟩) (by simp;omega)).trans (by simp[go_sem]);have yl:w.heap.size<w1.heap.size:=Nat.lt_of_lt_of_le (by simp;omega) hb1.size;clear hb1))
  go_loopw [43] (fun sI wr=>∃ (i:Nat),sI=.int .i64 i∧i≤n∧Hid (Bu (w.heap.size+1) (w.heap.size+1) (Wf.putN n++((kids.take i).map Wf.V.bytes).flatten) wr∧Below w.heap.size w wr)) (fun sI _=>n-(RowKit.intOf sI).toNat)
  case atStart=>exact⟨0,rfl,Nat.zero_le _,hid ⟨by simpa using BU1.out,BW1.out⟩⟩
  case round =>
   obtain⟨i,rfl,hi,hh⟩:=hrel
   have BW:=hid (HW.out.trans (hh.out.2.mono HW.out.size))
   by_cases hlt:i<n
   ·have hik:i<kids.length:=by rw[HN.out];exact hlt
    have hkl1:=hfm.out _ (List.getElem_mem hik)
    obtain⟨b,o,q',n',c',g',T',a',rfl,hbW,hb,k0,k1,k2,k3,hrec⟩:=KID.out i hik (by omega) wr BW.out
    obtain⟨R,hR⟩:∃ R:ByteArray,(⟨(kids[i]).bytes.toArray⟩:ByteArray)=R:=⟨_,rfl⟩
    have hRs:R.size=(kids[i]).bytes.length:=by rw[← hR];rfl
    have HFT:=hid (show((kids.take (i+1)).map Wf.V.bytes).flatten=((kids.take i).map Wf.V.bytes).flatten++R.data.toList by rw[flat_take hik,← hR])
    have hfl1:=hfl.out i
    have HLE:=hid (show(Wf.putN n++((kids.take i).map Wf.V.bytes).flatten).length+R.size≤1000000000 by(try simp only[List.length_append] at hlen ⊢);omega)
    simp only[tx,hR] at hrec
    have HR:=hid hrec
    clear hrec hR hRs hkl1 hfl1
    go_wp2_with (first|(go_at_call 79;have _u:=B2;refine(wstr (w.heap.size+1) (w.heap.size+1) _ R _ (hh.out.1.below B2.out) HLE.out (by have h1:=hh.out.1.lt;have:=B2.out.size;omega)).mono ?_;rintro e w3 ⟨rfl,hu3,hb3⟩;have U3:=hid hu3;have B3:=hid hb3;clear hu3 hb3)|(go_at_call 49;refine(HR.out _ (BW.out.trans (((Below.refl _ _).alloc (Nat.le_refl _) _).mono BW.out.size))).mono ?_;rintro e w2 ⟨rfl,hb2⟩;have B2:=hid (below_join ((Below.refl wr.heap.size wr).alloc (Nat.le_refl _) _) hb2);clear hb2))
    go_roundw
    case rel=>exact⟨i+1,by go_num,by omega,hid ⟨by rw[HFT.out];simpa only [List.append_assoc] using U3.out,hh.out.2.trans ((B2.out.mono hh.out.2.size).trans (B3.out.mono (by omega)))⟩⟩
    case measure=>simp[RowKit.intOf];omega
   ·have hin:n=i:=by omega
    subst hin
    have HTK:=hid (show kids.take n=kids from List.take_of_length_le (by rw[HN.out];exact Nat.le_refl _))
    have HU:=hid (by rw[HTK.out] at hh;exact hh.out.1:Bu (w.heap.size+1) (w.heap.size+1) (Wf.putN n++(kids.map Wf.V.bytes).flatten) wr)
    go_wp2_with (go_at_call 80;refine(bstr (w.heap.size+1) (w.heap.size+1) _ _ HU.out (by have:=HU.out.lt;omega)).mono ?_;rintro e w2 ⟨rfl,hb2⟩;have B2:=hid hb2;clear hb2)
    go_ret
    exact⟨rfl,hh.out.2.trans (B2.out.mono (by omega))⟩
 ·subst h0
  obtain rfl:n=0:=by rw[← hn];rfl
  clear hTl hTs HNT hn
  go_enter Tryz.func49,Tryz.ntmps49
  go_wp2_with fail
  go_ret
  exact⟨rfl,BA.out⟩
 ·subst hu
  obtain rfl:n=1:=by rw[← hn];rfl
  rw[List.length_cons] at hlen
  obtain⟨b,o,q',n',c',g',T',a',rfl,hbW,hb,k0,k1,k2,k3,hrec⟩:=KID.out 0 (by simp) (by show u.bytes.length≤_;omega) _ (HW.out.trans (BA.out.mono HW.out.size))
  rw[Nat.zero_mul,Nat.add_zero] at k0 k1 k2 k3
  obtain⟨R,hR⟩:∃ R:ByteArray,(⟨u.bytes.toArray⟩:ByteArray)=R:=⟨_,rfl⟩
  have hRs:R.size=u.bytes.length:=by rw[← hR];rfl
  have HR:=hid fun wz hz=>(hrec wz hz).mono (R':=fun e w'=>e=.returned (.string R)∧Below wz.heap.size wz w') fun e w' h=>⟨by rw[h.1,← hR];rfl,h.2⟩
  have HF:=hid (show(⟨(1::u.bytes).toArray⟩:ByteArray)=⟨#[1]⟩++R from((eq_list (⟨#[1]⟩++R) _).2 (by rw[ByteArray.data_append,Array.toList_append,← hR];rfl)).symm)
  have a1:=fun wz=>run_string_add_sum (P:=Tryz.prog) (w:=wz) ⟨#[1]⟩ R (by show 1+R.size≤_;omega)
  clear hTl hTs HNT hn hrec hR hRs
  go_enter Tryz.func49,Tryz.ntmps49
  go_wp2_with (go_at_call 49;refine(HR.out _ (HW.out.trans (BA.out.mono HW.out.size))).mono ?_;rintro e w2 ⟨rfl,hb2⟩;have B2:=hid (below_join BA.out hb2);clear hb2)
  go_ret
  exact⟨ret_str HF.out.symm,B2.out⟩
 ·have HM:=hid (HNT.out tag htag)
  clear hTl hTs HNT hn
  go_enter Tryz.func49,Tryz.ntmps49
  go_wp2_with (go_at_call 77;refine(HM.out _).mono ?_;rintro e w3 ⟨rfl,hb3⟩;have B3:=hid (below_join BA.out hb3);clear hb3)
  go_ret
  exact⟨rfl,B3.out⟩
 ·subst hu
  obtain rfl:n=1:=by rw[← hn];rfl
  have hul:u.bytes.length≤100000:=by simp only[List.length_append] at hlen;omega
  obtain⟨b,o,q',n',c',g',T',a',rfl,hbW,hb,k0,k1,k2,k3,hrec⟩:=KID.out 0 (by simp) hul _ (HW.out.trans (BA.out.mono HW.out.size))
  rw[Nat.zero_mul,Nat.add_zero] at k0 k1 k2 k3
  obtain⟨R,hR⟩:∃ R:ByteArray,(⟨u.bytes.toArray⟩:ByteArray)=R:=⟨_,rfl⟩
  have hRs:R.size=u.bytes.length:=by rw[← hR];rfl
  have hRl:R.data.toList=u.bytes:=by rw[← hR]
  obtain⟨D,hD⟩:∃ D:ByteArray,(⟨(Wf.putN tag).toArray⟩:ByteArray)=D:=⟨_,rfl⟩
  have hDs:D.size≤3:=by rw[← hD];exact(Wf.putN_len tag htag).2
  obtain⟨Z,hZ⟩:∃ Z:ByteArray,(⟨(Wf.putN u.bytes.length++u.bytes).toArray⟩:ByteArray)=Z:=⟨_,rfl⟩
  have hZs:Z.size≤100003:=by rw[← hZ];show(Wf.putN u.bytes.length++u.bytes).length≤_;rw[List.length_append];have:=(Wf.putN_len u.bytes.length (by omega)).2;omega
  have HM:=hid (HNT.out tag htag)
  rw[hD] at HM
  have HS:=hid fun wz=>sized R (by omega) wz
  rw[hRl] at HS
  simp only[tx,hZ] at HS
  have HR:=hid fun wz hz=>(hrec wz hz).mono (R':=fun e w'=>e=.returned (.string R)∧Below wz.heap.size wz w') fun e w' h=>⟨by rw[h.1,← hR];rfl,h.2⟩
  have HF:=hid (show(⟨(Wf.putN tag++(Wf.putN u.bytes.length++u.bytes)).toArray⟩:ByteArray)=D++Z from((eq_list (D++Z) _).2 (by rw[ByteArray.data_append,Array.toList_append,← hD,← hZ])).symm)
  have a1:=fun wz=>run_string_add_sum (P:=Tryz.prog) (w:=wz) D Z (by omega)
  have y2:(w.alloc (.cells #[.int .u8 q, .string T, .int .i64 tag, .slice (some ⟨b,o,none⟩) 1 c] 51)).cell? ⟨w.heap.size,2,none⟩=some (.int .i64 tag):=by simp[go_sem]
  have y3:(w.alloc (.cells #[.int .u8 q, .string T, .int .i64 tag, .slice (some ⟨b,o,none⟩) 1 c] 51)).cell? ⟨w.heap.size,3,none⟩=some (.slice (some ⟨b,o,none⟩) 1 c):=by simp[go_sem]
  have yl:w.heap.size<(w.alloc (.cells #[.int .u8 q, .string T, .int .i64 tag, .slice (some ⟨b,o,none⟩) 1 c] 51)).heap.size:=by simp
  clear hTl hTs HNT hn hrec hR hRs hRl hD hZ KID
  rcases hq2 with rfl|rfl
  all_goals
   go_enter Tryz.func49,Tryz.ntmps49
   go_wp2_with fail
   try rw[show((85:Nat):Int)=85 from rfl] at BA y2 y3 yl k0 k1 k2 k3 hb
   try rw[show((61:Nat):Int)=61 from rfl] at BA y2 y3 yl k0 k1 k2 k3 hb
   generalize hW1:w.alloc _=W1 at BA y2 y3 yl k0 k1 k2 k3 hb ⊢
   have F:=hid fun(wz:World) (hz:Below W1.heap.size W1 wz)=>(show wz.cell? ⟨w.heap.size,2,none⟩=some (.int .i64 tag)∧wz.cell? ⟨w.heap.size,3,none⟩=some (.slice (some ⟨b,o,none⟩) 1 c)∧wz.cell? ⟨b,o,none⟩=some (.int .u8 q')∧wz.cell? ⟨b,o+1,none⟩=some (.string T')∧wz.cell? ⟨b,o+2,none⟩=some (.int .i64 g')∧wz.cell? ⟨b,o+3,none⟩=some (.slice a' n' c') from⟨(hz.cell (p:=⟨w.heap.size,2,none⟩) yl).trans y2,(hz.cell (p:=⟨w.heap.size,3,none⟩) yl).trans y3,(hz.cell (p:=⟨b,o,none⟩) hb).trans k0,(hz.cell (p:=⟨b,o+1,none⟩) hb).trans k1,(hz.cell (p:=⟨b,o+2,none⟩) hb).trans k2,(hz.cell (p:=⟨b,o+3,none⟩) hb).trans k3⟩)
   clear hW1
   go_region_held3 (fun w'=>w'.cell? ⟨w.heap.size,2,none⟩=some (.int .i64 tag)∧w'.cell? ⟨w.heap.size,3,none⟩=some (.slice (some ⟨b,o,none⟩) 1 c)∧w'.cell? ⟨b,o,none⟩=some (.int .u8 q')∧w'.cell? ⟨b,o+1,none⟩=some (.string T')∧w'.cell? ⟨b,o+2,none⟩=some (.int .i64 g')∧w'.cell? ⟨b,o+3,none⟩=some (.slice a' n' c')) (first|exact FZ.out|exact FD.out|exact FB.out|go_keep) (first|(go_at_call 78;have _u:=TB;refine(HS.out _).mono ?_;rintro e w4 ⟨rfl,hb4⟩;have TZ:=hid (show Below W1.heap.size W1 w4 by first|exact TD.out.trans (hb4.mono TD.out.size)|exact TB.out.trans (hb4.mono TB.out.size));have FZ:=hid (F.out _ TZ.out);clear hb4)|(go_at_call 77;refine(HM.out _).mono ?_;rintro e w3 ⟨rfl,hb3⟩;have TD:=hid (show Below W1.heap.size W1 w3 by first|exact TZ.out.trans (hb3.mono TZ.out.size)|exact TB.out.trans (hb3.mono TB.out.size)|(refine Below.trans (b:=_) ?_ hb3;repeat (first|with_reducible exact Below.refl _ _|with_reducible refine Below.drew ?_)));have FD:=hid (F.out _ TD.out);clear hb3)|(go_at_call 49;refine(HR.out _ (HW.out.trans (Below.mono (BA.out.trans (by first|exact TD.out.mono BA.out.size|(refine Below.mono (B:=W1.heap.size) ?_ BA.out.size;repeat (first|with_reducible exact Below.refl _ _|with_reducible refine Below.drew ?_)))) HW.out.size))).mono ?_;rintro e w2 ⟨rfl,hb2⟩;have TB:=hid (show Below W1.heap.size W1 w2 by first|exact TD.out.trans (hb2.mono TD.out.size)|(refine Below.trans (b:=_) ?_ hb2;repeat (first|with_reducible exact Below.refl _ _|with_reducible refine Below.drew ?_)));have FB:=hid (F.out _ TB.out);clear hb2))
   all_goals go_wp2_with fail
   all_goals go_ret
   all_goals exact⟨ret_str HF.out.symm,by first|exact BA.out.trans (TZ.out.mono BA.out.size)|exact BA.out.trans (TD.out.mono BA.out.size)⟩
 ·rw[List.length_append] at hlen
  clear hTl hTs HNT hn
  have hfl:=hid fun(i:Nat)=>flat_take_le kids i
  have hfm:=hid fun(u:Wf.V) (h:u∈kids)=>flat_mem h
  have U1:=hid (show Bu (w.heap.size+1) (w.heap.size+1) [] ((w.alloc (.cells #[.int .u8 82, .string T, .int .i64 tag, .slice a n c] 51)).alloc (.cells #[.pointer none, .slice none 0 0] 135)) from by have:=Bu.new (w.alloc (.cells #[.int .u8 82, .string T, .int .i64 tag, .slice a n c] 51));simpa using this)
  have BU1:=U1
  have BW1:=hid (BA.out.alloc BA.out.size (.cells #[.pointer none, .slice none 0 0] 135))
  go_enter Tryz.func49,Tryz.ntmps49
  go_wp2_with fail
  go_loopw [85] (fun sI wr=>∃ (i:Nat),sI=.int .i64 i∧i≤n∧Hid (Bu (w.heap.size+1) (w.heap.size+1) (((kids.take i).map Wf.V.bytes).flatten) wr∧Below w.heap.size w wr)) (fun sI _=>n-(RowKit.intOf sI).toNat)
  case atStart=>exact⟨0,rfl,Nat.zero_le _,hid ⟨by simpa using BU1.out,BW1.out⟩⟩
  case round =>
   obtain⟨i,rfl,hi,hh⟩:=hrel
   have BW:=hid (HW.out.trans (hh.out.2.mono HW.out.size))
   by_cases hlt:i<n
   ·have hik:i<kids.length:=by rw[HN.out];exact hlt
    have hkl1:=hfm.out _ (List.getElem_mem hik)
    obtain⟨b,o,q',n',c',g',T',a',rfl,hbW,hb,k0,k1,k2,k3,hrec⟩:=KID.out i hik (by omega) wr BW.out
    obtain⟨R,hR⟩:∃ R:ByteArray,(⟨(kids[i]).bytes.toArray⟩:ByteArray)=R:=⟨_,rfl⟩
    have hRs:R.size=(kids[i]).bytes.length:=by rw[← hR];rfl
    have HFT:=hid (show((kids.take (i+1)).map Wf.V.bytes).flatten=((kids.take i).map Wf.V.bytes).flatten++R.data.toList by rw[flat_take hik,← hR])
    have hfl1:=hfl.out i
    have HLE:=hid (show(((kids.take i).map Wf.V.bytes).flatten).length+R.size≤1000000000 by(try simp only[List.length_append] at hlen ⊢);omega)
    simp only[tx,hR] at hrec
    have HR:=hid hrec
    clear hrec hR hRs hkl1 hfl1
    go_wp2_with (first|(go_at_call 79;have _u:=B2;refine(wstr (w.heap.size+1) (w.heap.size+1) _ R _ (hh.out.1.below B2.out) HLE.out (by have h1:=hh.out.1.lt;have:=B2.out.size;omega)).mono ?_;rintro e w3 ⟨rfl,hu3,hb3⟩;have U3:=hid hu3;have B3:=hid hb3;clear hu3 hb3)|(go_at_call 49;refine(HR.out _ (BW.out.trans (((Below.refl _ _).alloc (Nat.le_refl _) _).mono BW.out.size))).mono ?_;rintro e w2 ⟨rfl,hb2⟩;have B2:=hid (below_join ((Below.refl wr.heap.size wr).alloc (Nat.le_refl _) _) hb2);clear hb2))
    go_roundw
    case rel=>exact⟨i+1,by go_num,by omega,hid ⟨by rw[HFT.out];simpa only [List.append_assoc] using U3.out,hh.out.2.trans ((B2.out.mono hh.out.2.size).trans (B3.out.mono (by omega)))⟩⟩
    case measure=>simp[RowKit.intOf];omega
   ·have hin:n=i:=by omega
    subst hin
    have HTK:=hid (show kids.take n=kids from List.take_of_length_le (by rw[HN.out];exact Nat.le_refl _))
    have HU:=hid (by rw[HTK.out] at hh;exact hh.out.1:Bu (w.heap.size+1) (w.heap.size+1) ((kids.map Wf.V.bytes).flatten) wr)
    obtain⟨R,hR⟩:∃ R:ByteArray,(⟨((kids.map Wf.V.bytes).flatten).toArray⟩:ByteArray)=R:=⟨_,rfl⟩
    have hRs:R.size=(kids.map Wf.V.bytes).flatten.length:=by rw[← hR];rfl
    have HF:=hid (show(⟨((kids.map Wf.V.bytes).flatten++[0]).toArray⟩:ByteArray)=R++⟨#[0]⟩ from((eq_list (R++⟨#[0]⟩) _).2 (by rw[ByteArray.data_append,Array.toList_append,← hR])).symm)
    have a1:=fun wz=>run_string_add_sum (P:=Tryz.prog) (w:=wz) R ⟨#[0]⟩ (by show R.size+1≤_;omega)
    have HBS:=hid fun wz (h1:Bu (w.heap.size+1) (w.heap.size+1) (kids.map Wf.V.bytes).flatten wz) h2=>(bstr (w.heap.size+1) (w.heap.size+1) _ wz h1 h2).mono (R':=fun e w'=>e=.returned (.string R)∧Below (w.heap.size+1) wz w') fun e w' h=>⟨by rw[h.1,← hR],h.2⟩
    clear hR hRs
    go_wp2_with (go_at_call 80;refine(HBS.out _ HU.out (by have:=HU.out.lt;omega)).mono ?_;rintro e w2 ⟨rfl,hb2⟩;have B2:=hid hb2;clear hb2)
    go_ret
    exact⟨ret_str HF.out.symm,hh.out.2.trans (B2.out.mono (by omega))⟩

structure Sn (W:World) (rb sb:Nat) (s:List UInt8) (bad:Bool):Prop where
 lt:rb<W.heap.size
 c0:W.cell? ⟨rb,0,none⟩=some (ptr sb)
 c1:W.cell? ⟨rb,1,none⟩=some (tx s)
 c2:W.cell? ⟨rb,2,none⟩=some (.bool bad)
 f1:W.frozen? ⟨rb,1,none⟩=false
 f2:W.frozen? ⟨rb,2,none⟩=false
section
variable {W W':World} {rb sb:Nat} {s r:List UInt8} {bad:Bool}
theorem Sn.belowB (h:Sn W rb sb s bad) {B:Nat} (hb:Below B W W') (hB:rb<B):Sn W' rb sb s bad :=
 ⟨Nat.lt_of_lt_of_le h.lt hb.size,(hb.cell (p:=⟨rb,0,none⟩) hB).trans h.c0,(hb.cell (p:=⟨rb,1,none⟩) hB).trans h.c1,(hb.cell (p:=⟨rb,2,none⟩) hB).trans h.c2,(hb.frozen (p:=⟨rb,1,none⟩) hB).trans h.f1,(hb.frozen (p:=⟨rb,2,none⟩) hB).trans h.f2⟩
theorem Sn.below (h:Sn W rb sb s bad) (hb:Below W.heap.size W W'):Sn W' rb sb s bad:=h.belowB hb h.lt
theorem Sn.drewN (h:Sn W rb sb s bad) (n:Nat):Sn (W.drewN n) rb sb s bad:=h.below ⟨rfl,rfl,rfl,Nat.le_refl _,fun _ _=>rfl⟩
theorem Sn.text (h:Sn W rb sb s bad) (r:List UInt8):Sn (W.setCell ⟨rb,1,none⟩ (tx r)) rb sb r bad :=
 ⟨by simpa using h.lt,(World.cell?_setCell_other W _ _ _ (by simp)).trans h.c0,World.cell?_setCell_same W _ _ h.c1,(World.cell?_setCell_other W _ _ _ (by simp)).trans h.c2,by simpa using h.f1,by simpa using h.f2⟩
theorem Sn.fail (h:Sn W rb sb s bad):Sn (W.setCell ⟨rb,2,none⟩ (.bool true)) rb sb s true :=
 ⟨by simpa using h.lt,(World.cell?_setCell_other W _ _ _ (by simp)).trans h.c0,(World.cell?_setCell_other W _ _ _ (by simp)).trans h.c1,World.cell?_setCell_same W _ _ h.c2,by simpa using h.f1,by simpa using h.f2⟩
end
theorem cutPrefix (s p:ByteArray) (w:World):Calls Tryz.prog 144 #[.string s, .string p] w fun e w'=>e=.returned (.tuple #[.string ⟨(Lib.trimPrefix s.data.toList p.data.toList).toArray⟩, .bool (Lib.hasPrefix s.data.toList p.data.toList)])∧w=w' :=
 (Tryz.strings_CutPrefix s p w).mono fun _ _ ⟨h1,h2⟩=>⟨h1,h2.symm⟩
set_option maxRecDepth 20000 in
theorem take_w (rb:Nat) (S L R:ByteArray) (bad p:Bool) (w:World) (hlt:rb<w.heap.size) (c1:w.cell? ⟨rb,1,none⟩=some (.string S)) (c2:w.cell? ⟨rb,2,none⟩=some (.bool bad)) (f1:w.frozen? ⟨rb,1,none⟩=false)
  (hc:∀ wz,Calls Tryz.prog 144 #[.string S, .string L] wz fun e w'=>e=.returned (.tuple #[.string R, .bool p])∧wz=w'):Calls Tryz.prog 112 #[ptr rb, .string L] w fun e w'=>e=.returned (.bool (p && !bad))∧(if (p && !bad)=true then w.setCell ⟨rb,1,none⟩ (.string R) else w)=w':=by
 have HC:=hid hc
 clear hc
 cases p <;> cases bad
 all_goals
  go_enter Tryz.func112,Tryz.ntmps112
  go_wp2_with (go_at_call 144;refine(HC.out _).mono ?_;rintro e w1 ⟨rfl,rfl⟩)
  go_ret
  exact⟨rfl,rfl⟩
theorem pre_iff (s l:List UInt8):Lib.hasPrefix s l=true↔l <+: s:=by
 unfold Lib.hasPrefix;exact List.isPrefixOf_iff_prefix
theorem pre1 (c:UInt8) (s:List UInt8):[c] <+: s↔s.head? = some c:=by
 cases s with
 | nil=>simp
 | cons a r=>simp[eq_comm]
section
variable (rb sb:Nat) (w:World)
theorem take_yes (L r:List UInt8) (H:Sn w rb sb (L++r) false):Calls Tryz.prog 112 #[ptr rb,tx L] w fun e w'=>e=.returned (.bool true)∧Sn w' rb sb r false∧Beside rb w w':=by
 have hp:Lib.hasPrefix (L++r) L=true:=(pre_iff _ _).2 (List.prefix_append _ _)
 refine(take_w rb ⟨(L++r).toArray⟩ ⟨L.toArray⟩ ⟨r.toArray⟩ false true w H.lt H.c1 H.c2 H.f1 fun wz => ?_).mono ?_
 ·have:=cutPrefix ⟨(L++r).toArray⟩ ⟨L.toArray⟩ wz
  have e1:Lib.trimPrefix (L++r) L=r:=by unfold Lib.trimPrefix;rw[hp,if_pos rfl,List.drop_left]
  simp only[hp,e1] at this
  exact this
 ·rintro e w' ⟨rfl,rfl⟩
  exact⟨rfl,H.text r,Beside.set _ _ _ _⟩
theorem take_no (s L:List UInt8) (bad:Bool) (H:Sn w rb sb s bad) (h:bad=true∨¬ L <+: s):Calls Tryz.prog 112 #[ptr rb,tx L] w fun e w'=>e=.returned (.bool false)∧w=w':=by
 refine(take_w rb ⟨s.toArray⟩ ⟨L.toArray⟩ _ bad _ w H.lt H.c1 H.c2 H.f1 fun wz=>cutPrefix ⟨s.toArray⟩ ⟨L.toArray⟩ wz).mono ?_
 have hf:(Lib.hasPrefix s L && !bad)=false:=by
  rcases h with h|h
  ·rw[h];simp
  ·cases hp:Lib.hasPrefix s L with
   | true=>exact absurd ((pre_iff _ _).1 hp) h
   | false=>rfl
 rintro e w' ⟨rfl,rfl⟩
 simp only[hf]
 exact⟨trivial,rfl⟩
set_option maxRecDepth 20000 in
theorem want_yes (L r:List UInt8) (H:Sn w rb sb (L++r) false):Calls Tryz.prog 113 #[ptr rb,tx L] w fun e w'=>e=.returned (.tuple #[])∧Sn w' rb sb r false∧Beside rb w w':=by
 have HT:=hid (take_yes rb sb w L r H)
 clear H
 go_enter Tryz.func113,Tryz.ntmps113
 go_wp2_with (go_at_call 112;refine HT.out.mono ?_;rintro e w1 ⟨rfl,hs,hb⟩)
 go_end0
 exact⟨rfl,hs,hb⟩
set_option maxRecDepth 20000 in
theorem want_no (s L:List UInt8) (bad:Bool) (H:Sn w rb sb s bad) (h:bad=true∨¬ L <+: s):Calls Tryz.prog 113 #[ptr rb,tx L] w fun e w'=>e=.returned (.tuple #[])∧Sn w' rb sb s true∧Beside rb w w':=by
 have HT:=hid (take_no rb sb w s L bad H h)
 have c2:=H.c2
 have f2:=H.f2
 have HH:=hid H
 clear H
 go_enter Tryz.func113,Tryz.ntmps113
 go_wp2_with (go_at_call 112;refine HT.out.mono ?_;rintro e w1 ⟨rfl,rfl⟩)
 go_end0
 exact⟨rfl,HH.out.fail,Beside.set _ _ _ _⟩
end
def digitSet:List UInt8:=[48,49,50,51,52,53,54,55,56,57]
theorem digit_is (c:UInt8):digitSet.contains c=Wf.isDig c:=by
 have h:∀ n:Fin 256,digitSet.contains (UInt8.ofNat n.val)=Wf.isDig (UInt8.ofNat n.val):=by decide +kernel
 have:=h ⟨c.toNat,c.toNat_lt⟩
 simpa using this
theorem digits_left (s:ByteArray) (w:World):Calls Tryz.prog 90 #[.string s, .string ⟨#[48,49,50,51,52,53,54,55,56,57]⟩] w fun e w'=>e=.returned (tx (s.data.toList.dropWhile Wf.isDig))∧Go.RowKit.Below w.heap.size w w':=by
 have h:=Any.strings_TrimLeft_laid Tryz.lays161 (by kernel_rfl) s ⟨#[48,49,50,51,52,53,54,55,56,57]⟩ w (by decide) (ascii_of_all (by decide))
 have e:Lib.trimLeftS s.data.toList digitSet=s.data.toList.dropWhile Wf.isDig:=by
  unfold Lib.trimLeftS
  rw[show(fun x=>digitSet.contains x)=Wf.isDig from funext digit_is]
 rw[← e]
 exact h
theorem text_left (s:ByteArray) (w:World):Calls Tryz.prog 90 #[.string s, .string ⟨#[97,98,99,100,101,102,103,104,105,106,107,108,109,110,111,112,113,114,115,116,117,118,119,120,121,122,48,49,50,51,52,53,54,55,56,57,32]⟩] w fun e w'=>e=.returned (tx (s.data.toList.dropWhile Wf.isTxt))∧Go.RowKit.Below w.heap.size w w':=by
 have h:=Any.strings_TrimLeft_laid Tryz.lays161 (by kernel_rfl) s ⟨#[97,98,99,100,101,102,103,104,105,106,107,108,109,110,111,112,113,114,115,116,117,118,119,120,121,122,48,49,50,51,52,53,54,55,56,57,32]⟩ w (by decide) (ascii_of_all (by decide))
 have e:Lib.trimLeftS s.data.toList textSet=s.data.toList.dropWhile Wf.isTxt:=by
  unfold Lib.trimLeftS
  rw[show(fun x=>textSet.contains x)=Wf.isTxt from funext text_is]
 rw[← e]
 exact h
theorem left_split (p:UInt8→Bool) (s:ByteArray):∃ t:ByteArray,t.data.toList=s.data.toList.dropWhile p∧t.size≤s.size∧(s.extract 0 (s.size-t.size)).data.toList=s.data.toList.takeWhile p∧(s.extract 0 (s.size-t.size)).size+t.size=s.size:=by
 have h:=congrArg List.length (List.takeWhile_append_dropWhile (p:=p) (l:=s.data.toList))
 rw[List.length_append,size_list] at h
 obtain⟨t,ht⟩:∃ t:ByteArray,t.data.toList=s.data.toList.dropWhile p:=⟨⟨(s.data.toList.dropWhile p).toArray⟩,rfl⟩
 have hts:t.size=(s.data.toList.dropWhile p).length:=by rw[← size_list,ht]
 refine⟨t,ht,by omega, ?_, ?_⟩
 ·rw[ext_list,List.drop_zero,Nat.sub_zero,show s.size-t.size=(s.data.toList.takeWhile p).length by omega]
  exact(List.prefix_iff_eq_take.1 (List.takeWhile_prefix _)).symm
 ·rw[ByteArray.size_extract]
  omega
theorem left_slice (S t:ByteArray) (hts:t.size≤S.size) (hs:S.size≤1000000):IntKind.i64.wrap ((S.size:Int)-(t.size:Int))=(S.size:Int)-(t.size:Int)∧∀ wz,(Instr.slice 9 (.string S) none (some (.int .i64 ((S.size:Int)-(t.size:Int)))) none).run Tryz.prog wz=.ok (.string (S.extract 0 (S.size-t.size))) wz:=by
 have e:((S.size-t.size:Nat):Int)=(S.size:Int)-(t.size:Int):=by omega
 refine⟨?_,fun wz => ?_⟩
 ·have:=wrap_nat_i64 (S.size-t.size) (by omega)
  rw[e] at this
  exact this
 ·have:=run_slice_string_h (P:=Tryz.prog) wz 9 S Tryz.underlying9 .i64 ((S.size:Int)-(t.size:Int)) (by omega) (by omega)
  have e2:((S.size:Int)-(t.size:Int)).toNat=S.size-t.size:=by omega
  rw[this,e2]
section
variable (rb sb:Nat) (w:World)
set_option maxRecDepth 20000 in
set_option maxHeartbeats 1000000 in
theorem number (s:List UInt8) (bad:Bool) (most:Nat) (hm:most≤999999) (hs:s.length≤1000000) (H:Sn w rb sb s bad):Calls Tryz.prog 114 #[ptr rb, .int .i64 most] w fun e w'=>e=.returned (.int .i64 (numV (s.takeWhile Wf.isDig)))∧Sn w' rb sb (s.dropWhile Wf.isDig) (bad || !(Wf.plainN (s.takeWhile Wf.isDig) most).isSome)∧Beside rb w w':=by
 have HH:=hid H
 have hc1:=H.c1
 have hlt:=H.lt
 have f1:=H.f1
 obtain⟨S,hS⟩:∃ S:ByteArray,(⟨s.toArray⟩:ByteArray)=S:=⟨_,rfl⟩
 have hSl:S.data.toList=s:=by rw[← hS]
 have HSS:=hid hS
 rw[tx,hS] at hc1
 obtain⟨t,ht,hts,hx,_⟩:=left_split Wf.isDig S
 obtain⟨kw,ks⟩:=left_slice S t hts (by rw[← size_list,hSl];exact hs)
 have HT:=hid fun wz=>digits_left S wz
 rw[← ht] at HT
 have hN:=fun wz=>plainNumberV (S.extract 0 (S.size-t.size)) most hm wz
 rw[hx,hSl] at hN
 obtain⟨B,hB⟩:∃ B,(Wf.plainN (s.takeWhile Wf.isDig) most).isSome=B:=⟨_,rfl⟩
 obtain⟨m,hmm⟩:∃ m,numV (s.takeWhile Wf.isDig)=m:=⟨_,rfl⟩
 rw[hB,hmm] at hN
 rw[hB,hmm]
 have hN2:∀ wz,Calls Tryz.prog 76 #[.string (S.extract 0 (S.size-t.size)), .int .i64 most] wz fun e w'=>e=.returned (.tuple #[.int .i64 m, .bool B])∧w'=wz:=fun wz=>(hN wz).mono fun e w' ⟨h1,h2⟩=>⟨h1,h2.symm⟩
 have HN:=hid hN2
 have HR:=hid (show(⟨(s.dropWhile Wf.isDig).toArray⟩:ByteArray)=t by rw[← hSl,← ht])
 have c2:=H.c2
 have f2:=H.f2
 clear hN hN2 hB hmm H hS hSl ht hx
 cases B
 ·go_enter Tryz.func114,Tryz.ntmps114
  go_wp2_with (go_at_call 90;refine(HT.out _).mono ?_;rintro e w1 ⟨rfl,hb⟩;have HS1:=hid (HH.out.below hb);have k1:=HS1.out.c1;rw[tx,HSS.out] at k1;have k2:=HS1.out.c2;have kf:=HS1.out.f1;have kg:=HS1.out.f2;have HB:=hid hb;obtain⟨hc3,hc4⟩:=bcell hb;clear hb)
  go_quiet ((go_at_call 76;refine Calls.quiet_of_same (HN.out _)))
  go_wp2_with fail
  go_ret
  exact⟨rfl,by rw[← HR.out,Bool.not_false,Bool.or_true];exact(((HS1.out.drewN _).fail).text _),(((Beside.of_below HB.out (Nat.le_refl _)).drewN _).trans (Beside.set _ _ _ _)).trans (Beside.set _ _ _ _)⟩
 ·go_enter Tryz.func114,Tryz.ntmps114
  go_wp2_with (go_at_call 90;refine(HT.out _).mono ?_;rintro e w1 ⟨rfl,hb⟩;have HS1:=hid (HH.out.below hb);have k1:=HS1.out.c1;rw[tx,HSS.out] at k1;have k2:=HS1.out.c2;have kf:=HS1.out.f1;have kg:=HS1.out.f2;have HB:=hid hb;obtain⟨hc3,hc4⟩:=bcell hb;clear hb)
  go_quiet ((go_at_call 76;refine Calls.quiet_of_same (HN.out _)))
  go_wp2_with fail
  go_ret
  exact⟨rfl,by rw[← HR.out,Bool.not_true,Bool.or_false];exact((HS1.out.drewN _).text _),((Beside.of_below HB.out (Nat.le_refl _)).drewN _).trans (Beside.set _ _ _ _)⟩
theorem number_yes (s r:List UInt8) (bad:Bool) (most n:Nat) (hm:most≤999999) (hs:s.length≤1000000) (H:Sn w rb sb s bad) (hn:Wf.numTok most s=some (n,r)):Calls Tryz.prog 114 #[ptr rb, .int .i64 most] w fun e w'=>e=.returned (.int .i64 n)∧Sn w' rb sb r bad∧Beside rb w w':=by
 obtain⟨m,h1,h2⟩:=Option.map_eq_some_iff.1 hn
 simp only[Prod.mk.injEq] at h2
 obtain⟨rfl,rfl⟩:=h2
 have:=number rb sb w s bad most hm hs H
 rw[h1,numV_some h1,Option.isSome_some,Bool.not_true,Bool.or_false] at this
 exact this
set_option maxRecDepth 20000 in
set_option maxHeartbeats 1000000 in
theorem quote_w (cur:List UInt8) (b0:Bool) (hs:cur.length≤1000000) (hw:Calls Tryz.prog 113 #[ptr rb,tx [39]] w fun e w'=>e=.returned (.tuple #[])∧Sn w' rb sb cur b0∧Beside rb w w')
  (r:List UInt8) (b1:Bool) (h2:∀ wz,Sn wz rb sb (cur.dropWhile Wf.isTxt) b0→Calls Tryz.prog 113 #[ptr rb,tx [39]] wz fun e w'=>e=.returned (.tuple #[])∧Sn w' rb sb r b1∧Beside rb wz w') :
  Calls Tryz.prog 115 #[ptr rb] w fun e w'=>e=.returned (tx (cur.takeWhile Wf.isTxt))∧Sn w' rb sb r (b1 || decide (12<(cur.takeWhile Wf.isTxt).length))∧Beside rb w w':=by
 obtain⟨S,hS⟩:∃ S:ByteArray,(⟨cur.toArray⟩:ByteArray)=S:=⟨_,rfl⟩
 have hSl:S.data.toList=cur:=by rw[← hS]
 have HSS:=hid hS
 obtain⟨t,ht,hts,hx,hxs⟩:=left_split Wf.isTxt S
 obtain⟨kw,ks⟩:=left_slice S t hts (by rw[← size_list,hSl];exact hs)
 have HT:=hid fun wz=>text_left S wz
 rw[← ht] at HT
 obtain⟨X,hX⟩:∃ X,S.extract 0 (S.size-t.size)=X:=⟨_,rfl⟩
 rw[hX] at hx hxs ks
 rw[hSl] at hx ht
 have HX:=hid (show(⟨(cur.takeWhile Wf.isTxt).toArray⟩:ByteArray)=X from(eq_arr X _ hx).symm)
 have hxl:(cur.takeWhile Wf.isTxt).length=X.size:=by rw[← hx,size_list]
 have HR:=hid (show(⟨(cur.dropWhile Wf.isTxt).toArray⟩:ByteArray)=t from(eq_arr t _ ht).symm)
 have HW:=hid hw
 have H2:=hid h2
 have HTL:=hid ht
 rw[hxl,tx,HX.out]
 clear hw h2 hS hSl ht hx hX hxl
 go_enter Tryz.func115,Tryz.ntmps115
 go_wp2_with (first|(go_at_call 90;have _u:=hs1;refine(HT.out _).mono ?_;rintro e w2 ⟨rfl,hb2⟩;have HS2:=hid (hs1.out.below hb2);have k1:=HS2.out.c1;rw[tx,HSS.out] at k1;have kf:=HS2.out.f1;have hlt2:=HS2.out.lt;have HB2:=hid (hB1.out.trans (Beside.of_below hb2 (Nat.le_refl _)));clear hb2)|(go_at_call 113;refine HW.out.mono ?_;rintro e w1 ⟨rfl,hsx,hbx⟩;have hs1:=hid hsx;have hB1:=hid hbx;have k0:=hsx.c1;rw[tx,HSS.out] at k0;clear hsx hbx))
 go_quiet (fail)
 by_cases h12:12<X.size
 ·go_wp2_with (go_at_call 113;refine(H2.out _ (by rw[← HTL.out];exact(HS2.out.drewN _).text _)).mono ?_;rintro e w3 ⟨rfl,hs3,hb3⟩;have h3:=hid hs3;have c2:=hs3.c2;have f2:=hs3.f2;have hB3:=hid (((HB2.out.drewN _).trans (Beside.set _ _ _ _)).trans hb3);clear hs3 hb3)
  go_ret
  exact⟨rfl,by rw[decide_eq_true h12,Bool.or_true];exact h3.out.fail,hB3.out.trans (Beside.set _ _ _ _)⟩
 ·go_wp2_with (go_at_call 113;refine(H2.out _ (by rw[← HTL.out];exact(HS2.out.drewN _).text _)).mono ?_;rintro e w3 ⟨rfl,hs3,hb3⟩;have h3:=hid hs3;have c2:=hs3.c2;have f2:=hs3.f2;have hB3:=hid (((HB2.out.drewN _).trans (Beside.set _ _ _ _)).trans hb3);clear hs3 hb3)
  go_ret
  exact⟨rfl,by rw[decide_eq_false h12,Bool.or_false];exact h3.out,hB3.out⟩
theorem quote_yes (s r q:List UInt8) (hs:s.length≤1000000) (H:Sn w rb sb s false) (h1:s=39::r) (h2:r.dropWhile Wf.isTxt=39::q) (h3:(r.takeWhile Wf.isTxt).length≤12):Calls Tryz.prog 115 #[ptr rb] w fun e w'=>e=.returned (tx (r.takeWhile Wf.isTxt))∧Sn w' rb sb q false∧Beside rb w w':=by
 subst h1
 have:=quote_w rb sb w r false (by simp at hs;omega) (want_yes rb sb w [39] r H) q false fun wz hz=>want_yes rb sb wz [39] q (by rw[← List.cons_eq_append_iff.2 (.inr ⟨[],rfl,rfl⟩)] at *;simpa[h2] using hz)
 rw[decide_eq_false (by omega),Bool.or_false] at this
 exact this
theorem quote_no (x:Wf.Sc) (n:Nat) (s:List UInt8) (hs:s.length≤1000000) (H:Sn w rb sb s false) (h:Wf.parse x (n+1) .txt s=none):Calls Tryz.prog 115 #[ptr rb] w fun e w'=>∃ t r,e=.returned (tx t)∧t.length+r.length≤s.length∧Sn w' rb sb r true∧Beside rb w w':=by
 have hl:∀ l:List UInt8,(l.takeWhile Wf.isTxt).length+(l.dropWhile Wf.isTxt).length=l.length:=fun l=>by
  rw[← List.length_append,List.takeWhile_append_dropWhile]
 by_cases h1:s.head? = some 39
 ·obtain⟨r,rfl⟩:∃ r,s=39::r:=by
   cases s with
   | nil=>simp at h1
   | cons a r=>simp only[List.head?_cons,Option.some.injEq] at h1;exact⟨r,by rw[h1]⟩
  have hr:r.length≤1000000:=by simp at hs;omega
  have hw:=want_yes rb sb w [39] r H
  by_cases h2:(r.dropWhile Wf.isTxt).head? = some 39
  ·obtain⟨q,hq⟩:∃ q,r.dropWhile Wf.isTxt=39::q:=by
    cases hd:r.dropWhile Wf.isTxt with
    | nil=>rw[hd] at h2;simp at h2
    | cons a q=>rw[hd] at h2;simp only[List.head?_cons,Option.some.injEq] at h2;exact⟨q,by rw[h2]⟩
   have h12:12<(r.takeWhile Wf.isTxt).length:=by
    rcases Nat.lt_or_ge 12 (r.takeWhile Wf.isTxt).length with h3|h3
    ·exact h3
    ·rw[Wf.parse_txt_yes x n rfl hq h3] at h;cases h
   refine(quote_w rb sb w r false hr hw q false fun wz hz=>want_yes rb sb wz [39] q (by rw[hq] at hz;exact hz)).mono ?_
   rintro e w' ⟨rfl,g1,g2⟩
   rw[decide_eq_true h12,Bool.or_true] at g1
   exact⟨_,q,rfl,by have:=hl r;rw[hq] at this;simp at this ⊢;omega,g1,g2⟩
  ·refine(quote_w rb sb w r false hr hw _ true fun wz hz=>want_no rb sb wz _ [39] false hz (.inr fun hp=>h2 ((pre1 _ _).1 hp))).mono ?_
   rintro e w' ⟨rfl,g1,g2⟩
   rw[Bool.true_or] at g1
   exact⟨_,_,rfl,by have:=hl r;simp;omega,g1,g2⟩
 ·refine(quote_w rb sb w s true hs (want_no rb sb w s [39] false H (.inr fun hp=>h1 ((pre1 _ _).1 hp))) _ true fun wz hz=>want_no rb sb wz _ [39] true hz (.inl rfl)).mono ?_
  rintro e w' ⟨rfl,g1,g2⟩
  rw[Bool.true_or] at g1
  exact⟨_,_,rfl,by have:=hl s;omega,g1,g2⟩
end

set_option maxRecDepth 20000 in
theorem it_empty (s:ByteArray) (w:World) (h0:s.toList.isEmpty=true):Calls Tryz.prog 69 #[.string s] w fun e w'=>(∃ p,e=.returned (.tuple #[.pointer p, .bool false]))∧Below w.heap.size w w':=by
 go_enter Tryz.func69,Tryz.ntmps69
 go_wp2_with fail
 go_ret2
 exact⟨⟨_,rfl⟩,Below.refl _ _⟩
set_option maxRecDepth 20000 in
theorem it_nosort (s:ByteArray) (w:World) (h0:s.toList.isEmpty=false) (h1:1≤s.size) (hk:∀ wz,Calls Tryz.prog 107 #[.string ⟨#[82,85,69]⟩, .string (s.extract 0 1)] wz fun e w'=>e=.returned (.bool false)∧wz=w') :
  Calls Tryz.prog 69 #[.string s] w fun e w'=>(∃ p,e=.returned (.tuple #[.pointer p, .bool false]))∧Below w.heap.size w w':=by
 have HK:=hid hk
 clear hk
 go_enter Tryz.func69,Tryz.ntmps69
 go_wp2_with (go_at_call 107;refine(HK.out _).mono ?_;rintro e w1 ⟨rfl,rfl⟩)
 go_ret2
 exact⟨⟨_,rfl⟩,Below.refl _ _⟩
section
variable (s:ByteArray) (w:World) (m:Int) (hm:ML m w) (h0:s.toList.isEmpty=false) (h1:1≤s.size) (hk:∀ wz,Calls Tryz.prog 107 #[.string ⟨#[82,85,69]⟩, .string (s.extract 0 1)] wz fun e w'=>e=.returned (.bool true)∧wz=w')
 (NM RS:ByteArray) (told:Bool) (hc:∀ wz,ML m wz→Calls Tryz.prog 68 #[.string (s.extract 1 s.size), .string ⟨#[61]⟩] wz fun e w'=>e=.returned (.tuple #[.string NM, .string RS, .bool told])∧∃ k,w'=wz.drewN k)
include hm h0 h1 hk hc
set_option maxRecDepth 20000 in
theorem it_nocut (ht:told=false):Calls Tryz.prog 69 #[.string s] w fun e w'=>(∃ p,e=.returned (.tuple #[.pointer p, .bool false]))∧Below w.heap.size w w':=by
 have HK:=hid hk
 have HC:=hid (hc _ hm)
 subst ht
 clear hk hc hm
 go_enter Tryz.func69,Tryz.ntmps69
 go_wp2_with (first|(go_at_call 68;refine HC.out.mono ?_;rintro e w1 ⟨rfl,dk,rfl⟩)|(go_at_call 107;refine(HK.out _).mono ?_;rintro e w1 ⟨rfl,rfl⟩))
 go_ret2
 exact⟨⟨_,rfl⟩,bel_drewN (Below.refl _ _) _⟩
set_option maxRecDepth 20000 in
theorem it_noname (ht:told=true) (hn:∀ wz,Calls Tryz.prog 93 #[.string NM] wz fun e w'=>e=.returned (.bool false)∧Below wz.heap.size wz w'):Calls Tryz.prog 69 #[.string s] w fun e w'=>(∃ p,e=.returned (.tuple #[.pointer p, .bool false]))∧Below w.heap.size w w':=by
 have HK:=hid hk
 have HC:=hid (hc _ hm)
 have HN:=hid hn
 subst ht
 clear hk hc hm hn
 go_enter Tryz.func69,Tryz.ntmps69
 go_wp2_with (first|(go_at_call 93;refine(HN.out _).mono ?_;rintro e w2 ⟨rfl,hb2⟩;have HB2:=hid hb2;clear hb2)|(go_at_call 68;refine HC.out.mono ?_;rintro e w1 ⟨rfl,dk,rfl⟩)|(go_at_call 107;refine(HK.out _).mono ?_;rintro e w1 ⟨rfl,rfl⟩))
 go_ret2
 exact⟨⟨_,rfl⟩,(bel_drewN (Below.refl _ _) _).trans HB2.out⟩
set_option maxRecDepth 20000 in
set_option maxHeartbeats 1000000 in
theorem it_bare (ht:told=true) (hn:∀ wz,Calls Tryz.prog 93 #[.string NM] wz fun e w'=>e=.returned (.bool true)∧Below wz.heap.size wz w') (hr:RS.toList.isEmpty=true) (q:Nat) (e0:∀ h,(s[0]'h).toNat=q) :
  Calls Tryz.prog 69 #[.string s] w fun e w'=>(∃ b,e=.returned (.tuple #[ptr b, .bool ((q:Int)==82)])∧w.heap.size≤b∧b<w'.heap.size∧w'.cell? ⟨b,0,none⟩=some (.int .u8 q)∧w'.cell? ⟨b,1,none⟩=some (.string NM)∧w'.cell? ⟨b,2,none⟩=some (.slice none 0 0)∧∃ cs,w'.heap[b]? = some (.cells cs 70 (0,0)))∧Below w.heap.size w w':=by
 have HK:=hid hk
 have HC:=hid (hc _ hm)
 have HN:=hid hn
 subst ht
 clear hk hc hm hn
 go_enter Tryz.func69,Tryz.ntmps69
 go_wp2_with (first|(go_at_call 93;refine(HN.out _).mono ?_;rintro e w2 ⟨rfl,hb2⟩;have HB2:=hid hb2;clear hb2)|(go_at_call 68;refine HC.out.mono ?_;rintro e w1 ⟨rfl,dk,rfl⟩)|(go_at_call 107;refine(HK.out _).mono ?_;rintro e w1 ⟨rfl,rfl⟩))
 go_region
 all_goals go_wp2_with fail
 all_goals go_ret2
 all_goals exact⟨⟨_,rfl,HB2.out.size,by simp,by simp,by simp,by simp,⟨_,(MapKept.heap_alloc w2 _).1⟩⟩,by have B:=(bel_drewN (Below.refl w.heap.size w) dk).trans HB2.out;repeat (first|with_reducible exact B|with_reducible refine Below.drew ?_|with_reducible refine Below.alloc ?_ (by first|exact B.size|(simp;done)|(simp;omega)|omega) _)⟩
end
end Go.Proofs.YtidjpalnmnehmaaGreatDoor
