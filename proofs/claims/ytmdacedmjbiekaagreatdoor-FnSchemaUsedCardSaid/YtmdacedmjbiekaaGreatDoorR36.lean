/- Packed by pack.py: Jf PlainAB PlainAC Ye Shelf2 Yd PlainAD. -/
import Derived.Test.YtmdacedmjbiekaaGreatDoorR35
import Derived.Test.YtmdacedmjbiekaaGreatDoorR32
import Derived.Test.YtmdacedmjbiekaaGreatDoorR34
import Derived.Shelf.Sort.Plain
import Derived.KernelRfl
import Derived.Below
import Derived.Test.YtmdacedmjbiekaaGreatDoorChecked
import Derived.Sort.OwnSorted
namespace Go.Proofs.YtmdacedmjbiekaaGreatDoor
open Go.ChangeShapes Go.WideShapes Go.ChangeAt Go.RowKit Go.Lib
set_option linter.unusedVariables false
set_option linter.unusedSimpArgs false
theorem RsOut.ok {l:List UInt8} {lo:Nat} {e:Ending} {w':World} (h:RsOut l lo e w'):∃ p,e=.returned (.tuple #[.pointer p, .bool (okL l)]):=by
 unfold RsOut at h
 unfold okL
 cases hl:Wf.schemaOf l with
 | none=>rw[hl] at h;exact h
 | some x=>rw[hl] at h;obtain⟨sb,he,_⟩:=h;exact⟨_,he⟩
theorem TnOut.no {l nm:List UInt8} {lo:Nat} {e:Ending} {w':World} (h:TnOut l nm lo e w') (hl:typeIn l nm=none):e=.returned (.tuple #[.pointer none, .pointer none, .bool false]):=by
 unfold TnOut at h;rw[hl] at h;exact h
theorem TnOut.yes {l nm:List UInt8} {lo:Nat} {e:Ending} {w':World} {y:Wf.Sc × Wf.Ty} (h:TnOut l nm lo e w') (hl:typeIn l nm=some y):∃ sb tb,e=.returned (.tuple #[ptr sb,ptr tb, .bool true])∧ScL w' lo sb y.1∧TyL w' lo tb y.2:=by
 unfold TnOut at h;rw[hl] at h;exact h
theorem BothOut.no {l kt:List UInt8} {lo:Nat} {e:Ending} {w':World} (h:BothOut l kt lo e w') (hl:kindOf l kt=none):∃ p a b c,e=.returned (.tuple #[.pointer p, .agg #[.string a, .string b, .string c], .bool false]):=by
 unfold BothOut at h;rw[hl] at h;exact h
theorem BothOut.yes {l kt:List UInt8} {lo:Nat} {e:Ending} {w':World} {y:Wf.Sc × Wf.K} (h:BothOut l kt lo e w') (hl:kindOf l kt=some y):∃ sb,e=.returned (.tuple #[ptr sb,kV y.2, .bool true])∧ScL w' lo sb y.1:=by
 unfold BothOut at h;rw[hl] at h;exact h
end Go.Proofs.YtmdacedmjbiekaaGreatDoor

namespace Wf
set_option linter.unusedVariables false
set_option linter.unusedSimpArgs false
theorem visit_inv {x:Sc} {ins:Bs→List Bs→List Bs} (P:List Bs→Prop) (hP:∀ a l,a ∉ l→P l→P (ins a l)):∀ (n:Nat) (k:K) (out:List Bs),P out→P (visit x ins n k out):=by
 intro n
 induction n with
 | zero=>intro k out h;exact h
 | succ n ih =>
  intro k out h
  simp only[visit]
  split
  ·exact h
  ·rename_i nm _
   split
   ·exact h
   ·rename_i hn
    have h':=hP nm out hn h
    split
    ·exact h'
    ·split
     ·exact h'
     ·exact foldl_inv P _ (fun o f ho=>ih f.kind o ho) _ _ h'
theorem visit_asc {x:Sc} (n:Nat) (k:K) (out:List Bs) (h:AscB out):AscB (visit x insB n k out):=visit_inv AscB (fun a l ha hl=>asc_insB hl a ha) n k out h
theorem visit_nodup {x:Sc} (n:Nat) (k:K) (out:List Bs) (h:out.Nodup):(visit x insE n k out).Nodup:=visit_inv List.Nodup (fun a l ha hl=>by
 unfold insE
 rw[List.nodup_append]
 exact⟨hl,by simp,fun b hb c hc=>by rw[List.mem_singleton.1 hc];exact fun e=>ha (by rw[← e];exact hb)⟩) n k out h
theorem used_sorted {x:Sc} (n:Nat) (k:K):(visit x insE n k []).mergeSort (fun a b=>decide (a≤b))=visit x insB n k [] :=
 asc_ext (sort_asc _ (visit_nodup n k [] List.nodup_nil)) (visit_asc n k [] List.Pairwise.nil) fun a=>by
  rw[sort_mem]
  exact visit_same insE_ok insB_ok n k [] [] (fun _=>Iff.rfl) a
end Wf

namespace Wf
set_option linter.unusedVariables false
set_option linter.unusedSimpArgs false
def usedN (x:Sc) (k:K):List Bs:=visit x insB (x.length+1) k []
theorem usedN_asc (x:Sc) (k:K):AscB (usedN x k):=visit_asc _ k [] List.Pairwise.nil
theorem refN_has {x:Sc} {k:K} (h:hasRef x k=true) {m:Bs} (hm:k.refN=some m):∃ t,x.find m=some t:=by
 induction k with
 | num=>cases hm
 | txt=>cases hm
 | flag=>cases hm
 | ref n=>cases hm;exact hasRef_ref h
 | list k ih=>exact ih h hm
 | opt k ih=>exact ih h hm
theorem usedN_found {x:Sc} (hx:ScOk x) {k:K} (h:hasRef x k=true) {nm:Bs} (hn:nm∈usedN x k):∃ t,x.find nm=some t :=
 visit_within insB_ok (C:=fun a=>∃ t,x.find a=some t) (fun _ _ _ ht hs f hf _ hm=>refN_has (hx.refs _ (find_mem ht).1 hs f hf) hm) _ k [] (fun _ hm=>refN_has h hm) (fun _ ha=>absurd ha List.not_mem_nil) nm hn
theorem nodup_len:∀ {l m:List Bs},l.Nodup→(∀ a,a∈l→a∈m)→l.length≤m.length
 | [],_,_,_=>Nat.zero_le _
 | a::l,m,hn,h=>by
  obtain⟨h1,h2⟩:=List.nodup_cons.1 hn
  have ha:a∈m:=h a List.mem_cons_self
  have hl:l.length≤(m.erase a).length:=nodup_len h2 fun b hb=>by
   have hne:b≠a:=fun e=>h1 (e ▸ hb)
   exact(List.mem_erase_of_ne hne).2 (h b (List.mem_cons_of_mem _ hb))
  rw[List.length_erase_of_mem ha] at hl
  have:0<m.length:=List.length_pos_of_mem ha
  rw[List.length_cons]
  omega
theorem asc_nodup {l:List Bs} (h:AscB l):l.Nodup:=List.Pairwise.imp (fun hab e=>by subst e;exact bs_irrefl _ hab) h
theorem usedN_len {x:Sc} {k:K} {nm:Bs} (h:nm∈usedN x k):(usedN x (.ref nm)).length≤(usedN x k).length :=
 nodup_len (asc_nodup (usedN_asc x _)) fun a ha=>visit_trans insB_ok (Nat.lt_succ_self _) h a ha
theorem usedN_le {x:Sc} (hx:ScOk x) {k:K} (h:hasRef x k=true):(usedN x k).length≤8:=by
 refine Nat.le_trans (nodup_len (m:=x.map (·.name)) (asc_nodup (usedN_asc x k)) fun a ha => ?_) (by rw[List.length_map];exact hx.len)
 obtain⟨t,ht⟩:=usedN_found hx h ha
 obtain⟨h1,h2⟩:=find_mem ht
 exact List.mem_map.2 ⟨t,h1,h2⟩
theorem parseK_ref {nm:Bs} (h:isName nm=true):parseK (64::(nm++[59]))=some (.ref nm):=by
 have h3:nm.length≤3:=by
  unfold isName at h
  simp only[Bool.and_eq_true,decide_eq_true_eq] at h
  exact h.1.2
 unfold parseK
 rw[if_pos (by simp;omega)]
 unfold kindIn
 rw[if_neg (by decide),if_neg (by decide),if_pos rfl,if_pos ⟨by simp,by simp,by rw[List.dropLast_concat];exact h⟩,List.dropLast_concat]
theorem insB_at {l:List Bs} {a:Bs} {k:Nat} (hk:k≤l.length) (h1:∀ j (hj:j<l.length),j<k→l[j]<a) (h2:∀ (h:k<l.length),¬ l[k]<a):insB a l=l.take k++a::l.drop k:=by
 unfold insB
 induction l generalizing k with
 | nil=>simp
 | cons b l ih =>
  cases k with
  | zero =>
   have h:=h2 (by simp)
   simp only[List.getElem_cons_zero] at h
   rw[List.takeWhile_cons_of_neg (by simpa using h),List.dropWhile_cons_of_neg (by simpa using h)]
   rfl
  | succ k =>
   have h:=h1 0 (by simp) (by omega)
   simp only[List.getElem_cons_zero] at h
   rw[List.takeWhile_cons_of_pos (by simpa using h),List.dropWhile_cons_of_pos (by simpa using h),List.cons_append,ih (k:=k) (by simpa using hk) (fun j hj hjk=>h1 (j+1) (by simp;omega) (by omega)) (fun hj=>h2 (by simp;omega))]
   rfl
end Wf

namespace Go.Proofs.YtmdacedmjbiekaaGreatDoor
open Go.ChangeShapes Go.WideShapes Go.ChangeAt Go.RowKit Go.Lib
def usedL (l kt:List UInt8):List (List UInt8):=match kindOf l kt with|some y=>Wf.usedN y.1 y.2|none=>[]
theorem used_len (l kt:List UInt8):(usedL l kt).length≤8:=by
 unfold usedL
 cases h:kindOf l kt with
 | none=>exact Nat.zero_le _
 | some y =>
  obtain⟨h1,_,h3,_,_⟩:=kindOf_text h
  exact Wf.usedN_le (Wf.schemaOf_ok h1) h3
end Go.Proofs.YtmdacedmjbiekaaGreatDoor

namespace Go.Proofs
open Go.Shelf
def Tryz.lays190_ren:Go.Shelf.Ren:=⟨fun|190=>39|125=>81|258=>80|128=>119|129=>120|302=>110|303=>111|304=>112|305=>113|306=>114|307=>115|308=>116|309=>117|310=>118|333=>156|329=>157|330=>158|334=>159|335=>160|336=>161|344=>178|n=>n,fun|31=>22|9=>9|3=>3|46=>135|0=>0|51=>168|53=>170|4=>4|183=>161|182=>160|131=>165|5=>5|218=>202|222=>206|228=>218|229=>219|n=>n,fun|n=>n⟩
theorem Tryz.lays190:Go.Proofs.Lays.n190 Tryz.prog Tryz.lays190_ren:={
 mixed:=by kernel_rfl
 f125:=Tryz.func81.trans (congrArg some (by kernel_rfl))
 f128:=Tryz.func119.trans (congrArg some (by kernel_rfl))
 f129:=Tryz.func120.trans (congrArg some (by kernel_rfl))
 f190:=Tryz.func39.trans (congrArg some (by kernel_rfl))
 f258:=Tryz.func80.trans (congrArg some (by kernel_rfl))
 f302:=Tryz.func110.trans (congrArg some (by kernel_rfl))
 f303:=Tryz.func111.trans (congrArg some (by kernel_rfl))
 f304:=Tryz.func112.trans (congrArg some (by kernel_rfl))
 f305:=Tryz.func113.trans (congrArg some (by kernel_rfl))
 f306:=Tryz.func114.trans (congrArg some (by kernel_rfl))
 f307:=Tryz.func115.trans (congrArg some (by kernel_rfl))
 f308:=Tryz.func116.trans (congrArg some (by kernel_rfl))
 f309:=Tryz.func117.trans (congrArg some (by kernel_rfl))
 f310:=Tryz.func118.trans (congrArg some (by kernel_rfl))
 f329:=Tryz.func157.trans (congrArg some (by kernel_rfl))
 f330:=Tryz.func158.trans (congrArg some (by kernel_rfl))
 f333:=Tryz.func156.trans (congrArg some (by kernel_rfl))
 f334:=Tryz.func159.trans (congrArg some (by kernel_rfl))
 f335:=Tryz.func160.trans (congrArg some (by kernel_rfl))
 f336:=Tryz.func161.trans (congrArg some (by kernel_rfl))
 f344:=Tryz.func178.trans (congrArg some (by kernel_rfl))
 t0:=Tryz.underlying0
 a0:=Tryz.isAgg0
 z0:=Tryz.sizeOf0
 v0:=Tryz.zeroValue0
 t3:=Tryz.underlying3
 a3:=Tryz.isAgg3
 z3:=Tryz.sizeOf3
 v3:=Tryz.zeroValue3
 t4:=Tryz.underlying4
 a4:=Tryz.isAgg4
 z4:=Tryz.sizeOf4
 v4:=Tryz.zeroValue4
 t5:=Tryz.underlying5
 a5:=Tryz.isAgg5
 z5:=Tryz.sizeOf5
 v5:=Tryz.zeroValue5
 t9:=Tryz.underlying9
 a9:=Tryz.isAgg9
 z9:=Tryz.sizeOf9
 v9:=Tryz.zeroValue9
 t31:=Tryz.underlying22
 a31:=Tryz.isAgg22
 z31:=Tryz.sizeOf22
 v31:=Tryz.zeroValue22
 t46:=Tryz.underlying135
 a46:=Tryz.isAgg135
 z46:=Tryz.sizeOf135
 v46:=Tryz.zeroValue135
 t51:=Tryz.underlying168
 a51:=Tryz.isAgg168
 z51:=Tryz.sizeOf168
 v51:=Tryz.zeroValue168
 t53:=Tryz.underlying170
 a53:=Tryz.isAgg170
 z53:=Tryz.sizeOf170
 v53:=Tryz.zeroValue170
 t131:=Tryz.underlying165
 a131:=Tryz.isAgg165
 z131:=Tryz.sizeOf165
 v131:=Tryz.zeroValue165
 t182:=Tryz.underlying160
 a182:=Tryz.isAgg160
 z182:=Tryz.sizeOf160
 v182:=Tryz.zeroValue160
 t183:=Tryz.underlying161
 a183:=Tryz.isAgg161
 z183:=Tryz.sizeOf161
 v183:=Tryz.zeroValue161
 t218:=Tryz.underlying202
 a218:=Tryz.isAgg202
 z218:=Tryz.sizeOf202
 v218:=Tryz.zeroValue202
 t222:=Tryz.underlying206
 a222:=Tryz.isAgg206
 z222:=Tryz.sizeOf206
 v222:=Tryz.zeroValue206
 t228:=Tryz.underlying218
 a228:=Tryz.isAgg218
 z228:=Tryz.sizeOf218
 v228:=Tryz.zeroValue218
 t229:=Tryz.underlying219
 a229:=Tryz.isAgg219
 z229:=Tryz.sizeOf219
 v229:=Tryz.zeroValue219 }
open Go.Sort Go.RowKit in
theorem Tryz.slices_Sort_string (blk off cap:Nat) (ss:List (List UInt8)) (w:World) (hH:Holds encStr w blk off ss.toArray) (hblk:blk<w.heap.size) (hsz:ss.length<4611686018427387904) :
  Calls Tryz.prog 39 #[.slice (some ⟨blk,off,none⟩) ss.length cap] w fun e w' =>
   e=.returned (.tuple #[])∧∃ n os,w'=grow (putRow encStr (Sort.ahead w n) blk off (ss.mergeSort fun x y=>decide (x≤y)).toArray) os:=Any.slices_Sort_string Tryz.lays190 blk off cap ss w hH hblk hsz
end Go.Proofs

namespace Go.Proofs.YtmdacedmjbiekaaGreatDoor
open Go.ChangeShapes Go.WideShapes Go.ChangeAt Go.RowKit Go.Lib
set_option linter.unusedVariables false
set_option linter.unusedSimpArgs false
theorem usedN_met (x:Wf.Sc) (k:Wf.K):(metL x k).mergeSort (fun a b=>decide (a≤b))=Wf.usedN x k:=Wf.used_sorted _ k
theorem metL_len (x:Wf.Sc) (k:Wf.K):(metL x k).length=(Wf.usedN x k).length:=by rw[← usedN_met,List.length_mergeSort]
theorem ins_none (p:Option Addr) (cap:Nat) (w:World):Calls Tryz.prog 110 #[.slice p 0 cap, .int .i64 0, .int .i64 0] w fun e w'=>e=.returned (.tuple #[])∧w'=w:=by
 go_enter Tryz.func110,Tryz.ntmps110
 go_wp2
 refine wp_loop_rounds 1 ?_
 rw[rounds_succ]
 go_wp2
 go_end0
 exact⟨rfl,rfl⟩
set_option maxRecDepth 100000 in
theorem pdq_none (p:Option Addr) (cap:Nat) (w:World):Calls Tryz.prog 80 #[.slice p 0 cap, .int .i64 0, .int .i64 0, .int .i64 0] w fun e w'=>e=.returned (.tuple #[])∧w'=w:=by
 go_enter Tryz.func80,Tryz.ntmps80
 go_wp2
 refine wp_loop_rounds 1 ?_
 rw[rounds_succ]
 go_wp2_with (first|(go_at_call 110;refine(ins_none p cap _).mono ?_;rintro e w' ⟨rfl,rfl⟩))
 refine bodyPost_ret (results_none rfl _ _ _) rfl ?_
 exact⟨rfl,rfl⟩
set_option maxRecDepth 100000 in
theorem len64_none (w:World):Calls Tryz.prog 120 #[.int .u64 0] w fun e w'=>e=.returned (.int .i64 0)∧w'=w:=by
 have h0:len8 0=0:=by decide
 have h1:wrap64 0=0:=by first|rfl|(unfold wrap64;omega)|simp[wrap64]
 go_enter Tryz.func120,Tryz.ntmps120
 go_wp2
 go_ret
 exact⟨by simp[h0,h1],rfl⟩
set_option maxRecDepth 100000 in
theorem len_none (w:World):Calls Tryz.prog 81 #[.int .u64 0] w fun e w'=>e=.returned (.int .i64 0)∧w'=w:=by
 go_enter Tryz.func81,Tryz.ntmps81
 go_wp2_with (first|(go_at_call 120;refine(len64_none _).mono ?_;rintro e w' ⟨rfl,rfl⟩))
 go_ret
 exact⟨rfl,rfl⟩
set_option maxRecDepth 100000 in
theorem sort_none (p:Option Addr) (cap:Nat) (w:World):Calls Tryz.prog 39 #[.slice p 0 cap] w fun e w'=>e=.returned (.tuple #[])∧w'=w:=by
 go_enter Tryz.func39,Tryz.ntmps39
 go_wp2_with (first
  | (go_at_call 81;refine(len_none _).mono ?_;rintro e w' ⟨rfl,rfl⟩)
  | (go_at_call 80;refine(pdq_none p cap _).mono ?_;rintro e w' ⟨rfl,rfl⟩))
 go_end0
 exact⟨rfl,rfl⟩
theorem sortP (base:Nat) (a:Option Addr) (n c:Nat) (l:List (List UInt8)) (hl:l.length=n) (hn:n≤1000) (w:World) (hb:base≤w.heap.size) (h:w.ownsRow base 9 1 (.slice a n c) n (l.map tx)) :
  Calls Tryz.prog 39 #[.slice a n c] w fun e w'=>e=.returned (.tuple #[])∧(∃ b,base≤b∧RowAt w' b (.slice a n c) ((l.mergeSort fun x y=>decide (x≤y)).map tx))∧Below base w w':=by
 subst hl
 have h0:=h
 rcases h.2 with⟨hnil,hz⟩|⟨g,cap,cur,hv,hbase,hgb,r1,r2,r3,r4⟩
 ·have hl0:l=[]:=List.eq_nil_of_length_eq_zero hz
  subst hl0
  refine(sort_none a c w).mono ?_
  rintro e w' ⟨rfl,rfl⟩
  refine⟨rfl,RowAt.of_owns (e:=9) ?_,Below.refl _ _⟩
  simpa using h0
 ·simp only[Value.slice.injEq] at hv
  obtain⟨rfl,_,rfl⟩:=hv
  have hH:Go.Sort.Holds encStr w g 0 l.toArray:=holds_of_block hgb (by rw[Nat.mul_one] at r4;exact r4)
  refine(Tryz.slices_Sort_string g 0 c l w hH (Array.getElem?_eq_some_iff.1 hgb).1 (by omega)).mono ?_
  rintro e w' ⟨rfl,nn,os,rfl⟩
  refine⟨rfl,RowAt.of_owns (e:=9) ?_,(Below.refl base w).grown (grownBy_sorted _) hb (fun j hj=>by cases hj;exact hbase)⟩
  have h2:=ownsRow_sorted (n:=nn) (os:=os) (ts:=l.mergeSort fun x y=>decide (x≤y)) (List.length_mergeSort l) hbase hgb r1 r2 r3
  rw[List.length_map,List.length_mergeSort]
  exact h2
set_option maxRecDepth 20000 in
set_option maxHeartbeats 2000000 in
theorem schemaUsed_i (s kt:ByteArray) (m:Int) (w:World) (hm:ML m w) (hs:s.size≤1048576) (hk6:kt.size≤1048576):Calls Tryz.prog 15 #[.string s, .string kt] w fun e w'=>(∃ b v,e=.returned (.tuple #[v, .bool (kindOf s.data.toList kt.data.toList).isSome])∧w.heap.size≤b∧RowAt w' b v ((usedL s.data.toList kt.data.toList).map tx))∧Below w.heap.size w w':=by
 have HBO:=hid (both s kt m w hm hs hk6)
 clear hm
 cases hty:kindOf s.data.toList kt.data.toList with
 | none =>
  have HTY:=hid hty
  have HF:=hid (show usedL s.data.toList kt.data.toList=[] by unfold usedL;rw[hty])
  clear hty
  go_enter Tryz.func15,Tryz.ntmps15
  go_wp2_with (go_at_call 37;refine HBO.out.mono ?_;rintro e w2 ⟨ho,hb2⟩;obtain⟨p,ka,kb,kc,rfl⟩:=ho.no HTY.out;have HB2:=hid hb2;clear ho hb2)
  go_ret2
  refine⟨⟨w.heap.size, .slice none 0 0,rfl,Nat.le_refl _, ?_⟩,by have B:=HB2.out;repeat (first|with_reducible exact B|with_reducible refine Below.drew ?_|with_reducible refine Below.alloc ?_ (by first|exact B.size|(simp;done)|(simp;omega)|omega) _)⟩
  rw[HF.out]
  exact⟨_,0,rfl,Nat.le_refl _,by unfold maxLen;omega, .inl rfl⟩
 | some y =>
  obtain⟨hsc,hpk,hhas,hkt,hkl⟩:=kindOf_text hty
  obtain⟨x,k⟩:=y
  have hx:Wf.ScOk x:=Wf.schemaOf_ok hsc
  have HTY:=hid hty
  have hk12:k.text.length≤12:=by rw[show k.text=kt.data.toList from hkt];exact hkl
  have hn8:(metL x k).length≤8:=by rw[metL_len];exact Wf.usedN_le hx hhas
  obtain⟨M,hM⟩:∃ M,metL x k=M:=⟨_,rfl⟩
  have HF:=hid (show(M.mergeSort fun a b=>decide (a≤b))=usedL s.data.toList kt.data.toList by rw[← hM,usedN_met];unfold usedL;rw[hty])
  obtain⟨n,hn⟩:∃ n,M.length=n:=⟨_,rfl⟩
  have HN:=hid hn
  obtain⟨XS,hXS⟩:∃ XS:List Value,M.map tx=XS:=⟨_,rfl⟩
  have HXS:=hid hXS
  obtain⟨SG,hSG⟩:∃ SG:ByteArray,(⟨k.signs.toArray⟩:ByteArray)=SG:=⟨_,rfl⟩
  obtain⟨BS,hBS⟩:∃ BS:ByteArray,(⟨k.base.toArray⟩:ByteArray)=BS:=⟨_,rfl⟩
  obtain⟨NM,hNM⟩:∃ NM:ByteArray,(⟨k.name.toArray⟩:ByteArray)=NM:=⟨_,rfl⟩
  have HKV:=hid (show kV k=.agg #[.string SG, .string BS, .string NM] by simp only[kV,tx,hSG,hBS,hNM])
  have HMET:=hid fun(wz:World) (lo sb:Nat) (H:ScL wz lo sb x)=>(by
   refine(met wz lo sb x hx (by have:=hx.len;omega) H k hk12 hhas).mono ?_
   rintro e w' ⟨mb,blk,a,c,rfl,hB,hf,hown,hb⟩
   rw[hM] at hf hown ⊢
   rw[hn] at hown
   obtain⟨rb,_,hrow⟩:=RowAt.of_owns (w:=w') (by rw[List.length_map,hn];exact hown)
   refine⟨a,c,by rw[hn],hid fun i (h1:i<M.length) => ?_,hb⟩
   obtain⟨o,rfl,hrb,_,_,hc⟩:=hrow.nth (i:=i) (by rw[List.length_map];exact h1)
   rw[List.getElem_map] at hc
   obtain⟨t,ht⟩:=hf _ (List.getElem_mem h1)
   have hl4:(M[i]).length≤1000:=by
    have h:=(hx.tys t (Wf.find_mem ht).1).name
    rw[(Wf.find_mem ht).2] at h
    unfold Wf.isName at h
    simp only[Bool.and_eq_true,decide_eq_true_eq] at h
    omega
   have hT:=(hB.yes ⟨(M[i]).toArray⟩ (by rw[tx_size];omega) t ht).1
   have hnm:=(hT.below hb).name
   rw[(Wf.find_mem ht).2] at hnm
   exact⟨o,rb,_,rfl,hrb,(hT.below hb).lt,hc,hnm⟩:Calls Tryz.prog 38 #[ptr sb,kV k] wz fun e w'=>∃ a c,e=.returned (.slice a n c)∧Hid (∀ i (h1:i<M.length),∃ o rb q,a=some ⟨rb,o,none⟩∧rb<w'.heap.size∧q<w'.heap.size∧w'.cell? ⟨rb,o+i,none⟩=some (ptr q)∧w'.cell? ⟨q,1,none⟩=some (tx M[i]))∧Below wz.heap.size wz w')
  rw[hM,hn] at hn8
  clear hty hsc hpk hhas hkt hkl hx hSG hBS hNM hk12 hn hXS hM
  go_enter Tryz.func15,Tryz.ntmps15
  go_wp2_with (first|(go_at_call 38;have h:=HMET.out _ w.heap.size sb HSL.out;rw[HKV.out] at h;refine h.mono ?_;clear h;rintro e w3 ⟨a,c,rfl,hrow,hb3⟩;have HB3:=hid hb3;clear hb3)|(go_at_call 37;refine HBO.out.mono ?_;rintro e w2 ⟨ho,hb2⟩;obtain⟨sb,rfl,hsl⟩:=ho.yes HTY.out;rw[HKV.out];have HSL:=hid (hsl.below ((Below.refl w2.heap.size w2).alloc (Nat.le_refl _) (.cells #[.string SG, .string BS, .string NM] 57)));have HB2:=hid hb2;clear ho hb2 hsl))
  go_loopw [9,25] (fun v9 v25 wr=>∃ (i:Nat) (a':Option Addr) (c':Nat),v9=.slice a' i c'∧v25=.int .i64 i∧i≤n∧Hid (wr.ownsRow w3.heap.size 9 1 v9 i (XS.take i)∧Below w3.heap.size w3 wr)) (fun _ v _=>n-(RowKit.intOf v).toNat)
  case atStart=>exact⟨0,_,_,rfl,rfl,Nat.zero_le _,hid ⟨World.ownsRow_nil _ _ _ _,Below.refl _ _⟩⟩
  case round =>
   obtain⟨i,a',c',rfl,rfl,hi,hg⟩:=hrel
   by_cases hlt:i<n
   ·have hix:i<M.length:=by rw[HN.out];exact hlt
    obtain⟨o,rb,q,rfl,hrb,hq,cb,cn⟩:=hrow.out i hix
    have ycb:=(hg.out.2.cell (p:=⟨rb,o+i,none⟩) hrb).trans cb
    have yn:=(hg.out.2.cell (p:=⟨q,1,none⟩) hq).trans cn
    obtain⟨TN,hTN⟩:∃ TN:ByteArray,(⟨(M[i]).toArray⟩:ByteArray)=TN:=⟨_,rfl⟩
    rw[tx,hTN] at yn
    have HX:=hid (show XS.take (i+1)=XS.take i++[.string TN] by
     rw[List.take_add_one,← HXS.out,List.getElem?_map,List.getElem?_eq_getElem hix,← hTN];rfl)
    obtain⟨i0,hi0,hz0,hz1,hz2⟩:=info_parts info_tx
    have HI0:=hid hi0
    have HZ0:=hid hz0
    have HZ1:=hid hz1
    have HZ2:=hid hz2
    have hsz:=hg.out.2.size
    clear hTN hi0 hz0 hz1 hz2 cb cn
    go_wp2_with (at_builtin;refine wpList_append_own_at _ rfl (.tmp 29) (.tmp 34) 22 rfl w3.heap.size 9 i0 (.string ⟨#[]⟩) 1 16 Tryz.underlying22 HI0.out HZ0.out HZ1.out HZ2.out rfl (by decide) (.slice a' i c') i _ rfl (hg.out.1.alloc _) ⟨wr.heap.size,0,none⟩ 1 1 [.string TN] rfl rfl ?hn ?h1 (by unfold maxLen;omega) (by omega) ?hb ?next)
    case hn=>exact newOne wr _ _
    case h1=>intro u hu;rw[List.mem_singleton.1 hu];rfl
    case hb=>simp;omega
    case next =>
     intro v1 w4 ho4 hg4 _ _
     obtain⟨a2,c2,rfl⟩:=owns_slice ho4
     rw[← HX.out] at ho4
     have B4:=below_grown2 hg4 (fun g h=>(owns_lt hg.out.1 g h).1) (by simp;omega)
     have HG:=hid (show w4.ownsRow w3.heap.size 9 1 (.slice a2 (i+1) c2) (i+1) (XS.take (i+1))∧Below w3.heap.size w3 w4 from⟨ho4,(hg.out.2.alloc hsz _).trans B4⟩)
     clear ho4 hg4 B4
     go_wp2
     go_roundw
     case rel=>exact⟨i+1,a2,c2,rfl,by go_num,by omega,HG⟩
     case measure=>simp[RowKit.intOf];omega
   ·have hkn:i=n:=by omega
    subst hkn
    have HS:=hid (sortP w3.heap.size a' i c' M HN.out (by omega) wr hg.out.2.size (by
     have h:=hg.out.1
     rw[List.take_of_length_le (by rw[← HXS.out,List.length_map,HN.out];exact Nat.le_refl _),← HXS.out] at h
     exact h))
    have HB:=hid (((HB2.out.alloc HB2.out.size (.cells #[.string SG, .string BS, .string NM] 57)).trans (HB3.out.mono (by have:=HB2.out.size;simp;omega))))
    have hs3:=HB.out.size
    go_wp2_with (go_at_call 39;refine HS.out.mono ?_;rintro e w5 ⟨rfl,⟨b5,hb5,r5⟩,hbl5⟩;have R5:=hid r5;have B5:=hid hbl5;clear r5 hbl5)
    go_ret2
    refine⟨⟨b5,_,rfl,by omega, ?_⟩,HB.out.trans ((hg.out.2.trans B5.out).mono hs3)⟩
    rw[← HF.out]
    exact R5.out
end Go.Proofs.YtmdacedmjbiekaaGreatDoor

namespace Wf
set_option linter.unusedVariables false
set_option linter.unusedSimpArgs false
theorem foldl_inv_mem {α β:Type} (P:α→Prop) (f:α→β→α):∀ (l:List β) (a:α),(∀ b,b∈l→∀ a,P a→P (f a b))→P a→P (l.foldl f a):=by
 intro l
 induction l with
 | nil=>intro a _ h;exact h
 | cons b l ih=>intro a hf h;exact ih _ (fun c hc=>hf c (List.mem_cons_of_mem _ hc)) (hf b List.mem_cons_self a h)
theorem insB_len (a:Bs) (l:List Bs):(insB a l).length=l.length+1:=by
 have h:(l.takeWhile (fun b=>decide (b<a))).length+(l.dropWhile (fun b=>decide (b<a))).length=l.length:=by
  rw[← List.length_append,List.takeWhile_append_dropWhile]
 unfold insB
 rw[List.length_append,List.length_cons]
 omega
theorem visit_room {x:Sc} (hx:ScOk x) {C:Nat}:∀ (n:Nat) (k:K) (out:List Bs),hasRef x k=true→out.length+left x out≤C→(visit x insB n k out).length+left x (visit x insB n k out)≤C:=by
 intro n
 induction n with
 | zero=>intro k out _ h;exact h
 | succ n ih =>
  intro k out hk h
  simp only[visit]
  cases hn:k.refN with
  | none=>exact h
  | some nm =>
   dsimp only
   by_cases hm:nm∈out
   ·rw[if_pos hm];exact h
   ·rw[if_neg hm]
    obtain⟨t,ht⟩:=refN_has hk hn
    rw[ht]
    dsimp only
    have h1:=left_lt insB_ok ht hm
    have h2:(insB nm out).length+left x (insB nm out)≤C:=by rw[insB_len];omega
    by_cases hs:t.sort=69
    ·rw[if_pos hs];exact h2
    ·rw[if_neg hs]
     exact foldl_inv_mem (fun o=>o.length+left x o≤C) _ _ _ (fun f hf o ho=>ih f.kind o (hx.refs t (find_mem ht).1 hs f hf) ho) h2
end Wf
