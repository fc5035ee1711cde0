/- Packed by pack.py: Aid Rd Tr Tn Ks In. -/
import Derived.WalkKit
import Derived.Lib.UnsafeStr
import Derived.Lib.Hide
import Derived.Test.YtidjpalnmnehmaaRows
import Derived.ProofKit
import Derived.OpenShut
import Derived.BigQuiet
import Derived.WalkSpells
import Derived.Test.YtidjpalnmnehmaaChecked
import Derived.KernelRfl
import Derived.Below
import Derived.Lib.SlTrimSet
import Derived.Test.YtidjpalnmnehmaaF0
namespace Go
open Go.RowKit
variable {P : Program}
theorem bcell {B : Nat} {W w1 : World} (hb : Below B W w1) : (∀ b o,b < B → w1.cell? ⟨b,o,none⟩ = W.cell? ⟨b,o,none⟩) ∧ (∀ b o,b < B → w1.frozen? ⟨b,o,none⟩ = W.frozen? ⟨b,o,none⟩) :=
  ⟨fun b o h => hb.cell (p:=⟨b,o,none⟩) h,fun b o h => hb.frozen (p:=⟨b,o,none⟩) h⟩
theorem run_convert_owned (w : World) (src dst e : TypeId) {base et : Nat} {v : Value} {l : List UInt8} (hs : P.underlying src = some (.slice e)) (he : P.underlying e = some (.int .u8)) (hd : P.underlying dst = some .string)
    (h : w.ownsRow base et 1 v l.length (Lib.byteCells l)) : (convert src dst v).run P w = .ok (.string ⟨l.toArray⟩) w:=by
  obtain ⟨h1,h2⟩:=h
  rcases h2 with ⟨rfl,h0⟩ | ⟨g,cap,cur,rfl,hg,hh,hn,hc,hsz,ht⟩
  · have : l = []:=List.eq_nil_of_length_eq_zero h0
    subst this
    rw [run_convert_bytes_string w src dst e none 0 0 hs he hd]
    simp [Conv.bytesToString,Sem.run_pure]
    rfl
  · refine run_convert_bytes_back w src dst e ⟨g,0,none⟩ cap l hs he hd fun j hj => ?_
    have ha : (Addr.add ⟨g,0,none⟩ j) = ⟨g,j,none⟩:=by simp [Addr.add];intro h;exact h.symm
    rw [ha]
    simp only [World.cell?,hh]
    have hx : (cur.toList.take (l.length * 1))[j]? = (Lib.byteCells l)[j]?:=by rw [ht]
    rw [List.getElem?_take,if_pos (by omega)] at hx
    simp only [Lib.byteCells,List.getElem?_map,List.getElem?_eq_getElem hj,Option.map_some] at hx
    simpa using hx
theorem run_convert_one (src dst e : TypeId) (hs : P.underlying src = some (.slice e)) (he : P.underlying e = some (.int .u8)) (hd : P.underlying dst = some .string) (W : World) (a : Addr) (c : Nat) (m : Int)
    (h : W.cell? a = some (.int .u8 m)) : (convert src dst (.slice (some a) 1 c)).run P W = .ok (.string ⟨#[UInt8.ofNat m.toNat]⟩) W:=by
  rw [run_convert_bytes_string W src dst e (some a) 1 c hs he hd]
  have hl:=run_loadCells_list (P:=P) W a ([m].map (Value.int .u8)) (fun j v hj => by
    match j,hj with
    | 0,hj => simp at hj;subst hj;simpa [Addr.add] using h)
  simp only [List.length_map,List.length_cons,List.length_nil] at hl
  rw [run_bytesToString W a 1 c [m] hl]
  rfl
theorem run_convert_lit (src dst e : TypeId) (hs : P.underlying src = some (.slice e)) (he : P.underlying e = some (.int .u8)) (hd : P.underlying dst = some .string) (W : World) (m : Int) (et : TypeId) :
    (convert src dst (.slice (some ⟨W.heap.size,0,none⟩) 1 1)).run P (W.alloc (.cells #[.int .u8 m] et)) = .ok (.string ⟨#[UInt8.ofNat m.toNat]⟩) (W.alloc (.cells #[.int .u8 m] et)) :=
  run_convert_one src dst e hs he hd _ _ 1 m (by simp)
theorem run_convert_lit_drew (src dst e : TypeId) (hs : P.underlying src = some (.slice e)) (he : P.underlying e = some (.int .u8)) (hd : P.underlying dst = some .string) (W : World) (m : Int) (et : TypeId) :
    (convert src dst (.slice (some ⟨W.heap.size,0,none⟩) 1 1)).run P (W.alloc (.cells #[.int .u8 m] et)).drew = .ok (.string ⟨#[UInt8.ofNat m.toNat]⟩) (W.alloc (.cells #[.int .u8 m] et)).drew :=
  run_convert_one src dst e hs he hd _ _ 1 m (by simp)
theorem run_add_bytes (x y z : List UInt8) (h : x.length + y.length ≤ 9223372036854775807) (hz : z = x ++ y) (W : World) :
    (Op.stringOp .add ⟨x.toArray⟩ ⟨y.toArray⟩).run P W = .ok (.string ⟨z.toArray⟩) W:=by
  subst hz
  refine (run_string_add_sum (P:=P) (w:=W) _ _ (by simpa [ByteArray.size] using h)).trans ?_
  rw [ByteArray.mk_append_mk]
theorem below_grown {base : Nat} {w w' : World} {e n : Nat} {size : Nat} {v : Value} {xs : List Value} (hown : w.ownsRow base e size v n xs) (hg : w.grownBy w' v.ownBlock) (hb : base ≤ w.heap.size) : Below base w w':=by
  refine (Below.refl base w).grown hg hb fun k hk => ?_
  obtain ⟨_,h2⟩:=hown
  rcases h2 with ⟨rfl,_⟩ | ⟨g,cap,cur,rfl,hg,_⟩
  · simp [Value.ownBlock] at hk
  · simp [Value.ownBlock] at hk;omega
theorem wpList_append_one (w : World) {ops : Array Oper} {rest : List Oper} {o : Oper} {a : Act} {Q : Exit → Act → World → Prop} (hgd : o.guard = none) (s x : Operand) (t : TypeId)
    (ho : o.op = .call { callee:=.builtin .append,args:=#[s,x],argTypes:=#[t,t] })
    (base : Nat) (e : TypeId) (i : TypeInfo) (z : Value) (size bytes : Nat) (ht : P.underlying t = some (.slice e)) (hi : P.info? e = some i) (hz : i.zero = some z)
    (hsize : i.size = size) (hby : i.bytes = bytes) (hzs : z.cells.size = size) (hsz : 0 < size)
    (v : Value) (n : Nat) (xs : List Value) (hs : a.eval s = v) (hown : w.ownsRow base e size v n xs)
    (ad : Addr) (news : List Value) (hx : a.eval x = .slice (some ad) 1 1) (hl : news.length = size) (hnews : ∀ j u,news[j]? = some u → w.cell? (ad.add j) = some u) (h1 : ∀ u ∈ news,u.oneCell' = true)
    (hbytes : (n + 1) * bytes ≤ 140737488355328) (h63 : n + 1 ≤ 140737488355328) (hbase : base ≤ w.heap.size)
    (h : ∀ v' w',w'.ownsRow base e size v' (n + 1) (xs ++ news) → Below base w w' → wpList P ops Q rest (a.put o.dst v') w') : wpList P ops Q (o :: rest) a w :=
  wpList_append_own w hgd s x t ho base e i z size bytes ht hi hz hsize hby hzs hsz v n xs hs hown ad 1 1 news hx (by omega) hnews h1 (by unfold maxLen;omega) hbytes hbase
    fun v' w' g1 g2 _ => h v' w' g1 (below_grown hown g2 hbase)
theorem wpList_append_byte (w : World) {ops : Array Oper} {rest : List Oper} {o : Oper} {a : Act} {Q : Exit → Act → World → Prop} (hgd : o.guard = none) (s x : Operand) (t : TypeId)
    (ho : o.op = .call { callee:=.builtin .append,args:=#[s,x],argTypes:=#[t,t] })
    (base : Nat) (e : TypeId) (ht : P.underlying t = some (.slice e)) (hi : (P.info? e).map (fun i => (i.zero,i.size,i.bytes)) = some (some (.int .u8 0),1,1))
    (v : Value) (l : List UInt8) (hs : a.eval s = v) (hown : w.ownsRow base e 1 v l.length (Lib.byteCells l))
    (ad : Addr) (m : Int) (hx : a.eval x = .slice (some ad) 1 1) (hc : w.cell? ad = some (.int .u8 m)) (c : UInt8) (hm : m = c.toNat)
    (hn : l.length + 1 ≤ 140737488355328) (hbase : base ≤ w.heap.size)
    (h : ∀ v' w',w'.ownsRow base e 1 v' (l ++ [c]).length (Lib.byteCells (l ++ [c])) → Below base w w' → wpList P ops Q rest (a.put o.dst v') w') : wpList P ops Q (o :: rest) a w:=by
  obtain ⟨i0,hi0,hz0,hz1,hz2⟩:=info_parts hi
  refine wpList_append_one w hgd s x t ho base e i0 (.int .u8 0) 1 1 ht hi0 hz0 hz1 hz2 rfl (by decide) v l.length _ hs hown ad [.int .u8 m] hx rfl ?_ ?_ (by omega) hn hbase ?_
  · intro j u hj
    match j,hj with
    | 0,hj => simp at hj;subst hj;simpa [Addr.add] using hc
  · intro u hu;simp at hu;subst hu;rfl
  · intro v' w' g1 g2
    refine h v' w' ?_ g2
    have e1 : (l ++ [c]).length = l.length + 1:=by simp
    have e2 : Lib.byteCells (l ++ [c]) = Lib.byteCells l ++ [.int .u8 m]:=by simp [Lib.byteCells,hm]
    rw [e1,e2]
    exact g1
end Go

namespace Go.Proofs.Ytidjpalnmnehmaa
open Go.ChangeShapes Go.WideShapes Go.ChangeAt Go.RowKit
set_option linter.unusedVariables false
set_option maxRecDepth 20000 in
theorem pick_low (rb : Nat) (a : Option Addr) (len cap : Nat) (p n : Int) (w : World) (c0 : w.cell? ⟨rb,0,none⟩ = some (.slice a len cap)) (c1 : w.cell? ⟨rb,1,none⟩ = some (.int .i64 p)) (f1 : w.frozen? ⟨rb,1,none⟩ = false) (hp : 0 ≤ p) (hp2 : p ≤ 1000000) (hn : n < 1) : Calls Try.prog 10 #[.pointer (some ⟨rb,0,none⟩), .int .i64 n] w fun e w' => e = .returned (.int .i64 0) ∧ w.setCell ⟨rb,1,none⟩ (.int .i64 (p + 1)) = w':=by
  go_enter Try.func10,Try.ntmps10
  go_wp2
  go_ret
  exact ⟨rfl,rfl⟩
set_option maxRecDepth 20000 in
theorem pick_empty (rb : Nat) (a : Option Addr) (cap : Nat) (p n : Int) (w : World) (c0 : w.cell? ⟨rb,0,none⟩ = some (.slice a 0 cap)) (c1 : w.cell? ⟨rb,1,none⟩ = some (.int .i64 p)) (f1 : w.frozen? ⟨rb,1,none⟩ = false) (hp : 0 ≤ p) (hp2 : p ≤ 1000000) (hn : 1 ≤ n) : Calls Try.prog 10 #[.pointer (some ⟨rb,0,none⟩), .int .i64 n] w fun e w' => e = .returned (.int .i64 0) ∧ w.setCell ⟨rb,1,none⟩ (.int .i64 (p + 1)) = w':=by
  go_enter Try.func10,Try.ntmps10
  go_wp2
  go_ret
  exact ⟨rfl,rfl⟩
set_option maxRecDepth 20000 in
theorem pick_in (rb b off : Nat) (len cap : Nat) (p n m : Int) (w : World) (c0 : w.cell? ⟨rb,0,none⟩ = some (.slice (some ⟨b,off,none⟩) len cap)) (c1 : w.cell? ⟨rb,1,none⟩ = some (.int .i64 p)) (f1 : w.frozen? ⟨rb,1,none⟩ = false) (hp : 0 ≤ p) (hp2 : p ≤ 1000000) (hn : 1 ≤ n)
    (hl : 1 ≤ len) (hl2 : len ≤ 2000) (hpl : p < len) (hb : b ≠ rb) (hm : 0 ≤ m) (hm2 : m < 256) (cb : w.cell? ⟨b,off + p.toNat,none⟩ = some (.int .u8 m)) : Calls Try.prog 10 #[.pointer (some ⟨rb,0,none⟩), .int .i64 n] w fun e w' => e = .returned (.int .i64 (m % n)) ∧ w.setCell ⟨rb,1,none⟩ (.int .i64 (p + 1)) = w':=by
  have e1 : p + 1 - 1 = p:=by omega
  have t0 : ((len : Int) == 0) = false:=by rw [beq_eq_false_iff_ne];omega
  have t1 : (decide (n < 1) || (len : Int) == 0) = false:=by rw [t0,decide_eq_false (by omega)];rfl
  go_enter Try.func10,Try.ntmps10
  go_wp2
  go_ret
  exact ⟨rfl,rfl⟩
set_option maxRecDepth 20000 in
theorem pick_mix (rb b off : Nat) (len cap : Nat) (p n m1 m2 q1 q2 q3 : Int) (w : World) (c0 : w.cell? ⟨rb,0,none⟩ = some (.slice (some ⟨b,off,none⟩) len cap)) (c1 : w.cell? ⟨rb,1,none⟩ = some (.int .i64 p)) (f1 : w.frozen? ⟨rb,1,none⟩ = false) (hp : 0 ≤ p) (hp2 : p ≤ 1000000) (hn : 1 ≤ n) (hn2 : n ≤ 9223372036854775807)
    (hl : 1 ≤ len) (hl2 : len ≤ 2000) (hpl : ¬ p < len) (hb : b ≠ rb) (hm : 0 ≤ m1) (hm2 : m1 < 256) (hm3 : 0 ≤ m2) (hm4 : m2 < 256)
    (hq1 : p.tmod len = q1) (hq2 : (p * 7 + 3).tmod len = q2) (hq3 : p.tdiv len = q3) (r1 : 0 ≤ q1) (r2 : q1 < len) (r3 : 0 ≤ q2) (r4 : q2 < len) (r5 : 0 ≤ q3) (r6 : q3 ≤ 1000000)
    (cb1 : w.cell? ⟨b,off + q1.toNat,none⟩ = some (.int .u8 m1)) (cb2 : w.cell? ⟨b,off + q2.toNat,none⟩ = some (.int .u8 m2)) : Calls Try.prog 10 #[.pointer (some ⟨rb,0,none⟩), .int .i64 n] w fun e w' => e = .returned (.int .i64 ((bits .xor .i64 (m1 * 131 + m2 * 1117 + p * 29 + q3 * 53) ((m1 * 131 + m2 * 1117 + p * 29 + q3 * 53) / 64)).tmod n)) ∧ ∃ k,w' = (w.setCell ⟨rb,1,none⟩ (.int .i64 (p + 1))).drewN k:=by
  have e1 : p + 1 - 1 = p:=by omega
  have t0 : ((len : Int) == 0) = false:=by rw [beq_eq_false_iff_ne];omega
  have t1 : (decide (n < 1) || (len : Int) == 0) = false:=by rw [t0,decide_eq_false (by omega)];rfl
  have z0 : ¬ (len : Int) = 0:=by omega
  have z1 : ¬ len = 0:=by omega
  go_enter Try.func10,Try.ntmps10
  go_wp2
  go_quiet (fail)
  go_wp2
  go_ret
  exact ⟨rfl,_,rfl⟩
theorem wrap_nat_i64 (n : Nat) (h : n < 4611686018427387904) : IntKind.i64.wrap (n : Int) = n:=by
  simp [IntKind.wrap,IntKind.bits,IntKind.signed];omega
theorem xor_nonneg (x : Int) (h0 : 0 ≤ x) (h1 : x < 4611686018427387904) : 0 ≤ bits .xor .i64 x (x / 64):=by
  obtain ⟨a,rfl⟩:=Int.eq_ofNat_of_zero_le h0
  obtain ⟨b,hb⟩ : ∃ b : Nat,((a : Int) / 64) = b:=⟨a / 64,by omega⟩
  rw [hb]
  have hx : a ^^^ b < 2 ^ 62:=Nat.xor_lt_two_pow (by omega) (by omega)
  have h1' : (BitVec.ofInt 64 (a : Int)).toNat = a:=by
    rw [BitVec.ofInt_natCast,BitVec.toNat_ofNat];exact Nat.mod_eq_of_lt (by omega)
  have h2' : (BitVec.ofInt 64 (b : Int)).toNat = b:=by
    rw [BitVec.ofInt_natCast,BitVec.toNat_ofNat];exact Nat.mod_eq_of_lt (by omega)
  have : bits .xor .i64 (a : Int) (b : Int) = ((a ^^^ b : Nat) : Int):=by
    show IntKind.i64.wrap ((BitVec.ofInt 64 (a : Int) ^^^ BitVec.ofInt 64 (b : Int)).toNat : Int) = _
    rw [BitVec.toNat_xor,h1',h2',wrap_nat_i64 _ (by omega)]
  rw [this];omega
structure Beside (rb : Nat) (w w' : World) : Prop where
  os : w'.os = w.os
  tape : w'.tape = w.tape
  output : w'.output = w.output
  size : w.heap.size ≤ w'.heap.size
  block : ∀ k,k < w.heap.size → k ≠ rb → w'.heap[k]? = w.heap[k]?
theorem Beside.refl (rb : Nat) (w : World) : Beside rb w w:=⟨rfl,rfl,rfl,Nat.le_refl _,fun _ _ _ => rfl⟩
theorem Beside.trans {rb : Nat} {a b c : World} (h : Beside rb a b) (k : Beside rb b c) : Beside rb a c :=
  ⟨k.os.trans h.os,k.tape.trans h.tape,k.output.trans h.output,Nat.le_trans h.size k.size,fun i hi hr => (k.block i (Nat.lt_of_lt_of_le hi h.size) hr).trans (h.block i hi hr)⟩
theorem Beside.of_below {rb B : Nat} {a b : World} (h : Below B a b) (hB : a.heap.size ≤ B) : Beside rb a b:=⟨h.os,h.tape,h.output,h.size,fun k hk _ => h.block k (Nat.lt_of_lt_of_le hk hB)⟩
theorem Beside.below {rb B : Nat} {a w w' : World} (h : Below B a w) (hB : B ≤ w.heap.size) (hr : B ≤ rb) (k : Beside rb w w') : Below B a w' :=
  ⟨k.os.trans h.os,k.tape.trans h.tape,k.output.trans h.output,Nat.le_trans h.size k.size,fun i hi => (k.block i (by omega) (by omega)).trans (h.block i hi)⟩
theorem Beside.set (rb : Nat) (w : World) (o : Nat) (u : Value) : Beside rb w (w.setCell ⟨rb,o,none⟩ u):=by
  have h:=Below.setCell (B:=rb) (Below.refl rb w) (p:=⟨rb,o,none⟩) (Nat.le_refl _) u
  exact ⟨h.os,h.tape,h.output,h.size,fun k _ hr => Below.heap_setCell w ⟨rb,o,none⟩ u k hr⟩
theorem Beside.drewN {rb : Nat} {a w : World} (h : Beside rb a w) (n : Nat) : Beside rb a (w.drewN n):=h.trans ⟨rfl,rfl,rfl,Nat.le_refl _,fun _ _ _ => rfl⟩
theorem Beside.drew {rb : Nat} {a w : World} (h : Beside rb a w) : Beside rb a w.drew:=h.trans ⟨rfl,rfl,rfl,Nat.le_refl _,fun _ _ _ => rfl⟩
theorem Beside.cell {rb : Nat} {w w' : World} (h : Beside rb w w') {p : Addr} (hp : p.block < w.heap.size) (hr : p.block ≠ rb) : w'.cell? p = w.cell? p:=World.cell?_of_block (w:=w) (h.block p.block hp hr)
theorem Beside.cell_some {rb : Nat} {w w' : World} (h : Beside rb w w') {b o : Nat} {v : Value} (hc : w.cell? ⟨b,o,none⟩ = some v) (hr : b ≠ rb) : w'.cell? ⟨b,o,none⟩ = some v:=by
  have hlt : b < w.heap.size:=by
    rcases Nat.lt_or_ge b w.heap.size with h | h
    · exact h
    · simp [World.cell?,Array.getElem?_eq_none h] at hc
  rw [h.cell (p:=⟨b,o,none⟩) hlt hr];exact hc
def Bytes (w : World) (rb : Nat) (a : Option Addr) (len cap : Nat) : Prop :=
  len ≤ cap ∧ cap ≤ maxLen ∧ (len = 0 ∨ ∃ b off,a = some ⟨b,off,none⟩ ∧ b < rb ∧ ∀ i,i < len → ∃ m : Int,0 ≤ m ∧ m < 256 ∧ w.cell? ⟨b,off + i,none⟩ = some (.int .u8 m))
def Rd (w : World) (rb k : Nat) : Prop:=∃ a len cap,∃ p : Int,Bytes w rb a len cap ∧ w.cell? ⟨rb,0,none⟩ = some (.slice a len cap) ∧ w.cell? ⟨rb,1,none⟩ = some (.int .i64 p) ∧ w.frozen? ⟨rb,1,none⟩ = false ∧ 0 ≤ p ∧ p ≤ k ∧ len ≤ 2000 ∧ rb < w.heap.size
theorem Bytes.keep {w w' : World} {rb : Nat} {a : Option Addr} {len cap : Nat} (h : Bytes w rb a len cap) (hk : ∀ b o v,b < rb → w.cell? ⟨b,o,none⟩ = some v → w'.cell? ⟨b,o,none⟩ = some v) : Bytes w' rb a len cap:=by
  obtain ⟨h1,h2,h | ⟨b,off,ha,hb,hc⟩⟩:=h
  · exact ⟨h1,h2, .inl h⟩
  · refine ⟨h1,h2, .inr ⟨b,off,ha,hb,fun i hi => ?_⟩⟩
    obtain ⟨m,m1,m2,m3⟩:=hc i hi
    exact ⟨m,m1,m2,hk _ _ _ hb m3⟩
theorem Rd.mono {w : World} {rb k k' : Nat} (h : Rd w rb k) (hk : k ≤ k') : Rd w rb k':=by
  obtain ⟨a,len,cap,p,h1,h2,h3,h4,h5,h6,h7,h8⟩:=h
  exact ⟨a,len,cap,p,h1,h2,h3,h4,h5,by omega,h7,h8⟩
theorem Rd.below {w w' : World} {rb k B : Nat} (h : Rd w rb k) (hb : Below B w w') (hB : rb < B) : Rd w' rb k:=by
  obtain ⟨a,len,cap,p,h1,h2,h3,h4,h5,h6,h7,h8⟩:=h
  refine ⟨a,len,cap,p,h1.keep fun b o v hbr hc => ?_, ?_, ?_, ?_,h5,h6,h7,Nat.lt_of_lt_of_le h8 hb.size⟩
  · rw [hb.cell (p:=⟨b,o,none⟩) (Nat.lt_trans hbr hB)];exact hc
  · rw [hb.cell (p:=⟨rb,0,none⟩) hB];exact h2
  · rw [hb.cell (p:=⟨rb,1,none⟩) hB];exact h3
  · rw [hb.frozen (p:=⟨rb,1,none⟩) hB];exact h4
theorem Rd.drewN {w : World} {rb k : Nat} (h : Rd w rb k) (n : Nat) : Rd (w.drewN n) rb k:=h.below (B:=rb + 1) ⟨rfl,rfl,rfl,Nat.le_refl _,fun _ _ => rfl⟩ (by omega)
theorem Rd.step {w : World} {rb : Nat} {a : Option Addr} {len cap : Nat} {p : Int} {k : Nat} (h1 : Bytes w rb a len cap) (h2 : w.cell? ⟨rb,0,none⟩ = some (.slice a len cap)) (h3 : w.cell? ⟨rb,1,none⟩ = some (.int .i64 p)) (h4 : w.frozen? ⟨rb,1,none⟩ = false) (h5 : 0 ≤ p) (h6 : p ≤ k) (h7 : len ≤ 2000) (h8 : rb < w.heap.size) : Rd (w.setCell ⟨rb,1,none⟩ (.int .i64 (p + 1))) rb (k + 1):=by
  have hbs:=Beside.set rb w 1 (.int .i64 (p + 1))
  refine ⟨a,len,cap,p + 1,h1.keep fun b o v hbr hc => hbs.cell_some hc (by omega), ?_, ?_, ?_,by omega,by omega,h7,Nat.lt_of_lt_of_le h8 hbs.size⟩
  · exact (World.cell?_setCell_other w _ _ _ (by simp)).trans h2
  · exact World.cell?_setCell_same w _ _ h3
  · simp [h4]
theorem pick (rb k : Nat) (n : Int) (w : World) (H : Rd w rb k) (hk : k ≤ 1000000) (hn : n ≤ 9223372036854775807) :
    Calls Try.prog 10 #[.pointer (some ⟨rb,0,none⟩), .int .i64 n] w fun e w' => ∃ v : Int,e = .returned (.int .i64 v) ∧ (1 ≤ n → 0 ≤ v ∧ v < n) ∧ (n < 1 → v = 0) ∧ Rd w' rb (k + 1) ∧ Beside rb w w':=by
  obtain ⟨a,len,cap,p,h1,h2,h3,h4,h5,h6,h7,h8⟩:=H
  have R:=Rd.step h1 h2 h3 h4 h5 h6 h7 h8
  have Bs:=Beside.set rb w 1 (.int .i64 (p + 1))
  rcases Int.lt_or_le n 1 with hn1 | hn1
  · refine (pick_low rb a len cap p n w h2 h3 h4 h5 (by omega) hn1).mono ?_
    rintro e w' ⟨rfl,rfl⟩
    exact ⟨0,rfl,fun h => by omega,fun _ => rfl,R,Bs⟩
  · by_cases hl : len = 0
    · subst hl
      refine (pick_empty rb a cap p n w h2 h3 h4 h5 (by omega) hn1).mono ?_
      rintro e w' ⟨rfl,rfl⟩
      exact ⟨0,rfl,fun h => by omega,fun h => by omega,R,Bs⟩
    · obtain ⟨l1,l2,h0 | ⟨b,off,rfl,hb,hc⟩⟩:=h1
      · exact absurd h0 hl
      · by_cases hpl : p < len
        · obtain ⟨m,m1,m2,m3⟩:=hc p.toNat (by omega)
          refine (pick_in rb b off len cap p n m w h2 h3 h4 h5 (by omega) hn1 (by omega) h7 hpl (by omega) m1 m2 m3).mono ?_
          rintro e w' ⟨rfl,rfl⟩
          exact ⟨_,rfl,fun h => ⟨Int.emod_nonneg _ (by omega),Int.emod_lt_of_pos _ (by omega)⟩,fun h => by omega,R,Bs⟩
        · have hlp : (0 : Int) < len:=by omega
          have q1 : p.tmod len = p % len:=Int.tmod_eq_emod_of_nonneg h5
          have q2 : (p * 7 + 3).tmod len = (p * 7 + 3) % len:=Int.tmod_eq_emod_of_nonneg (by omega)
          have q3 : p.tdiv len = p / len:=Int.tdiv_eq_ediv_of_nonneg h5
          have a1:=Int.emod_nonneg p (b:=len) (by omega)
          have a2:=Int.emod_lt_of_pos p hlp
          have a3:=Int.emod_nonneg (p * 7 + 3) (b:=len) (by omega)
          have a4:=Int.emod_lt_of_pos (p * 7 + 3) hlp
          have a5 : 0 ≤ p / len:=Int.ediv_nonneg h5 (by omega)
          have a6 : p / len ≤ p:=Int.ediv_le_self _ h5
          obtain ⟨m,m1,m2,m3⟩:=hc (p % len).toNat (by omega)
          obtain ⟨m',m1',m2',m3'⟩:=hc ((p * 7 + 3) % len).toNat (by omega)
          refine (pick_mix rb b off len cap p n m m' (p % len) ((p * 7 + 3) % len) (p / len) w h2 h3 h4 h5 (by omega) hn1 hn (by omega) h7 hpl (by omega) m1 m2 m1' m2' q1 q2 q3 a1 a2 a3 a4 a5 (by omega) m3 m3').mono ?_
          rintro e w' ⟨rfl,k1,rfl⟩
          exact ⟨_,rfl,fun h => ⟨Int.tmod_nonneg _ (xor_nonneg _ (by omega) (by omega)),Int.tmod_lt_of_pos _ (by omega)⟩,fun h => by omega,R.drewN _,Bs.drewN _⟩
set_option maxRecDepth 20000 in
theorem open_small (w : World) (a : Option Addr) (len cap : Nat) (hl : len ≤ 2000) : Calls Try.prog 8 #[.slice a len cap] w fun e w' => e = .returned (.pointer (some ⟨w.heap.size,0,none⟩)) ∧ w.alloc (.cells #[.slice a len cap, .int .i64 0] 43) = w':=by
  go_enter Try.func8,Try.ntmps8
  go_wp2
  go_ret
  exact ⟨rfl,rfl⟩
set_option maxRecDepth 20000 in
theorem open_big (w : World) (b off : Nat) (len cap : Nat) (hl : 2000 < len) (hl2 : len ≤ cap) (hc : cap ≤ maxLen) : Calls Try.prog 8 #[.slice (some ⟨b,off,none⟩) len cap] w fun e w' => e = .returned (.pointer (some ⟨w.heap.size,0,none⟩)) ∧ w.alloc (.cells #[.slice (some ⟨b,off,none⟩) 2000 cap, .int .i64 0] 43) = w':=by
  go_enter Try.func8,Try.ntmps8
  go_wp2
  go_ret
  exact ⟨rfl,rfl⟩
theorem Rd.alloc {w : World} {rb k : Nat} (h : Rd w rb k) (o : Obj) : Rd (w.alloc o) rb k:=by
  have h8 : rb < w.heap.size:=by obtain ⟨a,len,cap,p,h1,h2,h3,h4,h5,h6,h7,h8⟩:=h;exact h8
  exact h.below (B:=rb + 1) (Below.alloc (Below.refl _ _) (by omega) o) (by omega)
theorem Rd.lt {w : World} {rb k : Nat} (h : Rd w rb k) : rb < w.heap.size:=by obtain ⟨a,len,cap,p,h1,h2,h3,h4,h5,h6,h7,h8⟩:=h;exact h8
theorem Beside.alloc {rb : Nat} {a w : World} (h : Beside rb a w) (o : Obj) : Beside rb a (w.alloc o):=h.trans (Beside.of_below (B:=w.heap.size) (Below.alloc (Below.refl _ _) (Nat.le_refl _) o) (Nat.le_refl _))
theorem bytes_of {w : World} {a : Option Addr} {len cap : Nat} {zs : List Int} (h : (a = none ∧ len = 0 ∧ cap = 0 ∧ zs = []) ∨
  ∃ x,a = some x ∧ len ≤ cap ∧ cap ≤ maxLen ∧ zs.length = cap ∧ (∀ i,i < zs.length → w.cell? (x.add i) = some (.int .u8 (zs.getD i 0))) ∧ ∀ n ∈ zs,(Lit.int .u8 n).wf = true) : Bytes w w.heap.size a len cap:=by
  rcases h with ⟨rfl,rfl,rfl,_⟩ | ⟨x,rfl,h1,h2,h3,h4,h5⟩
  · exact ⟨Nat.le_refl _,by unfold maxLen;omega, .inl rfl⟩
  · refine ⟨h1,h2, ?_⟩
    rcases Nat.eq_zero_or_pos len with h0 | h0
    · exact .inl h0
    · have hx:=h4 0 (by omega)
      simp only [Addr.add,if_true] at hx
      obtain ⟨b,off,spot⟩:=x
      have hb : b < w.heap.size:=by
        rcases Nat.lt_or_ge b w.heap.size with h | h
        · exact h
        · simp [World.cell?,Array.getElem?_eq_none h] at hx
      have hs : spot = none:=by
        simp only [World.cell?] at hx
        split at hx
        · cases spot with
          | none => rfl
          | some y => simp at hx
        · cases hx
      subst hs
      refine .inr ⟨b,off,rfl,hb,fun i hi => ?_⟩
      have hc:=h4 i (by omega)
      have ha : (Addr.add ⟨b,off,none⟩ i) = ⟨b,off + i,none⟩:=by simp [Addr.add];try (intro h;omega)
      rw [ha] at hc
      have hw:=h5 (zs.getD i 0) (by rw [List.getD_eq_getElem?_getD,List.getElem?_eq_getElem (show i < zs.length by omega),Option.getD_some];exact List.getElem_mem _)
      simp only [Lit.wf,Bool.and_eq_true,decide_eq_true_eq] at hw
      have hmin : IntKind.u8.min = 0:=rfl
      have hmax : IntKind.u8.max = 255:=rfl
      rw [hmin,hmax] at hw
      exact ⟨_,hw.1,by omega,hc⟩
theorem Rd.fresh {w : World} {a : Option Addr} {len cap len' : Nat} (h : Bytes w w.heap.size a len cap) (hl : len' ≤ len) (hl2 : len' ≤ 2000) : Rd (w.alloc (.cells #[.slice a len' cap, .int .i64 0] 43)) w.heap.size 0:=by
  obtain ⟨h1,h2,h3⟩:=h
  have hb : Bytes w w.heap.size a len' cap:=by
    refine ⟨by omega,h2, ?_⟩
    rcases h3 with h3 | ⟨b,off,ha,hb,hc⟩
    · exact .inl (by omega)
    · exact .inr ⟨b,off,ha,hb,fun i hi => hc i (by omega)⟩
  refine ⟨a,len',cap,0,hb.keep fun b o v hbr hc => ?_, ?_, ?_, ?_,Int.le_refl _,by simp,hl2,by simp⟩
  · rw [World.cell?_alloc_lt w _ _ hbr];exact hc
  · simp
  · simp
  · simp
theorem openRd (w : World) (a : Option Addr) (len cap : Nat) (h : Bytes w w.heap.size a len cap) : Calls Try.prog 8 #[.slice a len cap] w fun e w' => ∃ rb,e = .returned (.pointer (some ⟨rb,0,none⟩)) ∧ w.heap.size ≤ rb ∧ Rd w' rb 0 ∧ Below w.heap.size w w':=by
  rcases Nat.lt_or_ge 2000 len with hl | hl
  · have h':=h
    obtain ⟨h1,h2,h3 | ⟨b,off,rfl,hb,hc⟩⟩:=h
    · omega
    · refine (open_big w b off len cap hl h1 h2).mono ?_
      rintro e w' ⟨rfl,rfl⟩
      exact ⟨_,rfl,Nat.le_refl _,Rd.fresh h' (by omega) (Nat.le_refl _),Below.alloc (Below.refl _ _) (Nat.le_refl _) _⟩
  · refine (open_small w a len cap hl).mono ?_
    rintro e w' ⟨rfl,rfl⟩
    exact ⟨_,rfl,Nat.le_refl _,Rd.fresh h (Nat.le_refl _) hl,Below.alloc (Below.refl _ _) (Nat.le_refl _) _⟩
end Go.Proofs.Ytidjpalnmnehmaa


namespace Go.Proofs.Ytidjpalnmnehmaa
def letters : List UInt8:=[97,98,99,100,101,102,103,104,105,106,107,108,109,110,111,112,113,114,115,116,117,118,119,120,121,122]
end Go.Proofs.Ytidjpalnmnehmaa

namespace Go.Proofs.Ytidjpalnmnehmaa
open Go.ChangeShapes Go.WideShapes Go.ChangeAt Go.RowKit Go.Lib
set_option linter.unusedVariables false
theorem l6In_yes (n a b : Int) (w : World) (h1 : a ≤ n) (h2 : n ≤ b) : Calls Try.prog 13 #[.int .i64 n, .int .i64 a, .int .i64 b] w fun e w' => e = .returned (.bool true) ∧ w = w':=by
  go_enter Try.func13,Try.ntmps13
  go_wp2
  go_ret
  exact ⟨rfl,rfl⟩
theorem ret_b {x y : Bool} (h2 : x = y) : Ending.returned (.bool x) = .returned (.bool y):=by rw [h2]
theorem l6In_no (n a b : Int) (w : World) (h : n < a ∨ b < n) : Calls Try.prog 13 #[.int .i64 n, .int .i64 a, .int .i64 b] w fun e w' => e = .returned (.bool false) ∧ w = w':=by
  by_cases h1 : a ≤ n
  · have h2 : b < n:=by omega
    clear h
    go_enter Try.func13,Try.ntmps13
    go_wp2
    go_ret
    exact ⟨ret_b (decide_eq_false (by omega)),rfl⟩
  · have h2 : n < a:=by omega
    clear h
    go_enter Try.func13,Try.ntmps13
    go_wp2
    go_ret
    exact ⟨ret_b rfl,rfl⟩
theorem byte_at (s : ByteArray) (i : Nat) (h : i < s.size) : ∃ c : UInt8,s.data.toList[i]? = some c ∧ ∀ h,(s[i]'h).toNat = c.toNat:=by
  refine ⟨s[i]'h, ?_,fun _ => rfl⟩
  rw [Array.getElem?_toList,Array.getElem?_eq_getElem (by exact h)];rfl
theorem size_list (s : ByteArray) : s.data.toList.length = s.size:=by rw [Array.length_toList];rfl
theorem name_no {s : ByteArray} {i : Nat} {c : UInt8} (h : s.data.toList[i]? = some c) (hc : Wf.isLow c = false) : Wf.isName s.data.toList = false:=by
  unfold Wf.isName
  have hm : c ∈ s.data.toList:=List.mem_of_getElem? h
  have : s.data.toList.all Wf.isLow = false:=by
    rw [List.all_eq_false];exact ⟨c,hm,by rw [hc];decide⟩
  rw [this,Bool.and_false]
theorem all_take {l : List UInt8} {i : Nat} {c : UInt8} (h : (l.take i).all Wf.isLow = true) (hc : l[i]? = some c) (hl : Wf.isLow c = true) : (l.take (i + 1)).all Wf.isLow = true:=by
  rw [List.take_add_one,hc,List.all_append,h];simp [hl]
theorem low_no {c : UInt8} (h : c.toNat < 97 ∨ 122 < c.toNat) : Wf.isLow c = false:=by
  unfold Wf.isLow
  rcases h with h | h
  · rw [decide_eq_false (by omega),Bool.false_and]
  · rw [decide_eq_false (p:=c.toNat ≤ 122) (by omega),Bool.and_false]
theorem low_yes {c : UInt8} (h : 97 ≤ c.toNat) (h2 : c.toNat ≤ 122) : Wf.isLow c = true:=by simp [Wf.isLow];omega
theorem name_end {s : ByteArray} {i : Int} {b : Bool} (hi : i = s.size) (h : (s.data.toList.take i.toNat).all Wf.isLow = true) (hb : decide (1 ≤ s.size ∧ s.size ≤ 3) = b) : b = Wf.isName s.data.toList:=by
  have hl:=size_list s
  rw [List.take_of_length_le (by omega)] at h
  unfold Wf.isName
  rw [h,Bool.and_true,hl,← hb]
  by_cases h1 : 1 ≤ s.size <;> by_cases h2 : s.size ≤ 3 <;> simp [h1,h2]
set_option maxRecDepth 20000 in
theorem l2Name (s : ByteArray) (w : World) (hs : s.size ≤ 9223372036854775807) : Calls Try.prog 51 #[.string s] w fun e w' => e = .returned (.bool (Wf.isName s.data.toList)) ∧ w = w':=by
  go_enter Try.func51,Try.ntmps51
  go_wp2
  go_loopw [3] (fun v wr => ∃ i : Int,0 ≤ i ∧ i ≤ s.size ∧ v = .int .i64 i ∧ Hid ((s.data.toList.take i.toNat).all Wf.isLow = true) ∧ w = wr)
    (fun v _ => s.size - (RowKit.intOf v).toNat)
  case atStart => exact ⟨0,Int.le_refl _,by omega,rfl,hid (show _ = true by simp),rfl⟩
  case round =>
    obtain ⟨i,hi0,hi1,rfl,hall,rfl⟩:=hrel
    by_cases hlt : i < s.size
    · obtain ⟨c,hc,e0⟩:=byte_at s i.toNat (by omega)
      have HC:=hid hc
      clear hc
      obtain ⟨a,ha⟩ : ∃ a,c.toNat = a:=⟨_,rfl⟩
      have HA:=hid ha
      rw [ha] at e0
      clear ha
      by_cases h1 : a < 97
      · go_wp2
        go_ret
        exact ⟨ret_b (name_no HC.out (low_no (by rw [HA.out];omega))).symm,rfl⟩
      · by_cases h2 : 122 < a
        · go_wp2
          go_ret
          exact ⟨ret_b (name_no HC.out (low_no (by rw [HA.out];omega))).symm,rfl⟩
        · go_wp2
          go_roundw
          case rel => exact ⟨_,by omega,by omega,rfl,hid (show _ = true by rw [show (i + 1).toNat = i.toNat + 1 by omega];exact all_take hall.out HC.out (low_yes (by rw [HA.out];omega) (by rw [HA.out];omega))),trivial⟩
          case measure => simp [RowKit.intOf];omega
    · have hi : i = s.size:=by omega
      by_cases h3 : 1 ≤ s.size
      · by_cases h4 : s.size ≤ 3
        · go_wp2_with (go_at_call 13;refine (l6In_yes _ _ _ _ (by omega) (by omega)).mono ?_;rintro e w1 ⟨rfl,rfl⟩)
          go_ret
          exact ⟨ret_b (name_end hi hall.out (decide_eq_true ⟨h3,h4⟩)),rfl⟩
        · go_wp2_with (go_at_call 13;refine (l6In_no _ _ _ _ (by omega)).mono ?_;rintro e w1 ⟨rfl,rfl⟩)
          go_ret
          exact ⟨ret_b (name_end hi hall.out (decide_eq_false (by omega))),rfl⟩
      · go_wp2_with (go_at_call 13;refine (l6In_no _ _ _ _ (by omega)).mono ?_;rintro e w1 ⟨rfl,rfl⟩)
        go_ret
        exact ⟨ret_b (name_end hi hall.out (decide_eq_false (by omega))),rfl⟩
theorem not_empty {s : ByteArray} (h : 1 ≤ s.size) : s.toList.isEmpty = false:=by
  rw [ByteArray.toList_eq]
  have:=size_list s
  cases h' : s.data.toList with
  | nil => rw [h'] at this;simp at this;omega
  | cons a l => rfl
set_option maxRecDepth 20000 in
theorem ok_sgn (s : ByteArray) (w : World) (hs : s.size ≤ 12) (h1 : 1 ≤ s.size) (a : Nat) (e0 : ∀ h,(s[0]'h).toNat = a) (ha : a = 91) (b : Bool) (hr : Calls Try.prog 37 #[.string (s.extract 1 s.size)] w fun e w' => e = .returned (.bool b) ∧ w = w') : Calls Try.prog 37 #[.string s] w fun e w' => e = .returned (.bool b) ∧ w = w':=by
  subst ha
  have HR:=hid hr
  clear hr
  have t0 : s.toList.isEmpty = false:=not_empty h1
  go_enter Try.func37,Try.ntmps37
  go_wp2_with (go_at_call 37;refine HR.out.mono ?_;rintro e w1 ⟨rfl,rfl⟩)
  go_ret
  exact ⟨rfl,rfl⟩
set_option maxRecDepth 20000 in
theorem ok_at (s : ByteArray) (w : World) (hs : s.size ≤ 12) (h1 : 1 ≤ s.size) (h2 : 2 ≤ s.size) (a z : Nat) (e0 : ∀ h,(s[0]'h).toNat = a) (ha : a = 64) (el : ∀ h,(s[s.size - 1]'h).toNat = z) (hz : z = 59) : Calls Try.prog 37 #[.string s] w fun e w' => e = .returned (.bool (Wf.isName (s.extract 1 (s.size - 1)).data.toList)) ∧ w = w':=by
  subst ha hz
  obtain ⟨b,hb⟩ : ∃ b,Wf.isName (s.extract 1 (s.size - 1)).data.toList = b:=⟨_,rfl⟩
  have HL:=hid (l2Name (s.extract 1 (s.size - 1)) w (by rw [ByteArray.size_extract];omega))
  rw [hb] at HL ⊢
  clear hb
  have t0 : s.toList.isEmpty = false:=not_empty h1
  go_enter Try.func37,Try.ntmps37
  go_wp2_with (go_at_call 51;refine HL.out.mono ?_;rintro e w1 ⟨rfl,rfl⟩)
  go_ret
  exact ⟨rfl,rfl⟩
theorem eq_list (s : ByteArray) (l : List UInt8) : (s = ⟨l.toArray⟩) ↔ s.data.toList = l:=by
  constructor
  · rintro rfl;rfl
  · intro h;rw [← h]
set_option maxRecDepth 20000 in
theorem ok_at_no (s : ByteArray) (w : World) (hs : s.size ≤ 12) (h1 : 1 ≤ s.size) (a z : Nat) (e0 : ∀ h,(s[0]'h).toNat = a) (ha : a = 64) (el : ∀ h,(s[s.size - 1]'h).toNat = z) (hz : z ≠ 59) : Calls Try.prog 37 #[.string s] w fun e w' => e = .returned (.bool false) ∧ w = w':=by
  subst ha
  have t0 : s.toList.isEmpty = false:=not_empty h1
  have t1 : ((z : Int) == 59) = false:=by rw [beq_eq_false_iff_ne];omega
  go_enter Try.func37,Try.ntmps37
  go_wp2
  go_ret
  exact ⟨rfl,rfl⟩
set_option maxRecDepth 20000 in
theorem ok_else (s : ByteArray) (w : World) (hs : s.size ≤ 12) (h1 : 1 ≤ s.size) (a : Nat) (e0 : ∀ h,(s[0]'h).toNat = a) (ha : a ≠ 64) (ha2 : a ≠ 91) (ha3 : a ≠ 63) : Calls Try.prog 37 #[.string s] w fun e w' => e = .returned (.bool (s.toList == [110] || s.toList == [116] || s.toList == [102])) ∧ w = w':=by
  have t0 : s.toList.isEmpty = false:=not_empty h1
  have t1 : ((a : Int) == 64) = false:=by rw [beq_eq_false_iff_ne];omega
  have t2 : ((a : Int) == 91) = false:=by rw [beq_eq_false_iff_ne];omega
  have t3 : ((a : Int) == 63) = false:=by rw [beq_eq_false_iff_ne];omega
  cases g1 : (s.toList == [110]) <;> cases g2 : (s.toList == [116]) <;> cases g3 : (s.toList == [102])
  all_goals (go_enter Try.func37,Try.ntmps37;go_wp2)
  all_goals go_ret
  all_goals exact ⟨rfl,rfl⟩
set_option maxRecDepth 20000 in
theorem ok_63 (s : ByteArray) (w : World) (hs : s.size ≤ 12) (h1 : 1 ≤ s.size) (a : Nat) (e0 : ∀ h,(s[0]'h).toNat = a) (ha : a = 63) (b : Bool) (hr : Calls Try.prog 37 #[.string (s.extract 1 s.size)] w fun e w' => e = .returned (.bool b) ∧ w = w') : Calls Try.prog 37 #[.string s] w fun e w' => e = .returned (.bool b) ∧ w = w':=by
  subst ha
  have HR:=hid hr
  clear hr
  have t0 : s.toList.isEmpty = false:=not_empty h1
  go_enter Try.func37,Try.ntmps37
  go_wp2_with (go_at_call 37;refine HR.out.mono ?_;rintro e w1 ⟨rfl,rfl⟩)
  go_ret
  exact ⟨rfl,rfl⟩
set_option maxRecDepth 20000 in
theorem ok_long (s : ByteArray) (w : World) (hs : 12 < s.size) : Calls Try.prog 37 #[.string s] w fun e w' => e = .returned (.bool false) ∧ w = w':=by
  go_enter Try.func37,Try.ntmps37
  go_wp2
  go_ret
  exact ⟨rfl,rfl⟩
set_option maxRecDepth 20000 in
theorem ok_empty (s : ByteArray) (w : World) (hs : s.size ≤ 12) (t0 : s.toList.isEmpty = true) : Calls Try.prog 37 #[.string s] w fun e w' => e = .returned (.bool false) ∧ w = w':=by
  go_enter Try.func37,Try.ntmps37
  go_wp2
  go_ret
  exact ⟨rfl,rfl⟩
theorem ext_list (s : ByteArray) (i j : Nat) : (s.extract i j).data.toList = (s.data.toList.drop i).take (j - i):=by
  rw [ByteArray.data_extract,Array.toList_extract,List.extract_eq_take_drop]
def okB (l : List UInt8) : Bool:=(Wf.parseK l).isSome
theorem kindOk_spec (n : Nat) : ∀ (s : ByteArray) (w : World),s.size ≤ n → Calls Try.prog 37 #[.string s] w fun e w' => e = .returned (.bool (okB s.data.toList)) ∧ w = w':=by
  induction n with
  | zero =>
    intro s w hn
    have hl:=size_list s
    have h0 : s.data.toList = []:=List.eq_nil_of_length_eq_zero (by omega)
    have:=ok_empty s w (by omega) (by rw [ByteArray.toList_eq,h0];rfl)
    rw [h0];exact this
  | succ n ih =>
    intro s w hn
    have hl:=size_list s
    by_cases hs : s.size ≤ 12
    · cases hd : s.data.toList with
      | nil => exact ok_empty s w hs (by rw [ByteArray.toList_eq,hd];rfl)
      | cons c r =>
        have hlr : r.length + 1 = s.size:=by rw [← hl,hd];rfl
        obtain ⟨c',hc',e0⟩:=byte_at s 0 (by omega)
        have hcc : c' = c:=by rw [hd] at hc';simpa using hc'.symm
        subst hcc
        have hpk : okB (c' :: r) = (Wf.kindIn (c' :: r)).isSome:=by
          unfold okB Wf.parseK;rw [if_pos (by rw [List.length_cons];omega)]
        have hpr : okB r = (Wf.kindIn r).isSome:=by
          unfold okB Wf.parseK;rw [if_pos (by omega)]
        have hx : (s.extract 1 s.size).data.toList = r:=by
          rw [ext_list,hd,List.drop_one,List.tail_cons,List.take_of_length_le (by omega)]
        have hrec:=ih (s.extract 1 s.size) w (by rw [ByteArray.size_extract];omega)
        rw [hx,hpr] at hrec
        rw [hpk]
        by_cases h1 : c' = 91
        · subst h1
          have:=ok_sgn s w hs (by omega) _ e0 rfl _ hrec
          simpa [Wf.kindIn] using this
        · by_cases h2 : c' = 63
          · subst h2
            have:=ok_63 s w hs (by omega) _ e0 rfl _ hrec
            simpa [Wf.kindIn] using this
          · have hne : ∀ x : UInt8,c' ≠ x → c'.toNat ≠ x.toNat:=fun x hx h => hx (UInt8.toNat_inj.1 h)
            by_cases h3 : c' = 64
            · subst h3
              obtain ⟨z,hz,el⟩:=byte_at s (s.size - 1) (by omega)
              rcases List.eq_nil_or_concat r with hr | ⟨q,y,hr⟩
              · subst hr
                have h1s : s.size = 1:=by rw [← hlr];rfl
                have hz' : z = 64:=by rw [hd,h1s] at hz;simpa using hz.symm
                subst hz'
                have:=ok_at_no s w hs (by omega) _ _ e0 rfl el (by decide)
                simpa [Wf.kindIn] using this
              · have hq : r = q ++ [y]:=by rw [hr];simp
                subst hq
                have hlq : q.length + 2 = s.size:=by rw [← hlr];simp
                have hzy : z = y:=by
                  rw [hd] at hz
                  rw [show s.size - 1 = (64 :: q).length by simp;omega,← List.cons_append,List.getElem?_append_right (Nat.le_refl _)] at hz
                  simpa using hz.symm
                subst hzy
                have hx2 : (s.extract 1 (s.size - 1)).data.toList = q:=by
                  rw [ext_list,hd,List.drop_one,List.tail_cons,show s.size - 1 - 1 = q.length by omega,List.take_left']
                  rfl
                by_cases h59 : z = 59
                · subst h59
                  have:=ok_at s w hs (by omega) (by omega) _ _ e0 rfl el rfl
                  rw [hx2] at this
                  cases hn2 : Wf.isName q <;> simpa [Wf.kindIn,hn2] using this
                · have:=ok_at_no s w hs (by omega) _ _ e0 rfl el (fun h => h59 (UInt8.toNat_inj.1 (by rw [h];rfl)))
                  simpa [Wf.kindIn,h59] using this
            · have:=ok_else s w hs (by omega) _ e0 (hne 64 h3) (hne 91 h1) (hne 63 h2)
              rw [ByteArray.toList_eq,hd] at this
              have hb : (Wf.kindIn (c' :: r)).isSome = ((c' :: r) == [110] || (c' :: r) == [116] || (c' :: r) == [102]):=by
                simp only [Wf.kindIn,if_neg h1,if_neg h2,if_neg h3]
                by_cases i1 : c' = 110 ∧ r = []
                · obtain ⟨rfl,rfl⟩:=i1;rfl
                · rw [if_neg i1]
                  by_cases i2 : c' = 116 ∧ r = []
                  · obtain ⟨rfl,rfl⟩:=i2;rfl
                  · rw [if_neg i2]
                    by_cases i3 : c' = 102 ∧ r = []
                    · obtain ⟨rfl,rfl⟩:=i3;rfl
                    · rw [if_neg i3]
                      have e1 : ((c' :: r) == [110]) = false:=by rw [beq_eq_false_iff_ne];simpa using i1
                      have e2 : ((c' :: r) == [116]) = false:=by rw [beq_eq_false_iff_ne];simpa using i2
                      have e3 : ((c' :: r) == [102]) = false:=by rw [beq_eq_false_iff_ne];simpa using i3
                      rw [e1,e2,e3];rfl
              rw [hb];exact this
    · have : okB s.data.toList = false:=by unfold okB Wf.parseK;rw [if_neg (by omega)];rfl
      rw [this];exact ok_long s w (by omega)

end Go.Proofs.Ytidjpalnmnehmaa
