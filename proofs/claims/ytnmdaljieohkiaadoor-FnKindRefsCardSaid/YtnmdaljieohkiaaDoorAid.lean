import Derived.WalkKit
import Derived.Lib.UnsafeStr
import Derived.Lib.Hide
namespace Go
open Go.RowKit
variable {P : Program}

/-- what lies below, as a rule of the walk -/
theorem bcell {B : Nat} {W w1 : World} (hb : Below B W w1) : (∀ b o, b < B → w1.cell? ⟨b, o, none⟩ = W.cell? ⟨b, o, none⟩) ∧ (∀ b o, b < B → w1.frozen? ⟨b, o, none⟩ = W.frozen? ⟨b, o, none⟩) :=
  ⟨fun b o h => hb.cell (p := ⟨b, o, none⟩) h, fun b o h => hb.frozen (p := ⟨b, o, none⟩) h⟩

/-- 'string(b)', b a row of bytes that the call itself made -/
theorem run_convert_owned (w : World) (src dst e : TypeId) {base et : Nat} {v : Value} {l : List UInt8} (hs : P.underlying src = some (.slice e)) (he : P.underlying e = some (.int .u8)) (hd : P.underlying dst = some .string)
    (h : w.ownsRow base et 1 v l.length (Lib.byteCells l)) : (convert src dst v).run P w = .ok (.string ⟨l.toArray⟩) w := by
  obtain ⟨h1, h2⟩ := h
  rcases h2 with ⟨rfl, h0⟩ | ⟨g, cap, cur, rfl, hg, hh, hn, hc, hsz, ht⟩
  · have : l = [] := List.eq_nil_of_length_eq_zero h0
    subst this
    rw [run_convert_bytes_string w src dst e none 0 0 hs he hd]
    simp [Conv.bytesToString, Sem.run_pure]
    rfl
  · refine run_convert_bytes_back w src dst e ⟨g, 0, none⟩ cap l hs he hd fun j hj => ?_
    have ha : (Addr.add ⟨g, 0, none⟩ j) = ⟨g, j, none⟩ := by simp [Addr.add]; intro h; exact h.symm
    rw [ha]
    simp only [World.cell?, hh]
    have hx : (cur.toList.take (l.length * 1))[j]? = (Lib.byteCells l)[j]? := by rw [ht]
    rw [List.getElem?_take, if_pos (by omega)] at hx
    simp only [Lib.byteCells, List.getElem?_map, List.getElem?_eq_getElem hj, Option.map_some] at hx
    simpa using hx

/-- 'string([]byte{x})' -/
theorem run_convert_one (src dst e : TypeId) (hs : P.underlying src = some (.slice e)) (he : P.underlying e = some (.int .u8)) (hd : P.underlying dst = some .string) (W : World) (a : Addr) (c : Nat) (m : Int)
    (h : W.cell? a = some (.int .u8 m)) : (convert src dst (.slice (some a) 1 c)).run P W = .ok (.string ⟨#[UInt8.ofNat m.toNat]⟩) W := by
  rw [run_convert_bytes_string W src dst e (some a) 1 c hs he hd]
  have hl := run_loadCells_list (P := P) W a ([m].map (Value.int .u8)) (fun j v hj => by
    match j, hj with
    | 0, hj => simp at hj; subst hj; simpa [Addr.add] using h)
  simp only [List.length_map, List.length_cons, List.length_nil] at hl
  rw [run_bytesToString W a 1 c [m] hl]
  rfl
theorem run_convert_lit (src dst e : TypeId) (hs : P.underlying src = some (.slice e)) (he : P.underlying e = some (.int .u8)) (hd : P.underlying dst = some .string) (W : World) (m : Int) (et : TypeId) :
    (convert src dst (.slice (some ⟨W.heap.size, 0, none⟩) 1 1)).run P (W.alloc (.cells #[.int .u8 m] et)) = .ok (.string ⟨#[UInt8.ofNat m.toNat]⟩) (W.alloc (.cells #[.int .u8 m] et)) :=
  run_convert_one src dst e hs he hd _ _ 1 m (by simp)
theorem run_convert_lit_drew (src dst e : TypeId) (hs : P.underlying src = some (.slice e)) (he : P.underlying e = some (.int .u8)) (hd : P.underlying dst = some .string) (W : World) (m : Int) (et : TypeId) :
    (convert src dst (.slice (some ⟨W.heap.size, 0, none⟩) 1 1)).run P (W.alloc (.cells #[.int .u8 m] et)).drew = .ok (.string ⟨#[UInt8.ofNat m.toNat]⟩) (W.alloc (.cells #[.int .u8 m] et)).drew :=
  run_convert_one src dst e hs he hd _ _ 1 m (by simp)

/-- '+' on strings, as lists of bytes -/
theorem run_add_bytes (x y z : List UInt8) (h : x.length + y.length ≤ 9223372036854775807) (hz : z = x ++ y) (W : World) :
    (Op.stringOp .add ⟨x.toArray⟩ ⟨y.toArray⟩).run P W = .ok (.string ⟨z.toArray⟩) W := by
  subst hz
  refine (run_string_add_sum (P := P) (w := W) _ _ (by simpa [ByteArray.size] using h)).trans ?_
  rw [ByteArray.mk_append_mk]

theorem below_grown {base : Nat} {w w' : World} {e n : Nat} {size : Nat} {v : Value} {xs : List Value} (hown : w.ownsRow base e size v n xs) (hg : w.grownBy w' v.ownBlock) (hb : base ≤ w.heap.size) : Below base w w' := by
  refine (Below.refl base w).grown hg hb fun k hk => ?_
  obtain ⟨_, h2⟩ := hown
  rcases h2 with ⟨rfl, _⟩ | ⟨g, cap, cur, rfl, hg, _⟩
  · simp [Value.ownBlock] at hk
  · simp [Value.ownBlock] at hk; omega

/-- 'out = append(out, x)', out nil or the call's own: ONE element of whatever cells -/
theorem wpList_append_one (w : World) {ops : Array Oper} {rest : List Oper} {o : Oper} {a : Act} {Q : Exit → Act → World → Prop} (hgd : o.guard = none) (s x : Operand) (t : TypeId)
    (ho : o.op = .call { callee := .builtin .append, args := #[s, x], argTypes := #[t, t] })
    (base : Nat) (e : TypeId) (i : TypeInfo) (z : Value) (size bytes : Nat) (ht : P.underlying t = some (.slice e)) (hi : P.info? e = some i) (hz : i.zero = some z)
    (hsize : i.size = size) (hby : i.bytes = bytes) (hzs : z.cells.size = size) (hsz : 0 < size)
    (v : Value) (n : Nat) (xs : List Value) (hs : a.eval s = v) (hown : w.ownsRow base e size v n xs)
    (ad : Addr) (news : List Value) (hx : a.eval x = .slice (some ad) 1 1) (hl : news.length = size) (hnews : ∀ j u, news[j]? = some u → w.cell? (ad.add j) = some u) (h1 : ∀ u ∈ news, u.oneCell' = true)
    (hbytes : (n + 1) * bytes ≤ 140737488355328) (h63 : n + 1 ≤ 140737488355328) (hbase : base ≤ w.heap.size)
    (h : ∀ v' w', w'.ownsRow base e size v' (n + 1) (xs ++ news) → Below base w w' → wpList P ops Q rest (a.put o.dst v') w') : wpList P ops Q (o :: rest) a w :=
  wpList_append_own w hgd s x t ho base e i z size bytes ht hi hz hsize hby hzs hsz v n xs hs hown ad 1 1 news hx (by omega) hnews h1 (by unfold maxLen; omega) hbytes hbase
    fun v' w' g1 g2 _ => h v' w' g1 (below_grown hown g2 hbase)

/-- 'out = append(out, c)' for bytes: out holds l; behind it l ++ [c] -/
theorem wpList_append_byte (w : World) {ops : Array Oper} {rest : List Oper} {o : Oper} {a : Act} {Q : Exit → Act → World → Prop} (hgd : o.guard = none) (s x : Operand) (t : TypeId)
    (ho : o.op = .call { callee := .builtin .append, args := #[s, x], argTypes := #[t, t] })
    (base : Nat) (e : TypeId) (ht : P.underlying t = some (.slice e)) (hi : (P.info? e).map (fun i => (i.zero, i.size, i.bytes)) = some (some (.int .u8 0), 1, 1))
    (v : Value) (l : List UInt8) (hs : a.eval s = v) (hown : w.ownsRow base e 1 v l.length (Lib.byteCells l))
    (ad : Addr) (m : Int) (hx : a.eval x = .slice (some ad) 1 1) (hc : w.cell? ad = some (.int .u8 m)) (c : UInt8) (hm : m = c.toNat)
    (hn : l.length + 1 ≤ 140737488355328) (hbase : base ≤ w.heap.size)
    (h : ∀ v' w', w'.ownsRow base e 1 v' (l ++ [c]).length (Lib.byteCells (l ++ [c])) → Below base w w' → wpList P ops Q rest (a.put o.dst v') w') : wpList P ops Q (o :: rest) a w := by
  obtain ⟨i0, hi0, hz0, hz1, hz2⟩ := info_parts hi
  refine wpList_append_one w hgd s x t ho base e i0 (.int .u8 0) 1 1 ht hi0 hz0 hz1 hz2 rfl (by decide) v l.length _ hs hown ad [.int .u8 m] hx rfl ?_ ?_ (by omega) hn hbase ?_
  · intro j u hj
    match j, hj with
    | 0, hj => simp at hj; subst hj; simpa [Addr.add] using hc
  · intro u hu; simp at hu; subst hu; rfl
  · intro v' w' g1 g2
    refine h v' w' ?_ g2
    have e1 : (l ++ [c]).length = l.length + 1 := by simp
    have e2 : Lib.byteCells (l ++ [c]) = Lib.byteCells l ++ [.int .u8 m] := by simp [Lib.byteCells, hm]
    rw [e1, e2]
    exact g1
end Go
