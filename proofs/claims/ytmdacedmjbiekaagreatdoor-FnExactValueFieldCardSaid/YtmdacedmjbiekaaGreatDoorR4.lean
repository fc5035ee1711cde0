/- How schemas lie in memory: rows of structs, the program's and the reference's. Plain laws on texts, kinds, schemas and values; no program in sight. Plain laws on texts, kinds, schemas and values; no program in sight. Plain laws on texts, kinds, schemas and values; no program in sight. Plain laws on texts, kinds, schemas and values; no program in sight. Plain laws on texts, kinds, schemas and values; no program in sight. Plain laws on texts, kinds, schemas and values; no program in sight. Plain laws on texts, kinds, schemas and values; no program in sight. Plain laws on texts, kinds, schemas and values; no program in sight. Plain laws on texts, kinds, schemas and values; no program in sight. Plain laws on texts, kinds, schemas and values; no program in sight. Plain laws on texts, kinds, schemas and values; no program in sight. Plain laws on texts, kinds, schemas and values; no program in sight. -/
import Derived.Test.YtmdacedmjbiekaaGreatDoorR3
import Derived.Test.YtmdacedmjbiekaaGreatDoorR0
namespace Go.Proofs.YtmdacedmjbiekaaGreatDoor
open Go.ChangeShapes Go.WideShapes Go.ChangeAt Go.RowKit Go.Lib
set_option linter.unusedVariables false
/-- v is a slice in world w, each of its elements k cells wide: es; its block is b -/
def RowK (w : World) (b : Nat) (v : Value) (k : Nat) (es : List (List Value)) : Prop :=
  ∃ a cap, v = .slice a es.length cap ∧ es.length ≤ cap ∧ cap ≤ maxLen ∧ (es = [] ∨ ∃ o, a = some ⟨b, o, none⟩ ∧ b < w.heap.size ∧ ∀ i (h : i < es.length) j u, j < k → es[i][j]? = some u → w.cell? ⟨b, o + i * k + j, none⟩ = some u)
theorem RowK.keep {w w' : World} {b k : Nat} {v : Value} {es : List (List Value)} (h : RowK w b v k es) (hs : w.heap.size ≤ w'.heap.size) (hk : b < w.heap.size → w'.heap[b]? = w.heap[b]?) : RowK w' b v k es := by
  obtain ⟨a, cap, h1, h2, h3, h4⟩ := h
  refine ⟨a, cap, h1, h2, h3, ?_⟩
  rcases h4 with h4 | ⟨o, h5, h6, h7⟩
  · exact .inl h4
  · exact .inr ⟨o, h5, Nat.lt_of_lt_of_le h6 hs, fun i hi j u hj hu => (World.cell?_of_block (w := w) (a := ⟨b, o + i * k + j, none⟩) (hk h6)).trans (h7 i hi j u hj hu)⟩
theorem RowK.below {w w' : World} {b k : Nat} {v : Value} {es : List (List Value)} (h : RowK w b v k es) (hb : Below w.heap.size w w') : RowK w' b v k es := h.keep hb.size fun hx => hb.block b hx
theorem RowK.drewN {w : World} {b k : Nat} {v : Value} {es : List (List Value)} (h : RowK w b v k es) (n : Nat) : RowK (w.drewN n) b v k es := h.keep (Nat.le_refl _) fun _ => rfl
theorem flat_get (k : Nat) : ∀ (es : List (List Value)), (∀ e ∈ es, e.length = k) → ∀ i (hi : i < es.length) j, j < k → es.flatten[i * k + j]? = es[i][j]? := by
  intro es
  induction es with
  | nil => intro _ i hi; simp at hi
  | cons e es ih =>
    intro hk i hi j hj
    have he : e.length = k := hk e (List.mem_cons_self ..)
    rw [List.flatten_cons]
    cases i with
    | zero =>
      rw [Nat.zero_mul, Nat.zero_add, List.getElem?_append_left (by omega)]
      rfl
    | succ i =>
      have e1 : (i + 1) * k + j = e.length + (i * k + j) := by rw [Nat.succ_mul, he]; omega
      rw [e1, List.getElem?_append_right (by omega), Nat.add_sub_cancel_left]
      rw [ih (fun e' h' => hk e' (List.mem_cons_of_mem _ h')) i (by simpa using hi) j hj]
      rfl
/-- a slice of structs that the call has built by append -/
theorem RowK.of_owns {w : World} {base k : Nat} {e : TypeId} {v : Value} {es : List (List Value)} (h : w.ownsRow base e k v es.length es.flatten) (hk : ∀ e ∈ es, e.length = k) : ∃ b, base ≤ b ∧ RowK w b v k es := by
  obtain ⟨h1, h2 | ⟨g, cap, cur, h3, h4, h5, h6, h7, h8, h9⟩⟩ := h
  · refine ⟨base, Nat.le_refl _, none, 0, ?_, by omega, by unfold maxLen; omega, .inl (List.eq_nil_of_length_eq_zero h2.2)⟩
    rw [h2.1, h2.2]
  · refine ⟨g, h4, _, cap, h3, h6, h7, .inr ⟨0, rfl, (Array.getElem?_eq_some_iff.1 h5).1, fun i hi j u hj hu => ?_⟩⟩
    have hlt : i * k + j < es.length * k := by
      have : (i + 1) * k ≤ es.length * k := Nat.mul_le_mul_right k hi
      rw [Nat.succ_mul] at this; omega
    have hx : (cur.toList.take (es.length * k))[i * k + j]? = es.flatten[i * k + j]? := by rw [h9]
    rw [List.getElem?_take, if_pos hlt, flat_get k es hk i hi j hj, hu] at hx
    have hx2 : cur[i * k + j]? = some u := by simpa using hx
    simp [World.cell?, h5, hx2]
/-- the cells of a field of the program's -/
def fdC (sort : UInt8) (f : Wf.Fd) : List Value :=
  if sort = 69 then [.int .i64 f.tag, tx f.name, tx [], tx [], tx [], tx []] else [.int .i64 f.tag, tx f.name, tx f.kind.signs, tx f.kind.base, tx f.kind.name, tx f.given]
theorem fdC_len (sort : UInt8) (f : Wf.Fd) : (fdC sort f).length = 6 := by unfold fdC; split <;> rfl
/-- block b holds a type of the program's -/
def TyAt (w : World) (b : Nat) (t : Wf.Ty) : Prop := ∃ fb v line, b < w.heap.size ∧ w.cell? ⟨b, 0, none⟩ = some (.int .u8 t.sort.toNat) ∧ w.cell? ⟨b, 1, none⟩ = some (tx t.name) ∧ w.cell? ⟨b, 2, none⟩ = some v ∧ w.cell? ⟨b, 3, none⟩ = some (.string line) ∧ RowK w fb v 6 (t.fields.map (fdC t.sort))
theorem TyAt.below {w w' : World} {b : Nat} {t : Wf.Ty} (h : TyAt w b t) (hb : Below w.heap.size w w') : TyAt w' b t := by
  obtain ⟨fb, v, line, h0, h1, h2, h3, h4, h5⟩ := h
  refine ⟨fb, v, line, Nat.lt_of_lt_of_le h0 hb.size, ?_, ?_, ?_, ?_, h5.below hb⟩
  · exact (hb.cell (p := ⟨b, 0, none⟩) h0).trans h1
  · exact (hb.cell (p := ⟨b, 1, none⟩) h0).trans h2
  · exact (hb.cell (p := ⟨b, 2, none⟩) h0).trans h3
  · exact (hb.cell (p := ⟨b, 3, none⟩) h0).trans h4
/-- a pointer to a block -/
abbrev ptr (b : Nat) : Value := .pointer (some ⟨b, 0, none⟩)
/-- how a map's pointers read -/
def ptrR : Value → Option (DataW Unit × List MemPlace)
  | .pointer (some ⟨b, 0, none⟩) => some (.lit (.int .i64 b), [])
  | .pointer none => some (.nil, [])
  | _ => none
theorem ptrR_inv {v : Value} {d : DataW Unit} {ps : List MemPlace} (h : ptrR v = some (d, ps)) : (∃ b : Nat, v = ptr b ∧ d = .lit (.int .i64 b)) ∨ (v = .pointer none ∧ d = .nil) := by
  unfold ptrR at h
  split at h
  · rename_i b; cases h; exact .inl ⟨b, rfl, rfl⟩
  · cases h; exact .inr ⟨rfl, rfl⟩
  · cases h
/-- block mb is a map from names to blocks of types -/
def MapIs (w : World) (mb : Nat) (n : Nat) (f : List UInt8 → Option Nat) : Prop := ∃ D, w.ownsMap Tryz.prog 9 ptrR mb n D ∧
  ∀ nm, D.atKey (.string nm) .nil = match f nm with | some b => .lit (.int .i64 b) | none => .nil
end Go.Proofs.YtmdacedmjbiekaaGreatDoor

namespace Wf
set_option linter.unusedVariables false
set_option linter.unusedSimpArgs false

/-- the bytes of a number -/
def putN (n : Nat) : Bs := if n < 128 then [UInt8.ofNat n] else UInt8.ofNat (128 + n % 128) :: putN (n / 128)
termination_by n
decreasing_by omega

end Wf

namespace Wf
set_option linter.unusedVariables false
set_option linter.unusedSimpArgs false

theorem numTok_some {most n : Nat} {s r : Bs} (h : numTok most s = some (n, r)) :
    s = dec n ++ r ∧ n ≤ most ∧ n ≤ 999999 ∧ (∀ c, r.head? = some c → isDig c = false) := by
  unfold numTok at h
  cases hp : plainN (s.takeWhile isDig) most with
  | none => rw [hp] at h; simp at h
  | some m =>
    rw [hp] at h
    simp only [Option.map_some, Option.some.injEq, Prod.mk.injEq] at h
    obtain ⟨rfl, rfl⟩ := h
    obtain ⟨h1, h2, h3⟩ := plainN_some hp
    refine ⟨by rw [← h1, List.takeWhile_append_dropWhile], h2, h3, fun c hc => ?_⟩
    have := List.head?_dropWhile_not isDig s
    rw [hc] at this
    simpa using this
theorem commas_cons (a : Bs) {l : List Bs} (h : l ≠ []) : commas (a :: l) = a ++ 44 :: commas l := by
  cases l with
  | nil => exact absurd rfl h
  | cons b l => rfl

/-- what a list of readings says of its items -/
theorem itemsW_say {p : Reads} {Q : V → Prop} (hp : ∀ s v r, p s = some (v, r) → Q v ∧ s = v.print ++ r) :
    ∀ (m : Nat) (s : Bs) (l : List V) (r : Bs), itemsW p m s = some (l, r) → l ≠ [] ∧ (∀ u, u ∈ l → Q u) ∧ s = commas (l.map V.print) ++ 93 :: r := by
  intro m
  induction m with
  | zero => intro s l r h; simp [itemsW] at h
  | succ m ih =>
    intro s l r h
    simp only [itemsW] at h
    cases hq : p s with
    | none => rw [hq] at h; simp at h
    | some y =>
      obtain ⟨v, rest⟩ := y
      rw [hq] at h
      obtain ⟨h1, h2⟩ := hp _ _ _ hq
      simp only at h
      split at h
      · rename_i r'
        cases hi : itemsW p m r' with
        | none => rw [hi] at h; simp at h
        | some y =>
          obtain ⟨l', q⟩ := y
          rw [hi] at h
          simp only [Option.map_some, Option.some.injEq, Prod.mk.injEq] at h
          obtain ⟨rfl, rfl⟩ := h
          obtain ⟨h3, h4, h5⟩ := ih _ _ _ hi
          refine ⟨by simp, by simpa using ⟨h1, h4⟩, ?_⟩
          rw [List.map_cons, commas_cons _ (by simpa using h3), h2, h5]; simp
      · simp only [Option.some.injEq, Prod.mk.injEq] at h
        obtain ⟨rfl, rfl⟩ := h
        exact ⟨by simp, by simpa using h1, by rw [h2]; simp [commas]⟩
      · simp at h

theorem field_tag {t : Ty} {g : Nat} {f : Fd} (h : t.field g = some f) : f.tag = g := by
  have := List.find?_some h
  simpa using this

theorem fieldTok_say {t : Ty} {p : K → Reads} {Q : Fd → V → Prop} (hp : ∀ f s v r, p f.kind s = some (v, r) → Q f v ∧ s = v.print ++ r)
    {s : Bs} {f : Fd} {v : V} {r : Bs} (h : fieldTok t p s = some (f, v, r)) :
    t.field f.tag = some f ∧ f.tag ≤ 200 ∧ Q f v ∧ s = dec f.tag ++ 61 :: (v.print ++ r) := by
  unfold fieldTok at h
  cases hn : numTok 200 s with
  | none => rw [hn] at h; simp at h
  | some y =>
    obtain ⟨tag, rest⟩ := y
    rw [hn] at h
    obtain ⟨h1, h2, _, _⟩ := numTok_some hn
    simp only at h
    cases hf : t.field tag with
    | none => rw [hf] at h; simp at h
    | some f' =>
      rw [hf] at h
      cases rest with
      | nil => simp at h
      | cons c q =>
        by_cases hc : c = 61
        · subst hc
          simp only at h
          cases hq : p f'.kind q with
          | none => rw [hq] at h; simp at h
          | some y =>
            obtain ⟨v', r'⟩ := y
            rw [hq] at h
            simp only [Option.map_some, Option.some.injEq, Prod.mk.injEq] at h
            obtain ⟨rfl, rfl, rfl⟩ := h
            obtain ⟨h3, h4⟩ := hp _ _ _ _ hq
            have ht := field_tag hf
            subst ht
            exact ⟨hf, h2, h3, by rw [h1, h4]⟩
        · split at h
          · rename_i heq _
            simp only [List.cons.injEq] at heq
            exact absurd heq.1 hc
          · simp at h

def tagged (e : Fd × V) : V := .mk 61 [] e.1.tag [e.2]
theorem tagged_print (e : Fd × V) : (tagged e).print = dec e.1.tag ++ 61 :: e.2.print := by
  simp [tagged, V.print, V.prints, form, commas]

theorem fieldsW_say {x : Sc} {t : Ty} {p : K → Reads} {Q : Fd → V → Prop} (hp : ∀ f s v r, p f.kind s = some (v, r) → Q f v ∧ s = v.print ++ r) :
    ∀ (m last : Nat) (s : Bs) (l : List V) (r : Bs), fieldsW x t p m last s = some (l, r) →
      ∃ es : List (Fd × V), es ≠ [] ∧ l = es.map tagged ∧ (last :: es.map (fun e => e.1.tag)).Pairwise (· < ·) ∧
        (∀ e, e ∈ es → t.field e.1.tag = some e.1 ∧ e.1.tag ≤ 200 ∧ Q e.1 e.2 ∧ e.2.print ≠ standF x e.1) ∧
        s = commas (l.map V.print) ++ 125 :: r := by
  intro m
  induction m with
  | zero => intro last s l r h; simp [fieldsW] at h
  | succ m ih =>
    intro last s l r h
    simp only [fieldsW] at h
    cases hq : fieldTok t p s with
    | none => rw [hq] at h; simp at h
    | some y =>
      obtain ⟨f, v, rest⟩ := y
      rw [hq] at h
      obtain ⟨h1, h2, h3, h4⟩ := fieldTok_say hp hq
      simp only at h
      by_cases hc : f.tag ≤ last ∨ v.print = standF x f
      · rw [if_pos hc] at h; simp at h
      · rw [if_neg hc] at h
        simp only [not_or, Nat.not_le] at hc
        obtain ⟨hc1, hc2⟩ := hc
        split at h
        · rename_i r'
          cases hi : fieldsW x t p m f.tag r' with
          | none => rw [hi] at h; simp at h
          | some y =>
            obtain ⟨l', q⟩ := y
            rw [hi] at h
            simp only [Option.map_some, Option.some.injEq, Prod.mk.injEq] at h
            obtain ⟨rfl, rfl⟩ := h
            obtain ⟨es, e1, rfl, e3, e4, e5⟩ := ih _ _ _ _ hi
            refine ⟨(f, v) :: es, by simp, rfl, ?_, ?_, ?_⟩
            · simp only [List.map_cons]
              refine List.pairwise_cons.2 ⟨?_, e3⟩
              intro a ha
              rcases List.mem_cons.1 ha with rfl | ha
              · exact hc1
              · exact Nat.lt_trans hc1 ((List.pairwise_cons.1 e3).1 a ha)
            · intro e he
              rcases List.mem_cons.1 he with rfl | he
              · exact ⟨h1, h2, h3, hc2⟩
              · exact e4 e he
            · rw [List.map_cons, commas_cons _ (by simpa using e1), h4, e5]
              have := tagged_print (f, v)
              simp only [tagged] at this
              rw [this]; simp
        · simp only [Option.some.injEq, Prod.mk.injEq] at h
          obtain ⟨rfl, rfl⟩ := h
          refine ⟨[(f, v)], by simp, rfl, ?_, ?_, ?_⟩
          · simpa using hc1
          · intro e he; simp at he; subst he; exact ⟨h1, h2, h3, hc2⟩
          · have := tagged_print (f, v)
            simp only [tagged] at this
            rw [h4]; simp [commas, this]
        · simp at h

end Wf

namespace Wf
set_option linter.unusedVariables false
set_option linter.unusedSimpArgs false
theorem dec_cons (n : Nat) : ∃ c t, dec n = c :: t ∧ isDig c = true := by
  have h := dec_all n
  cases hd : dec n with
  | nil => exact absurd hd (dec_ne n)
  | cons c t => rw [hd] at h; simp at h; exact ⟨c, t, rfl, h.1⟩

theorem isDig_ne {c : UInt8} (h : isDig c = true) : c ≠ 93 ∧ c ≠ 125 ∧ c ≠ 44 ∧ c ≠ 62 := by
  simp only [isDig, Bool.and_eq_true, decide_eq_true_eq] at h
  refine ⟨?_, ?_, ?_, ?_⟩ <;> (intro e; subst e; revert h; decide)

theorem print_tag (tag : Nat) (v : V) : (V.mk 61 [] tag [v]).print = dec tag ++ 61 :: v.print := tagged_print (⟨tag, [], .num, []⟩, v)
theorem print_list (l : List V) : (V.mk 91 [] 0 l).print = 91 :: (commas (l.map V.print) ++ [93]) := by simp [V.print, form, V.prints_map]
theorem print_rec (l : List V) : (V.mk 82 [] 0 l).print = 123 :: (commas (l.map V.print) ++ [125]) := by simp [V.print, form, V.prints_map]
theorem print_none : (V.mk 63 [] 0 []).print = [45] := by simp [V.print, form, V.prints_map]
theorem print_some (v : V) : (V.mk 63 [] 0 [v]).print = 43 :: v.print := by simp [V.print, form, V.prints_map, commas]
theorem print_uni (tag : Nat) (v : V) : (V.mk 85 [] tag [v]).print = 60 :: (dec tag ++ 61 :: (v.print ++ [62])) := by simp [V.print, form, V.prints_map, commas]
theorem print_enm (tag : Nat) : (V.mk 69 [] tag []).print = 35 :: dec tag := by simp [V.print, form]
theorem print_txt (b : Bs) : (V.mk 116 b 0 []).print = 39 :: (b ++ [39]) := by simp [V.print, form]
theorem print_num (b : Bs) : (V.mk 110 b 0 []).print = b := by simp [V.print, form]
theorem print_flag (b : Bs) : (V.mk 102 b 0 []).print = b := by simp [V.print, form]

theorem print_head {x : Sc} {n : Nat} {k : K} {v : V} (h : Typed x n k v) : ∃ c t, v.print = c :: t ∧ c ≠ 93 ∧ c ≠ 125 := by
  cases n with
  | zero => simp [Typed] at h
  | succ n =>
    cases k with
    | num =>
      obtain ⟨m, _, rfl⟩ := h
      obtain ⟨c, t, hd, hc⟩ := dec_cons m
      exact ⟨c, t, by rw [print_num, hd], (isDig_ne hc).1, (isDig_ne hc).2.1⟩
    | txt => obtain ⟨b, _, _, rfl⟩ := h; exact ⟨_, _, print_txt b, by decide, by decide⟩
    | flag =>
      rcases h with rfl | rfl
      · exact ⟨_, _, print_flag _, by decide, by decide⟩
      · exact ⟨_, _, print_flag _, by decide, by decide⟩
    | list k => obtain ⟨l, _, _, rfl⟩ := h; exact ⟨_, _, print_list l, by decide, by decide⟩
    | opt k =>
      rcases h with rfl | ⟨u, _, rfl⟩
      · exact ⟨_, _, print_none, by decide, by decide⟩
      · exact ⟨_, _, print_some u, by decide, by decide⟩
    | ref nm =>
      obtain ⟨t, _, h⟩ := h
      rcases h with ⟨_, f, _, _, rfl⟩ | ⟨_, _, f, u, _, _, _, rfl⟩ | ⟨_, _, l, _, _, rfl⟩
      · exact ⟨_, _, print_enm _, by decide, by decide⟩
      · exact ⟨_, _, print_uni _ _, by decide, by decide⟩
      · exact ⟨_, _, print_rec _, by decide, by decide⟩

theorem isTxt_39 : isTxt 39 = false := by decide

theorem closeU_some {g : Nat} {u v : V} {s r : Bs} (h : closeU g u s = some (v, r)) : ∃ q, s = 62 :: q ∧ v = .mk 85 [] g [u] ∧ r = q := by
  unfold closeU at h
  split at h
  · rename_i q
    simp only [Option.some.injEq, Prod.mk.injEq] at h
    exact ⟨q, rfl, h.1.symm, h.2.symm⟩
  · simp at h
theorem parseTy_say {x : Sc} {n : Nat} {t : Ty} {s r : Bs} {v : V} {nm : Bs} (ht : x.find nm = some t)
    (ih : ∀ k s v r, parse x n k s = some (v, r) → Typed x n k v ∧ s = v.print ++ r)
    (h : parseTy x (fun k' s' => parse x n k' s') t s = some (v, r)) : Typed x (n + 1) (.ref nm) v ∧ s = v.print ++ r := by
  have hp : ∀ (f : Fd) (s : Bs) (v : V) (r : Bs), (fun k' s' => parse x n k' s') f.kind s = some (v, r) → Typed x n f.kind v ∧ s = v.print ++ r := fun f s v r hh => ih _ _ _ _ hh
  unfold parseTy at h
  by_cases h1 : t.sort = 69
  · rw [if_pos h1] at h
    cases s with
    | nil => simp at h
    | cons c q =>
      by_cases hc : c = 35
      · subst hc
        simp only at h
        cases hn : numTok 200 q with
        | none => rw [hn] at h; simp at h
        | some y =>
          obtain ⟨tag, rest⟩ := y
          rw [hn] at h
          simp only at h
          split at h
          · rename_i hs
            simp only [Option.some.injEq, Prod.mk.injEq] at h
            obtain ⟨rfl, rfl⟩ := h
            obtain ⟨f, hf⟩ := Option.isSome_iff_exists.1 hs
            have e := field_tag hf
            subst e
            obtain ⟨g1, g2, _, _⟩ := numTok_some hn
            exact ⟨⟨t, ht, .inl ⟨h1, f, hf, g2, rfl⟩⟩, by rw [print_enm, g1]; rfl⟩
          · simp at h
      · split at h
        · rename_i heq; simp only [List.cons.injEq] at heq; exact absurd heq.1 hc
        · simp at h
  · rw [if_neg h1] at h
    by_cases h2 : t.sort = 85
    · rw [if_pos h2] at h
      cases s with
      | nil => simp at h
      | cons c q =>
        by_cases hc : c = 60
        · subst hc
          simp only at h
          cases hf : fieldTok t (fun k' s' => parse x n k' s') q with
          | none => rw [hf] at h; simp at h
          | some y =>
            obtain ⟨f, u, rest⟩ := y
            rw [hf] at h
            obtain ⟨a1, a2, a3, a4⟩ := fieldTok_say hp hf
            obtain ⟨q', hq, rfl, rfl⟩ := closeU_some h
            subst hq
            exact ⟨⟨t, ht, .inr (.inl ⟨h1, h2, f, u, a1, a2, a3, rfl⟩)⟩, by rw [print_uni, a4]; simp⟩
        · split at h
          · rename_i heq; simp only [List.cons.injEq] at heq; exact absurd heq.1 hc
          · simp at h
    · rw [if_neg h2] at h
      cases s with
      | nil => simp at h
      | cons c q =>
        by_cases hc : c = 123
        · subst hc
          simp only at h
          have fin : ∀ y : List V × Bs, fieldsW x t (fun k' s' => parse x n k' s') q.length 0 q = some y → v = .mk 82 [] 0 y.1 → r = y.2 → Typed x (n + 1) (.ref nm) v ∧ 123 :: q = v.print ++ r := by
            rintro ⟨l, r'⟩ hy rfl rfl
            obtain ⟨es, _, rfl, b3, b4, b5⟩ := fieldsW_say hp _ _ _ _ _ hy
            obtain ⟨b6, b7⟩ := List.pairwise_cons.1 b3
            refine ⟨⟨t, ht, .inr (.inr ⟨h1, h2, es, b7, ?_, rfl⟩)⟩, by rw [print_rec, b5]; simp⟩
            intro e he
            obtain ⟨c1, c2, c3, c4⟩ := b4 e he
            exact ⟨b6 _ (List.mem_map.2 ⟨e, he, rfl⟩), c1, c2, c3, c4⟩
          cases q with
          | nil => simp [fieldsW] at h
          | cons d q' =>
            by_cases hd : d = 125
            · subst hd
              simp only [Option.some.injEq, Prod.mk.injEq] at h
              obtain ⟨rfl, rfl⟩ := h
              exact ⟨⟨t, ht, .inr (.inr ⟨h1, h2, [], by simp, by simp, rfl⟩)⟩, by rw [print_rec]; simp [commas]⟩
            · split at h
              · rename_i heq; simp only [List.cons.injEq] at heq; exact absurd heq.1 hd
              · cases hy : fieldsW x t (fun k' s' => parse x n k' s') (d :: q').length 0 (d :: q') with
                | none => rw [hy] at h; simp at h
                | some y =>
                  rw [hy] at h
                  simp only [Option.map_some, Option.some.injEq, Prod.mk.injEq] at h
                  exact fin y hy h.1.symm h.2.symm
        · split at h
          · rename_i heq; simp only [List.cons.injEq] at heq; exact absurd heq.1 hc
          · simp at h

theorem parse_say {x : Sc} : ∀ (n : Nat) (k : K) (s : Bs) (v : V) (r : Bs), parse x n k s = some (v, r) → Typed x n k v ∧ s = v.print ++ r := by
  intro n
  induction n with
  | zero => intro k s v r h; simp [parse] at h
  | succ n ih =>
    intro k s v r h
    cases k with
    | num =>
      simp only [parse] at h
      cases hn : numTok 999999 s with
      | none => rw [hn] at h; simp at h
      | some y =>
        rw [hn] at h
        simp only [Option.map_some, Option.some.injEq, Prod.mk.injEq] at h
        obtain ⟨rfl, rfl⟩ := h
        obtain ⟨g1, g2, _, _⟩ := numTok_some (n := y.1) (r := y.2) hn
        exact ⟨⟨y.1, g2, rfl⟩, by rw [print_num]; exact g1⟩
    | txt =>
      simp only [parse] at h
      split at h
      · rename_i q
        split at h
        · rename_i q' hq
          split at h
          · rename_i hl
            simp only [Option.some.injEq, Prod.mk.injEq] at h
            obtain ⟨rfl, rfl⟩ := h
            refine ⟨⟨_, ?_, hl, rfl⟩, ?_⟩
            · exact List.all_takeWhile
            · rw [print_txt]
              have := List.takeWhile_append_dropWhile (p := isTxt) (l := q)
              rw [hq] at this
              simp only [List.cons_append, List.append_assoc, List.nil_append, this]
          · simp at h
        · simp at h
      · simp at h
    | flag =>
      simp only [parse] at h
      split at h
      · simp only [Option.some.injEq, Prod.mk.injEq] at h
        obtain ⟨rfl, rfl⟩ := h
        exact ⟨.inl rfl, by rw [print_flag]; rfl⟩
      · simp only [Option.some.injEq, Prod.mk.injEq] at h
        obtain ⟨rfl, rfl⟩ := h
        exact ⟨.inr rfl, by rw [print_flag]; rfl⟩
      · simp at h
    | list k =>
      simp only [parse] at h
      split at h
      · rename_i q
        split at h
        · simp only [Option.some.injEq, Prod.mk.injEq] at h
          obtain ⟨rfl, rfl⟩ := h
          exact ⟨⟨[], by simp, by simp, rfl⟩, by rw [print_list]; simp [commas]⟩
        · cases hi : itemsW (parse x n k) q.length q with
          | none => rw [hi] at h; simp at h
          | some y =>
            obtain ⟨l, q'⟩ := y
            rw [hi] at h
            simp only at h
            split at h
            · rename_i hl
              simp only [Option.some.injEq, Prod.mk.injEq] at h
              obtain ⟨rfl, rfl⟩ := h
              obtain ⟨_, b2, b3⟩ := itemsW_say (Q := Typed x n k) (fun s v r hh => ih _ _ _ _ hh) _ _ _ _ hi
              exact ⟨⟨l, hl, b2, rfl⟩, by rw [print_list, b3]; simp⟩
            · simp at h
      · simp at h
    | opt k =>
      simp only [parse] at h
      split at h
      · simp only [Option.some.injEq, Prod.mk.injEq] at h
        obtain ⟨rfl, rfl⟩ := h
        exact ⟨.inl rfl, by rw [print_none]; rfl⟩
      · rename_i q
        cases hq : parse x n k q with
        | none => rw [hq] at h; simp at h
        | some y =>
          obtain ⟨u, q'⟩ := y
          rw [hq] at h
          simp only [Option.map_some, Option.some.injEq, Prod.mk.injEq] at h
          obtain ⟨rfl, rfl⟩ := h
          obtain ⟨b1, b2⟩ := ih _ _ _ _ hq
          exact ⟨.inr ⟨u, b1, rfl⟩, by rw [print_some, b2]; rfl⟩
      · simp at h
    | ref nm =>
      simp only [parse] at h
      cases ht : x.find nm with
      | none => rw [ht] at h; simp at h
      | some t =>
        rw [ht] at h
        exact parseTy_say ht ih h

end Wf

namespace Wf
set_option linter.unusedVariables false
set_option linter.unusedSimpArgs false

theorem deep_tag (tag : Nat) (v : V) : (V.mk 61 [] tag [v]).deep = v.deep := by simp [Option.filter_some, V.deep, V.deeps]
theorem deep_ne {what : UInt8} (h : what ≠ 61) (t : Bs) (g : Nat) (l : List V) : (V.mk what t g l).deep = V.deeps l + 1 := by simp [Option.filter_some, V.deep, h]

theorem itemsW_filter {p p' : Reads} {d : Nat} (hp : ∀ s, p s = (p' s).filter (fun y => decide (y.1.deep ≤ d))) :
    ∀ (m : Nat) (s : Bs), itemsW p m s = (itemsW p' m s).filter (fun y => decide (V.deeps y.1 ≤ d)) := by
  intro m
  induction m with
  | zero => intro s; rfl
  | succ m ih =>
    intro s
    simp only [itemsW]
    rw [hp s]
    cases hq : p' s with
    | none => rfl
    | some y =>
      obtain ⟨v, rest⟩ := y
      by_cases hd : v.deep ≤ d
      · have e : (some (v, rest)).filter (fun y : V × Bs => decide (y.1.deep ≤ d)) = some (v, rest) := by simp only [Option.filter_some, hd, decide_true, decide_false, if_true, if_false]; try simp
        rw [e]
        simp only
        split
        · rename_i r
          rw [ih r]
          cases itemsW p' m r with
          | none => rfl
          | some y =>
            by_cases hy : V.deeps y.1 ≤ d
            · simp [Option.filter_some, hy, V.deeps, hd, Nat.max_le]
            · simp [Option.filter_some, hy, V.deeps, hd, Nat.max_le]
        · simp [Option.filter_some, V.deeps, hd]
        · rfl
      · have e : (some (v, rest)).filter (fun y : V × Bs => decide (y.1.deep ≤ d)) = none := by simp only [Option.filter_some, hd, decide_true, decide_false, if_true, if_false]; try simp
        rw [e]
        simp only
        split
        · rename_i r
          cases itemsW p' m r with
          | none => rfl
          | some y => simp [Option.filter_some, V.deeps, hd, Nat.max_le]
        · simp [Option.filter_some, V.deeps, hd]
        · rfl

theorem fieldTok_filter {t : Ty} {p p' : K → Reads} {d : Nat} (hp : ∀ k s, p k s = (p' k s).filter (fun y => decide (y.1.deep ≤ d))) (s : Bs) :
    fieldTok t p s = (fieldTok t p' s).filter (fun y => decide (y.2.1.deep ≤ d)) := by
  unfold fieldTok
  cases numTok 200 s with
  | none => rfl
  | some y =>
    obtain ⟨tag, rest⟩ := y
    simp only
    split
    · rename_i r f _
      rw [hp]
      cases p' f.kind r with
      | none => rfl
      | some z => by_cases hz : z.1.deep ≤ d <;> simp [Option.filter_some, hz]
    · rfl

theorem fieldsW_filter {x : Sc} {t : Ty} {p p' : K → Reads} {d : Nat} (hp : ∀ k s, p k s = (p' k s).filter (fun y => decide (y.1.deep ≤ d))) :
    ∀ (m last : Nat) (s : Bs), fieldsW x t p m last s = (fieldsW x t p' m last s).filter (fun y => decide (V.deeps y.1 ≤ d)) := by
  intro m
  induction m with
  | zero => intro last s; rfl
  | succ m ih =>
    intro last s
    simp only [fieldsW]
    rw [fieldTok_filter hp s]
    cases hq : fieldTok t p' s with
    | none => rfl
    | some y =>
      obtain ⟨f, v, rest⟩ := y
      by_cases hd : v.deep ≤ d
      · have e : (some (f, v, rest)).filter (fun y : Fd × V × Bs => decide (y.2.1.deep ≤ d)) = some (f, v, rest) := by simp only [Option.filter_some, hd, decide_true, decide_false, if_true, if_false]; try simp
        rw [e]
        simp only
        split
        · rfl
        · split
          · rename_i r
            rw [ih f.tag r]
            cases fieldsW x t p' m f.tag r with
            | none => rfl
            | some y =>
              by_cases hy : V.deeps y.1 ≤ d
              · simp [Option.filter_some, hy, V.deeps, hd, Nat.max_le, deep_tag]
              · simp [Option.filter_some, hy, V.deeps, hd, Nat.max_le, deep_tag]
          · simp [Option.filter_some, V.deeps, hd, deep_tag]
          · rfl
      · have e : (some (f, v, rest)).filter (fun y : Fd × V × Bs => decide (y.2.1.deep ≤ d)) = none := by simp only [Option.filter_some, hd, decide_true, decide_false, if_true, if_false]; try simp
        rw [e]
        simp only
        split
        · rfl
        · split
          · rename_i r
            cases fieldsW x t p' m f.tag r with
            | none => rfl
            | some y => simp [Option.filter_some, V.deeps, hd, Nat.max_le, deep_tag]
          · simp [Option.filter_some, V.deeps, hd, deep_tag]
          · rfl

/-- to read at most so deep is to read, and to keep what is no deeper -/
theorem parse_filter {x : Sc} : ∀ (n m : Nat), n ≤ m → ∀ (k : K) (s : Bs), parse x n k s = (parse x m k s).filter (fun y => decide (y.1.deep ≤ n)) := by
  intro n
  induction n with
  | zero =>
    intro m _ k s
    cases hp : parse x m k s with
    | none => simp [Option.filter_some, parse]
    | some y =>
      obtain ⟨v, r⟩ := y
      have ht := (parse_say _ _ _ _ _ hp).1
      have : v.deep ≠ 0 := by
        cases m with
        | zero => simp [Option.filter_some, Typed] at ht
        | succ m =>
          cases k with
          | num => obtain ⟨_, _, rfl⟩ := ht; simp [Option.filter_some, V.deep]
          | txt => obtain ⟨_, _, _, rfl⟩ := ht; simp [Option.filter_some, V.deep]
          | flag => rcases ht with rfl | rfl <;> simp [Option.filter_some, V.deep]
          | list k => obtain ⟨_, _, _, rfl⟩ := ht; simp [Option.filter_some, V.deep]
          | opt k => rcases ht with rfl | ⟨_, _, rfl⟩ <;> simp [Option.filter_some, V.deep]
          | ref nm =>
            obtain ⟨t, _, h⟩ := ht
            rcases h with ⟨_, f, _, _, rfl⟩ | ⟨_, _, f, u, _, _, _, rfl⟩ | ⟨_, _, l, _, _, rfl⟩ <;> simp [Option.filter_some, V.deep]
      simp [Option.filter_some, parse, this]
  | succ n ih =>
    intro m hm k s
    cases m with
    | zero => omega
    | succ m =>
      have ih' := ih m (by omega)
      cases k with
      | num =>
        simp only [parse]
        cases numTok 999999 s with
        | none => rfl
        | some y => simp [Option.filter_some, V.deep, V.deeps]
      | txt =>
        simp only [parse]
        repeat' split
        all_goals simp [Option.filter_some, V.deep, V.deeps]
      | flag =>
        simp only [parse]
        repeat' split
        all_goals simp [Option.filter_some, V.deep, V.deeps]
      | list k =>
        simp only [parse]
        split
        · rename_i q
          split
          · simp [Option.filter_some, V.deep, V.deeps]
          · rw [itemsW_filter (ih' k) q.length q]
            cases itemsW (parse x m k) q.length q with
            | none => rfl
            | some y =>
              obtain ⟨l, r⟩ := y
              by_cases hl : V.deeps l ≤ n
              · by_cases h20 : l.length ≤ 20
                · simp [Option.filter_some, hl, h20, V.deep]
                · simp [Option.filter_some, hl, h20]
              · by_cases h20 : l.length ≤ 20
                · simp [Option.filter_some, hl, h20, V.deep]
                · simp [Option.filter_some, hl, h20]
        · rfl
      | opt k =>
        simp only [parse]
        split
        · simp [Option.filter_some, V.deep, V.deeps]
        · rename_i q
          rw [ih' k q]
          cases parse x m k q with
          | none => rfl
          | some y => by_cases hy : y.1.deep ≤ n <;> simp [Option.filter_some, hy, V.deep, V.deeps]
        · rfl
      | ref nm =>
        simp only [parse]
        cases x.find nm with
        | none => rfl
        | some t =>
          simp only [parseTy]
          split
          · split
            · split
              · rfl
              · split
                · simp [Option.filter_some, V.deep, V.deeps]
                · rfl
            · rfl
          · split
            · split
              · rename_i r
                rw [fieldTok_filter (p := fun k' s' => parse x n k' s') (p' := fun k' s' => parse x m k' s') (d := n) (fun k s => ih' k s) r]
                cases fieldTok t (fun k' s' => parse x m k' s') r with
                | none => rfl
                | some y =>
                  obtain ⟨f, v, rest⟩ := y
                  rw [Option.filter_some]
                  by_cases hv : v.deep ≤ n
                  · simp only [hv, decide_true, if_true]
                    unfold closeU
                    split
                    · simp [Option.filter_some, V.deep, V.deeps, hv]
                    · rfl
                  · simp only [hv, decide_false, if_false, Bool.false_eq_true]
                    unfold closeU
                    split
                    · simp [Option.filter_some, V.deep, V.deeps, hv]
                    · rfl
              · rfl
            · split
              · rename_i q
                split
                · simp [Option.filter_some, V.deep, V.deeps]
                · rw [fieldsW_filter (p := fun k' s' => parse x n k' s') (p' := fun k' s' => parse x m k' s') (d := n) (fun k s => ih' k s) q.length 0 q]
                  cases fieldsW x t (fun k' s' => parse x m k' s') q.length 0 q with
                  | none => rfl
                  | some y => by_cases hy : V.deeps y.1 ≤ n <;> simp [Option.filter_some, hy, V.deep]
              · rfl
end Wf

namespace Wf
set_option linter.unusedVariables false
set_option linter.unusedSimpArgs false

def formB (what : UInt8) (text : Bs) (tag : Nat) (parts : List Bs) : Bs :=
  if what = 110 then putN (val text)
  else if what = 116 then putN text.length ++ text
  else if what = 102 then (if text = [121, 101, 115] then [1] else [0])
  else if what = 91 then putN parts.length ++ parts.flatten
  else if what = 63 then (if parts = [] then [0] else 1 :: parts.flatten)
  else if what = 69 then putN tag
  else if what = 85 ∨ what = 61 then putN tag ++ (putN parts.flatten.length ++ parts.flatten)
  else parts.flatten ++ [0]
mutual
def V.bytes : V → Bs
  | .mk what text tag kids => formB what text tag (V.bytess kids)
def V.bytess : List V → List Bs
  | [] => []
  | v :: l => v.bytes :: V.bytess l
end
def whole (p : Reads) (s : Bs) : Option V :=
  match p s with
  | none => none
  | some (v, r) => if r = [] then some v else none

end Wf

namespace Wf
set_option linter.unusedVariables false
set_option linter.unusedSimpArgs false

theorem commas_length (l : List Bs) (h : l ≠ []) : (commas l).length + 1 = l.flatten.length + l.length := by
  induction l with
  | nil => exact absurd rfl h
  | cons a l ih =>
    by_cases hl : l = []
    · subst hl; simp [commas]
    · rw [commas_cons _ hl]
      have := ih hl
      simp only [List.length_append, List.length_cons, List.flatten_cons]; omega
theorem commas_length_le (l : List Bs) : l.flatten.length ≤ (commas l).length := by
  by_cases hl : l = []
  · subst hl; simp
  · have := commas_length l hl
    have := List.length_pos_iff.2 hl
    omega
theorem commas_mem {l : List Bs} {a : Bs} (h : a ∈ l) : a.length ≤ (commas l).length := by
  have h1 := commas_length_le l
  have : a.length ≤ l.flatten.length := by
    clear h1
    induction l with
    | nil => simp at h
    | cons b l ih =>
      rcases List.mem_cons.1 h with rfl | h
      · simp
      · have := ih h
        simp only [List.flatten_cons, List.length_append]; omega
  omega

end Wf

namespace Wf
set_option linter.unusedVariables false
set_option linter.unusedSimpArgs false

theorem typed_deep {x : Sc} : ∀ (n : Nat) (k : K) (v : V), Typed x n k v → 1 ≤ v.deep ∧ v.deep ≤ n := by
  intro n
  induction n with
  | zero => intro k v h; simp [Typed] at h
  | succ n ih =>
    intro k v h
    cases k with
    | num => obtain ⟨_, _, rfl⟩ := h; simp [V.deep, V.deeps]
    | txt => obtain ⟨_, _, _, rfl⟩ := h; simp [V.deep, V.deeps]
    | flag => rcases h with rfl | rfl <;> simp [V.deep, V.deeps]
    | list k =>
      obtain ⟨l, _, hu, rfl⟩ := h
      have : V.deeps l ≤ n := V.deeps_le.2 fun u hx => (ih k u (hu u hx)).2
      simp [V.deep]; omega
    | opt k =>
      rcases h with rfl | ⟨u, hu, rfl⟩
      · simp [V.deep, V.deeps]
      · have := (ih k u hu).2
        simp [V.deep, V.deeps]; omega
    | ref nm =>
      obtain ⟨t, ht, h⟩ := h
      rcases h with ⟨_, f, _, _, rfl⟩ | ⟨h1, h2, f, u, hf, h3, hu, rfl⟩ | ⟨h1, h2, l, hpw, hl, rfl⟩
      · simp [V.deep, V.deeps]
      · have := (ih _ _ hu).2
        simp [V.deep, V.deeps]; omega
      · have : V.deeps (l.map fun e => V.mk 61 [] e.1.tag [e.2]) ≤ n := V.deeps_le.2 fun u hx => by
          obtain ⟨e, he, rfl⟩ := List.mem_map.1 hx
          rw [deep_tag]
          exact (ih _ _ (hl e he).2.2.2.1).2
        simp [V.deep]; omega

end Wf

namespace Wf
set_option linter.unusedVariables false
set_option linter.unusedSimpArgs false

/-! sets -/
end Wf

namespace Wf
set_option linter.unusedVariables false
set_option linter.unusedSimpArgs false

def nxt (x : Sc) (t : Ty) : Option Ty :=
  if t.sort ≠ 85 then none else
  match t.fields with
  | [] => none
  | f :: _ =>
    match f.kind with
    | .ref nm => x.find nm
    | _ => none

theorem endsIn_succ (x : Sc) (n : Nat) (t : Ty) : endsIn x (n + 1) t = (match nxt x t with | none => true | some u => endsIn x n u) := by
  simp only [endsIn, nxt]
  split
  · rfl
  · cases t.fields with
    | nil => rfl
    | cons f fs =>
      simp only
      cases f.kind with
      | ref nm => simp only; cases x.find nm <;> rfl
      | num => rfl
      | txt => rfl
      | flag => rfl
      | list k => rfl
      | opt k => rfl
theorem endsIn_mono {x : Sc} : ∀ (n : Nat) (t : Ty), endsIn x n t = true → ∀ m, n ≤ m → endsIn x m t = true := by
  intro n
  induction n with
  | zero => intro t h; simp [endsIn] at h
  | succ n ih =>
    intro t h m hm
    cases m with
    | zero => omega
    | succ m =>
      rw [endsIn_succ] at h ⊢
      cases hn : nxt x t with
      | none => rfl
      | some u => rw [hn] at h; exact ih u h m (by omega)

def walked (x : Sc) : Nat → Ty → List Ty
  | 0, _ => []
  | n + 1, t => t :: (match nxt x t with | none => [] | some u => walked x n u)

theorem walked_len {x : Sc} : ∀ (n : Nat) (t : Ty), endsIn x n t = true → endsIn x (walked x n t).length t = true ∧ (∀ m, endsIn x m t = true → (walked x n t).length ≤ m) := by
  intro n
  induction n with
  | zero => intro t h; simp [endsIn] at h
  | succ n ih =>
    intro t h
    rw [endsIn_succ] at h
    simp only [walked]
    cases hn : nxt x t with
    | none =>
      refine ⟨by simp [endsIn_succ, hn], fun m hm => ?_⟩
      cases m with
      | zero => simp [endsIn] at hm
      | succ m => simp
    | some u =>
      rw [hn] at h
      obtain ⟨h1, h2⟩ := ih u h
      simp only [List.length_cons]
      refine ⟨by rw [endsIn_succ, hn]; exact h1, fun m hm => ?_⟩
      cases m with
      | zero => simp [endsIn] at hm
      | succ m =>
        rw [endsIn_succ, hn] at hm
        have := h2 m hm
        omega

/-- whoever stands behind another one on the way has fewer steps to go -/
theorem walked_mem {x : Sc} : ∀ (n : Nat) (t : Ty), endsIn x n t = true → ∀ v, v ∈ walked x n t → endsIn x (walked x n t).length v = true ∧ (v ≠ t → endsIn x ((walked x n t).length - 1) v = true) := by
  intro n
  induction n with
  | zero => intro t h; simp [endsIn] at h
  | succ n ih =>
    intro t h v hv
    have hl := (walked_len (n + 1) t h).1
    rw [endsIn_succ] at h
    simp only [walked] at hv hl ⊢
    cases hn : nxt x t with
    | none =>
      rw [hn] at hv
      simp only [List.mem_singleton] at hv
      subst hv
      rw [hn] at hl
      exact ⟨hl, fun e => absurd rfl e⟩
    | some u =>
      rw [hn] at hv h hl
      simp only at h
      rcases List.mem_cons.1 hv with rfl | hv
      · exact ⟨hl, fun e => absurd rfl e⟩
      · obtain ⟨a1, _⟩ := ih u h v hv
        simp only [List.length_cons, Nat.add_sub_cancel]
        exact ⟨endsIn_mono _ _ a1 _ (by omega), fun _ => a1⟩

theorem walked_nodup {x : Sc} : ∀ (n : Nat) (t : Ty), endsIn x n t = true → (walked x n t).Nodup := by
  intro n
  induction n with
  | zero => intro t h; simp [endsIn] at h
  | succ n ih =>
    intro t h
    have h0 := h
    rw [endsIn_succ] at h
    simp only [walked]
    cases hn : nxt x t with
    | none => simp
    | some u =>
      rw [hn] at h
      simp only at h
      refine List.nodup_cons.2 ⟨fun hm => ?_, ih u h⟩
      obtain ⟨a1, _⟩ := walked_mem n u h t hm
      have := (walked_len (n + 1) t h0).2 _ a1
      simp only [walked, hn, List.length_cons] at this
      omega
theorem nxt_mem {x : Sc} {t u : Ty} (h : nxt x t = some u) : u ∈ x := by
  unfold nxt at h
  split at h
  · simp at h
  · split at h
    · simp at h
    · split at h
      · exact (find_mem h).1
      · simp at h
theorem walked_sub {x : Sc} : ∀ (n : Nat) (t : Ty), t ∈ x → ∀ v, v ∈ walked x n t → v ∈ x := by
  intro n
  induction n with
  | zero => intro t _ v h; simp [walked] at h
  | succ n ih =>
    intro t ht v hv
    simp only [walked] at hv
    rcases List.mem_cons.1 hv with rfl | hv
    · exact ht
    · cases hn : nxt x t with
      | none => rw [hn] at hv; simp at hv
      | some u => rw [hn] at hv; exact ih u (nxt_mem hn) v hv
theorem nodup_sub_len {α : Type} [DecidableEq α] : ∀ (l x : List α), l.Nodup → (∀ a, a ∈ l → a ∈ x) → l.length ≤ x.length := by
  intro l
  induction l with
  | nil => intro x _ _; simp
  | cons a l ih =>
    intro x hn hs
    obtain ⟨h1, h2⟩ := List.nodup_cons.1 hn
    have ha := hs a (by simp)
    have := ih (x.erase a) h2 (fun b hb => (List.mem_erase_of_ne (fun e => h1 (by rw [← e]; exact hb))).2 (hs b (by simp [hb])))
    rw [List.length_erase_of_mem ha] at this
    have := List.length_pos_of_mem ha
    simp only [List.length_cons]; omega

/-- so many steps as there are types are enough -/
theorem endsIn_enough {x : Sc} {t : Ty} (ht : t ∈ x) {n : Nat} (h : endsIn x n t = true) : endsIn x x.length t = true := by
  have h1 := (walked_len n t h).1
  have h2 := nodup_sub_len _ x (walked_nodup n t h) (walked_sub n t ht)
  exact endsIn_mono _ _ h1 _ h2

/-- the standing value: with more fuel the same, once it has come to its end -/
theorem stands_nxt {x : Sc} (hx : ∀ t, t ∈ x → TyOk t) : ∀ (n m : Nat) (t : Ty) (nm : Bs), x.find nm = some t → endsIn x n t = true → n ≤ m → stands x m (.ref nm) = stands x n (.ref nm) := by
  intro n
  induction n with
  | zero => intro m t nm _ h; simp [endsIn] at h
  | succ n ih =>
    intro m t nm ht h hm
    cases m with
    | zero => omega
    | succ m =>
      simp only [stands, ht]
      split
      · rfl
      · rename_i h82
        split
        · rfl
        · rename_i f fs hf
          split
          · rfl
          · rename_i h69
            by_cases h85 : t.sort = 85
            · rw [endsIn_succ] at h
              have hn : nxt x t = (match f.kind with | .ref nm => x.find nm | _ => none) := by simp [nxt, h85, hf]
              rw [hn] at h
              cases hk : f.kind with
              | ref nm2 =>
                rw [hk] at h
                simp only at h
                cases hu : x.find nm2 with
                | none => cases m <;> cases n <;> simp [stands, hu]
                | some u =>
                  rw [hu] at h
                  simp only at h
                  rw [ih m u nm2 hu h (by omega)]
              | num => cases m <;> cases n <;> simp [stands]
              | txt => cases m <;> cases n <;> simp [stands]
              | flag => cases m <;> cases n <;> simp [stands]
              | list k => cases m <;> cases n <;> simp [stands]
              | opt k => cases m <;> cases n <;> simp [stands]
            · rcases (hx t (find_mem ht).1).sort with h | h | h
              · exact absurd h h82
              · exact absurd h h85
              · exact absurd h h69
end Wf

namespace Wf
set_option linter.unusedVariables false
set_option linter.unusedSimpArgs false
def mapTys : List Bs → Option (List Ty)
  | [] => some []
  | s :: l =>
    match lineTy s with
    | none => none
    | some t => (mapTys l).map (t :: ·)
def namesOk (x : List Ty) : Bool := decide ((x.map (·.name)).Pairwise (· ≠ ·))

theorem addTys_eq : ∀ (l : List Bs) (acc : List Ty), acc.length ≤ 8 → (acc.map (·.name)).Pairwise (· ≠ ·) →
    addTys acc l = if acc.length + l.length ≤ 8 then (match mapTys l with | none => none | some r => if namesOk (acc ++ r) = true then some (acc ++ r) else none) else none := by
  intro l
  induction l with
  | nil => intro acc h hn; simp [addTys, mapTys, h, namesOk, hn]
  | cons s l ih =>
    intro acc h hn
    simp only [addTys, mapTys, List.length_cons]
    by_cases h8 : acc.length = 8
    · rw [if_pos h8, if_neg (by omega)]
    · rw [if_neg h8]
      cases ht : lineTy s with
      | none => simp
      | some t =>
        simp only
        by_cases ha : acc.any (fun u => u.name == t.name) = true
        · rw [if_pos ha]
          simp only [List.any_eq_true, beq_iff_eq] at ha
          obtain ⟨u, hu, hut⟩ := ha
          split
          · cases mapTys l with
            | none => rfl
            | some r =>
              simp only [Option.map_some]
              rw [if_neg]
              simp only [namesOk, decide_eq_true_eq, List.map_append, List.map_cons]
              intro hp
              exact (List.pairwise_append.1 hp).2.2 u.name (List.mem_map.2 ⟨u, hu, rfl⟩) t.name (by simp) hut
          · rfl
        · rw [if_neg ha]
          simp only [List.any_eq_true, beq_iff_eq, not_exists, not_and] at ha
          rw [ih (acc ++ [t]) (by simp; omega) (by
            rw [List.map_append]
            refine List.pairwise_append.2 ⟨hn, by simp, ?_⟩
            intro a hx b hb
            obtain ⟨g, hg, rfl⟩ := List.mem_map.1 hx
            simp only [List.map_cons, List.map_nil, List.mem_singleton] at hb
            subst hb
            exact ha g hg)]
          simp only [List.length_append, List.length_cons, List.length_nil]
          by_cases hl : acc.length + (l.length + 1) ≤ 8
          · rw [if_pos (by omega), if_pos hl]
            cases mapTys l with
            | none => rfl
            | some r => simp
          · rw [if_neg (by omega), if_neg hl]

/-- the reference's way to read a schema -/
def schemaB (s : Bs) : Option Sc :=
  if 400 < s.length ∨ 9 < (cutAt 10 s).length ∨ (cutAt 10 s).getLast? ≠ some [] then none else
  match mapTys (cutAt 10 s).dropLast with
  | none => none
  | some x => if namesOk x = true ∧ refsOk x = true ∧ x.all (endsIn x (x.length + 1)) = true then some x else none

theorem schemaB_eq (s : Bs) : schemaB s = schemaOf s := by
  unfold schemaB schemaOf
  by_cases h1 : 400 < s.length
  · simp [h1]
  · by_cases h2 : (cutAt 10 s).getLast? ≠ some []
    · simp [h1, h2]
    · have hlen := List.length_pos_iff.2 (cutAt_ne 10 s)
      have hdl : (cutAt 10 s).dropLast.length = (cutAt 10 s).length - 1 := by simp
      rw [addTys_eq _ _ (by simp) (by simp)]
      simp only [h1, h2, if_false, or_false, false_or, List.length_nil, Nat.zero_add, List.nil_append]
      by_cases h3 : 9 < (cutAt 10 s).length
      · rw [if_pos h3, if_neg (by omega)]
      · rw [if_neg h3, if_pos (by omega)]
        cases hm : mapTys (cutAt 10 s).dropLast with
        | none => rfl
        | some x =>
          have hxl : x.length ≤ 8 := by
            have : ∀ (l : List Bs) (r : List Ty), mapTys l = some r → r.length = l.length := by
              intro l
              induction l with
              | nil => intro r h; simp [mapTys] at h; subst h; rfl
              | cons a l ih =>
                intro r h
                simp only [mapTys] at h
                split at h
                · simp at h
                · cases hr : mapTys l with
                  | none => rw [hr] at h; simp at h
                  | some r' => rw [hr] at h; simp at h; subst h; simp [ih r' hr]
            have := this _ _ hm
            omega
          simp only
          by_cases hn : namesOk x = true
          · simp only [hn, true_and, if_true]
            have he : x.all (endsIn x (x.length + 1)) = x.all (endsIn x 9) := by
              rw [Bool.eq_iff_iff, List.all_eq_true, List.all_eq_true]
              constructor
              · intro h t ht; exact endsIn_mono _ _ (h t ht) _ (by omega)
              · intro h t ht; exact endsIn_mono _ _ (endsIn_enough ht (h t ht)) _ (by omega)
            rw [he]
          · simp [hn]
end Wf

namespace Wf
set_option linter.unusedVariables false
set_option linter.unusedSimpArgs false
/-! the standing value of a kind is a value of it -/
/-- the kind of a schema: its name, if it has one, is that of a type -/
theorem hasRef_ref {x : Sc} {nm : Bs} (h : hasRef x (.ref nm) = true) : ∃ t, x.find nm = some t := by
  simp only [hasRef, K.base, K.name, ne_eq, not_true_eq_false, decide_false, Bool.false_or] at h
  exact Option.isSome_iff_exists.1 h

end Wf

namespace Wf
set_option linter.unusedVariables false
set_option linter.unusedSimpArgs false

theorem parse_lt {x : Sc} {n : Nat} {k : K} {s r : Bs} {v : V} (h : parse x n k s = some (v, r)) : r.length < s.length := by
  obtain ⟨ht, hs⟩ := parse_say n k s v r h
  obtain ⟨c, t, hc, _⟩ := print_head ht
  rw [hs, hc]
  simp
  omega

theorem items_fuel {p : Reads} (hp : ∀ s v r, p s = some (v, r) → r.length < s.length) : ∀ (m m' : Nat) (s : Bs), s.length ≤ m → s.length ≤ m' → itemsW p m s = itemsW p m' s := by
  intro m
  induction m with
  | zero =>
    intro m' s h1 h2
    cases m' with
    | zero => rfl
    | succ m' =>
      have hs : s = [] := List.eq_nil_of_length_eq_zero (by omega)
      subst hs
      simp only [itemsW]
      cases hq : p [] with
      | none => rfl
      | some y => have := hp [] y.1 y.2 hq; simp at this
  | succ m ih =>
    intro m' s h1 h2
    cases m' with
    | zero =>
      have hs : s = [] := List.eq_nil_of_length_eq_zero (by omega)
      subst hs
      simp only [itemsW]
      cases hq : p [] with
      | none => rfl
      | some y => have := hp [] y.1 y.2 hq; simp at this
    | succ m' =>
      simp only [itemsW]
      cases hq : p s with
      | none => rfl
      | some y =>
        obtain ⟨v, rest⟩ := y
        have hlt := hp s v rest hq
        dsimp only
        split
        · rename_i r
          simp only [List.length_cons] at hlt
          rw [ih m' r (by omega) (by omega)]
        · rfl
        · rfl
/-- the items of a list, from a text -/
def items (p : Reads) (s : Bs) : Option (List V × Bs) := itemsW p s.length s
theorem items_step {p : Reads} (hp : ∀ s v r, p s = some (v, r) → r.length < s.length) (s : Bs) : items p s = match p s with
    | none => none
    | some (v, rest) =>
      match rest with
      | 44 :: r => (items p r).map fun x => (v :: x.1, x.2)
      | 93 :: r => some ([v], r)
      | _ => none := by
  unfold items
  rw [items_fuel hp s.length (s.length + 1) s (Nat.le_refl _) (by omega)]
  simp only [itemsW]
  cases hq : p s with
  | none => rfl
  | some y =>
    obtain ⟨v, rest⟩ := y
    have hlt := hp s v rest hq
    dsimp only
    split
    · rename_i r
      simp only [List.length_cons] at hlt
      rw [items_fuel hp s.length r.length r (by omega) (Nat.le_refl _)]
      rfl
    · rfl
    · rename_i h1 h2
      split
      · exact (h1 _ rfl).elim
      · exact (h2 _ rfl).elim
      · rfl
theorem items_ne {p : Reads} (hp : ∀ s v r, p s = some (v, r) → r.length < s.length) {s : Bs} {l : List V} {q : Bs} (h : items p s = some (l, q)) : l ≠ [] := by
  rw [items_step hp] at h
  split at h
  · cases h
  · split at h
    · rw [Option.map_eq_some_iff] at h
      obtain ⟨y, _, hy⟩ := h
      simp only [Prod.mk.injEq] at hy
      rw [← hy.1]; simp
    · simp only [Option.some.injEq, Prod.mk.injEq] at h
      rw [← h.1]; simp
    · cases h

theorem numTok_lt {most n : Nat} {s r : Bs} (h : numTok most s = some (n, r)) : r.length < s.length := by
  obtain ⟨m, h1, h2⟩ := Option.map_eq_some_iff.1 h
  simp only [Prod.mk.injEq] at h2
  have hne : s.takeWhile isDig ≠ [] := by
    intro e
    rw [e] at h1
    simp [plainN] at h1
  have := congrArg List.length (List.takeWhile_append_dropWhile (p := isDig) (l := s))
  rw [List.length_append] at this
  have h3 := List.length_pos_iff.2 hne
  rw [← h2.2]
  omega
theorem fieldTok_lt {t : Ty} {p : K → Reads} (hp : ∀ k s v r, p k s = some (v, r) → r.length < s.length) {s r : Bs} {f : Fd} {v : V} (h : fieldTok t p s = some (f, v, r)) : r.length + 2 < s.length := by
  unfold fieldTok at h
  cases hn : numTok 200 s with
  | none => rw [hn] at h; cases h
  | some y =>
    obtain ⟨tag, rest⟩ := y
    have h1 := numTok_lt hn
    rw [hn] at h
    dsimp only at h
    split at h
    · rename_i q f' hf
      simp only [List.length_cons] at h1
      obtain ⟨y, hy, h2⟩ := Option.map_eq_some_iff.1 h
      simp only [Prod.mk.injEq] at h2
      have := hp _ _ _ _ hy
      rw [← h2.2.2]
      omega
    · cases h
theorem fields_fuel {x : Sc} {t : Ty} {p : K → Reads} (hp : ∀ k s v r, p k s = some (v, r) → r.length < s.length) : ∀ (m m' last : Nat) (s : Bs), s.length ≤ m → s.length ≤ m' → fieldsW x t p m last s = fieldsW x t p m' last s := by
  intro m
  induction m with
  | zero =>
    intro m' last s h1 h2
    cases m' with
    | zero => rfl
    | succ m' =>
      have hs : s = [] := List.eq_nil_of_length_eq_zero (by omega)
      subst hs
      simp only [fieldsW]
      cases hq : fieldTok t p [] with
      | none => rfl
      | some y => have := fieldTok_lt hp hq; simp at this
  | succ m ih =>
    intro m' last s h1 h2
    cases m' with
    | zero =>
      have hs : s = [] := List.eq_nil_of_length_eq_zero (by omega)
      subst hs
      simp only [fieldsW]
      cases hq : fieldTok t p [] with
      | none => rfl
      | some y => have := fieldTok_lt hp hq; simp at this
    | succ m' =>
      simp only [fieldsW]
      cases hq : fieldTok t p s with
      | none => rfl
      | some y =>
        obtain ⟨f, v, rest⟩ := y
        have hlt := fieldTok_lt hp hq
        dsimp only
        split
        · rfl
        · split
          · rename_i r
            simp only [List.length_cons] at hlt
            rw [ih m' _ r (by omega) (by omega)]
          · rfl
          · rfl
/-- the fields of a record, from a text -/
def flds (x : Sc) (t : Ty) (p : K → Reads) (last : Nat) (s : Bs) : Option (List V × Bs) := fieldsW x t p s.length last s
theorem flds_step {x : Sc} {t : Ty} {p : K → Reads} (hp : ∀ k s v r, p k s = some (v, r) → r.length < s.length) (last : Nat) (s : Bs) : flds x t p last s = match fieldTok t p s with
    | none => none
    | some (f, v, rest) =>
      if f.tag ≤ last ∨ v.print = standF x f then none else
      match rest with
      | 44 :: r => (flds x t p f.tag r).map fun y => (.mk 61 [] f.tag [v] :: y.1, y.2)
      | 125 :: r => some ([.mk 61 [] f.tag [v]], r)
      | _ => none := by
  unfold flds
  rw [fields_fuel hp s.length (s.length + 1) last s (Nat.le_refl _) (by omega)]
  simp only [fieldsW]
  cases hq : fieldTok t p s with
  | none => rfl
  | some y =>
    obtain ⟨f, v, rest⟩ := y
    have hlt := fieldTok_lt hp hq
    dsimp only
    split
    · rfl
    · split
      · rename_i r
        simp only [List.length_cons] at hlt
        rw [fields_fuel hp s.length r.length _ r (by omega) (Nat.le_refl _)]
        rfl
      · rfl
      · rename_i h1 h2
        split
        · exact (h1 _ rfl).elim
        · exact (h2 _ rfl).elim
        · rfl

/-- a value of a kind, from a whole text -/
def valIn (x : Sc) (k : K) (s : Bs) : Option V := if s.length ≤ 400 then (match parse x 12 k s with | some (v, []) => some v | _ => none) else none
theorem valIn_long {x : Sc} {k : K} {s : Bs} (h : ¬ s.length ≤ 400) : valIn x k s = none := by rw [valIn, if_neg h]
theorem valIn_deep {x : Sc} {k : K} {s : Bs} (h : s.length ≤ 400) : valIn x k s = match parse x 401 k s with
    | some (v, r) => if r = [] ∧ v.deep ≤ 12 then some v else none
    | none => none := by
  rw [valIn, if_pos h, parse_filter 12 401 (by omega) k s]
  cases parse x 401 k s with
  | none => rfl
  | some y =>
    obtain ⟨v, r⟩ := y
    by_cases hd : v.deep ≤ 12
    · simp only [Option.filter_some, hd, decide_true, if_true]
      cases r <;> simp
    · simp only [Option.filter_some, hd, decide_false]
      simp
theorem valIn_some {x : Sc} {k : K} {s : Bs} {v : V} (h : valIn x k s = some v) : Typed x 12 k v ∧ s = v.print ∧ s.length ≤ 400 := by
  unfold valIn at h
  split at h
  · rename_i hs
    split at h
    · rename_i v' hp
      cases h
      obtain ⟨h1, h2⟩ := parse_say _ _ _ _ _ hp
      exact ⟨h1, by simpa using h2, hs⟩
    · cases h
  · cases h
end Wf
