/- Packed by pack.py: PlainV PlainAE PlainAF PlainAG PlainAH PlainY PlainAI PlainAJ PlainAK PlainAL PlainZ PlainAA. -/
import Derived.Test.YtidjpalnmnehmaaF1
namespace Wf
set_option linter.unusedVariables false
set_option linter.unusedSimpArgs false
theorem parse_yes (x : Sc) (n : Nat) (q : Bs) : parse x (n + 1) .flag (121 :: 101 :: 115 :: q) = some (.mk 102 [121,101,115] 0 [],q):=by simp only [parse]
theorem parse_no (x : Sc) (n : Nat) (q : Bs) : parse x (n + 1) .flag (110 :: 111 :: q) = some (.mk 102 [110,111] 0 [],q):=by simp only [parse]
theorem parse_flag_none (x : Sc) (n : Nat) {s : Bs} (h1 : ¬ [121,101,115] <+: s) (h2 : ¬ [110,111] <+: s) : parse x (n + 1) .flag s = none:=by
  simp only [parse]
  split
  · rename_i q;exact absurd ⟨q,rfl⟩ h1
  · rename_i q;exact absurd ⟨q,rfl⟩ h2
  · rfl
theorem parse_nil (x : Sc) (n : Nat) (k : K) : parse x n k [] = none:=by
  cases hp : parse x n k [] with
  | none => rfl
  | some y => have:=parse_lt (v:=y.1) (r:=y.2) hp;simp at this
theorem parse_zero (x : Sc) (k : K) (s : Bs) : parse x 0 k s = none:=rfl
def itemsL (p : Reads) (acc : List V) (s : Bs) : Option (List V × Bs):=match items p s with
  | some (l,q) => if acc.length + l.length ≤ 20 then some (acc ++ l,q) else none
  | none => none
theorem itemsL_step {p : Reads} (hp : ∀ s v r,p s = some (v,r) → r.length < s.length) (acc : List V) (s : Bs) : itemsL p acc s = match p s with
    | none => none
    | some (v,rest) =>
      match rest with
      | 44 :: r => itemsL p (acc ++ [v]) r
      | 93 :: r => if acc.length + 1 ≤ 20 then some (acc ++ [v],r) else none
      | _ => none:=by
  unfold itemsL
  rw [items_step hp]
  cases hq : p s with
  | none => rfl
  | some y =>
    obtain ⟨v,rest⟩:=y
    dsimp only
    split
    · rename_i l q hl
      split at hl
      · rename_i r
        rw [Option.map_eq_some_iff] at hl
        obtain ⟨z,hz,hz2⟩:=hl
        simp only [Prod.mk.injEq] at hz2
        obtain ⟨rfl,rfl⟩:=hz2
        simp only [hz]
        simp only [List.length_cons,List.length_append,List.length_nil,List.append_assoc,List.cons_append,List.nil_append]
        by_cases h20 : acc.length + (z.1.length + 1) ≤ 20
        · rw [if_pos h20,if_pos (by omega)]
        · rw [if_neg h20,if_neg (by omega)]
      · simp only [Option.some.injEq,Prod.mk.injEq] at hl
        obtain ⟨rfl,rfl⟩:=hl
        rfl
      · cases hl
    · rename_i hl
      split at hl
      · rename_i r
        rw [Option.map_eq_none_iff] at hl
        simp only [hl]
      · cases hl
      · rename_i h1 h2
        first
        | rfl
        | (split;exact (h1 _ rfl).elim;exact (h2 _ rfl).elim;rfl)
theorem itemsL_full {p : Reads} (hp : ∀ s v r,p s = some (v,r) → r.length < s.length) {acc : List V} (h : 20 ≤ acc.length) (s : Bs) : itemsL p acc s = none:=by
  unfold itemsL
  cases hi : items p s with
  | none => rfl
  | some y =>
    have:=List.length_pos_iff.2 (items_ne hp (l:=y.1) (q:=y.2) hi)
    dsimp only
    rw [if_neg (by omega)]
theorem itemsL_nil {p : Reads} (s : Bs) : itemsL p [] s = match items p s with
    | none => none
    | some (l,q) => if l.length ≤ 20 then some (l,q) else none:=by
  unfold itemsL
  cases items p s with
  | none => rfl
  | some y => simp
theorem parse_list_no (x : Sc) (n : Nat) (k : K) {s : Bs} (h : s.head? ≠ some 91) : parse x (n + 1) (.list k) s = none:=by
  rw [parse_list]
  split
  · simp at h
  · rfl
theorem parse_list_nil (x : Sc) (n : Nat) (k : K) (q : Bs) : parse x (n + 1) (.list k) (91 :: 93 :: q) = some (.mk 91 [] 0 [],q):=by simp only [parse_list]
theorem parse_list_items (x : Sc) (n : Nat) (k : K) {r : Bs} (h : r.head? ≠ some 93) : parse x (n + 1) (.list k) (91 :: r) = (itemsL (parse x n k) [] r).map fun y => (.mk 91 [] 0 y.1,y.2):=by
  simp only [parse_list]
  split
  · simp at h
  · rw [itemsL_nil]
    cases items (parse x n k) r with
    | none => rfl
    | some y => simp only [];split <;> rfl
theorem parse_opt_none (x : Sc) (n : Nat) (k : K) (q : Bs) : parse x (n + 1) (.opt k) (45 :: q) = some (.mk 63 [] 0 [],q):=by simp only [parse_opt]
theorem parse_opt_some (x : Sc) (n : Nat) (k : K) (r : Bs) : parse x (n + 1) (.opt k) (43 :: r) = (parse x n k r).map fun y => (.mk 63 [] 0 [y.1],y.2):=by simp only [parse_opt]
theorem parse_opt_no (x : Sc) (n : Nat) (k : K) {s : Bs} (h1 : s.head? ≠ some 45) (h2 : s.head? ≠ some 43) : parse x (n + 1) (.opt k) s = none:=by
  rw [parse_opt]
  split
  · simp at h1
  · simp at h2
  · rfl
def fldsL (x : Sc) (t : Ty) (p : K → Reads) (acc : List V) (last : Nat) (s : Bs) : Option (List V × Bs):=(flds x t p last s).map fun y => (acc ++ y.1,y.2)
theorem fldsL_step {x : Sc} {t : Ty} {p : K → Reads} (hp : ∀ k s v r,p k s = some (v,r) → r.length < s.length) (acc : List V) (last : Nat) (s : Bs) : fldsL x t p acc last s = match fieldTok t p s with
    | none => none
    | some (f,v,rest) =>
      if f.tag ≤ last ∨ v.print = standF x f then none else
      match rest with
      | 44 :: r => fldsL x t p (acc ++ [.mk 61 [] f.tag [v]]) f.tag r
      | 125 :: r => some (acc ++ [.mk 61 [] f.tag [v]],r)
      | _ => none:=by
  unfold fldsL
  rw [flds_step hp]
  cases hq : fieldTok t p s with
  | none => rfl
  | some y =>
    obtain ⟨f,v,rest⟩:=y
    dsimp only
    split
    · rfl
    · split
      · rw [Option.map_map]
        congr 1
        funext y
        simp
      · rfl
      · rename_i h1 h2
        first
        | rfl
        | (split;exact (h1 _ rfl).elim;exact (h2 _ rfl).elim;rfl)
theorem parse_rec_no (x : Sc) (n : Nat) {nm : Bs} {t : Ty} (h : x.find nm = some t) (h82 : t.sort = 82) {s : Bs} (hs : s.head? ≠ some 123) : parse x (n + 1) (.ref nm) s = none:=by
  rw [parse_ref x n nm t h,parseTy_rec _ _ _ _ h82]
  split
  · simp at hs
  · rfl
theorem parse_rec_nil (x : Sc) (n : Nat) {nm : Bs} {t : Ty} (h : x.find nm = some t) (h82 : t.sort = 82) (q : Bs) : parse x (n + 1) (.ref nm) (123 :: 125 :: q) = some (.mk 82 [] 0 [],q):=by
  simp only [parse_ref x n nm t h,parseTy_rec _ _ _ _ h82]
theorem parse_rec_flds (x : Sc) (n : Nat) {nm : Bs} {t : Ty} (h : x.find nm = some t) (h82 : t.sort = 82) {r : Bs} (hr : r.head? ≠ some 125) : parse x (n + 1) (.ref nm) (123 :: r) = (fldsL x t (fun k' s' => parse x n k' s') [] 0 r).map fun y => (.mk 82 [] 0 y.1,y.2):=by
  simp only [parse_ref x n nm t h,parseTy_rec _ _ _ _ h82]
  split
  · simp at hr
  · unfold fldsL
    rw [Option.map_map]
    congr 1
theorem parse_uni_no (x : Sc) (n : Nat) {nm : Bs} {t : Ty} (h : x.find nm = some t) (h85 : t.sort = 85) {s : Bs} (hs : s.head? ≠ some 60) : parse x (n + 1) (.ref nm) s = none:=by
  rw [parse_ref x n nm t h,parseTy_uni _ _ _ _ h85]
  split
  · simp at hs
  · rfl
theorem parse_uni_some (x : Sc) (n : Nat) {nm : Bs} {t : Ty} (h : x.find nm = some t) (h85 : t.sort = 85) {r q : Bs} {f : Fd} {v : V} (hf : fieldTok t (fun k' s' => parse x n k' s') r = some (f,v,62 :: q)) : parse x (n + 1) (.ref nm) (60 :: r) = some (.mk 85 [] f.tag [v],q):=by
  simp only [parse_ref x n nm t h,parseTy_uni _ _ _ _ h85,hf]
  rfl
theorem parse_uni_open (x : Sc) (n : Nat) {nm : Bs} {t : Ty} (h : x.find nm = some t) (h85 : t.sort = 85) {r q : Bs} {f : Fd} {v : V} (hf : fieldTok t (fun k' s' => parse x n k' s') r = some (f,v,q)) (hq : q.head? ≠ some 62) : parse x (n + 1) (.ref nm) (60 :: r) = none:=by
  simp only [parse_ref x n nm t h,parseTy_uni _ _ _ _ h85,hf]
  unfold closeU
  split
  · simp at hq
  · rfl
theorem parse_uni_bad (x : Sc) (n : Nat) {nm : Bs} {t : Ty} (h : x.find nm = some t) (h85 : t.sort = 85) {r : Bs} (hf : fieldTok t (fun k' s' => parse x n k' s') r = none) : parse x (n + 1) (.ref nm) (60 :: r) = none:=by
  simp only [parse_ref x n nm t h,parseTy_uni _ _ _ _ h85,hf]
theorem parse_enm_no (x : Sc) (n : Nat) {nm : Bs} {t : Ty} (h : x.find nm = some t) (h69 : t.sort = 69) {s : Bs} (hs : s.head? ≠ some 35) : parse x (n + 1) (.ref nm) s = none:=by
  rw [parse_ref x n nm t h,parseTy_enm _ _ _ _ h69]
  split
  · simp at hs
  · rfl
theorem parse_enm_num (x : Sc) (n : Nat) {nm : Bs} {t : Ty} (h : x.find nm = some t) (h69 : t.sort = 69) {r : Bs} (hr : numTok 200 r = none) : parse x (n + 1) (.ref nm) (35 :: r) = none:=by
  simp only [parse_ref x n nm t h,parseTy_enm _ _ _ _ h69,hr]
theorem parse_enm_tag (x : Sc) (n : Nat) {nm : Bs} {t : Ty} (h : x.find nm = some t) (h69 : t.sort = 69) {r q : Bs} {g : Nat} (hr : numTok 200 r = some (g,q)) : parse x (n + 1) (.ref nm) (35 :: r) = if (t.field g).isSome then some (.mk 69 [] g [],q) else none:=by
  simp only [parse_ref x n nm t h,parseTy_enm _ _ _ _ h69,hr]
theorem fieldTok_no (t : Ty) (p : K → Reads) {s : Bs} (h : numTok 200 s = none) : fieldTok t p s = none:=by
  unfold fieldTok
  rw [h]
theorem fieldTok_eq (t : Ty) (p : K → Reads) {s r : Bs} {g : Nat} (h : numTok 200 s = some (g,r)) (hr : r.head? ≠ some 61) : fieldTok t p s = none:=by
  unfold fieldTok
  rw [h]
  dsimp only
  split
  · simp at hr
  · rfl
theorem fieldTok_tag (t : Ty) (p : K → Reads) {s r : Bs} {g : Nat} (h : numTok 200 s = some (g,r)) (hf : t.field g = none) : fieldTok t p s = none:=by
  unfold fieldTok
  simp only [h,hf]
theorem fieldTok_some (t : Ty) (p : K → Reads) {s r : Bs} {g : Nat} {f : Fd} (h : numTok 200 s = some (g,61 :: r)) (hf : t.field g = some f) : fieldTok t p s = (p f.kind r).map fun y => (f,y.1,y.2):=by
  unfold fieldTok
  simp only [h,hf]
end Wf

namespace Wf
set_option linter.unusedVariables false
set_option linter.unusedSimpArgs false
inductive BOk : V → Prop
  | mk {what : UInt8} {text : Bs} {tag : Nat} {kids : List V} (h1 : what = 110 → ∃ m,m ≤ 999999 ∧ text = dec m) (h2 : what = 116 → text.length ≤ 12) (h3 : what = 63 → kids.length ≤ 1) (h4 : what = 85 ∨ what = 61 → ∃ u,kids = [u]) (ht : tag ≤ 999999) (hl : kids.length ≤ 1000)
      (h7 : what = 110 ∨ what = 116 ∨ what = 102 ∨ what = 91 ∨ what = 63 ∨ what = 69 ∨ what = 85 ∨ what = 61 ∨ what = 82) (hk : ∀ u,u ∈ kids → BOk u) : BOk (.mk what text tag kids)
theorem BOk.leaf {what : UInt8} {text : Bs} {tag : Nat} (h : what = 110 ∨ what = 116 ∨ what = 102 ∨ what = 91 ∨ what = 63 ∨ what = 69 ∨ what = 82) (h1 : what = 110 → ∃ m,m ≤ 999999 ∧ text = dec m) (h2 : what = 116 → text.length ≤ 12) (h3 : tag ≤ 999999) : BOk (.mk what text tag []) :=
  .mk h1 h2 (fun _ => Nat.zero_le _) (fun h' => by rcases h with rfl | rfl | rfl | rfl | rfl | rfl | rfl <;> rcases h' with h' | h' <;> exact absurd h' (by decide)) h3 (Nat.zero_le _) (by rcases h with h | h | h | h | h | h | h <;> simp [h]) (fun u hu => absurd hu List.not_mem_nil)
theorem typed_bok {x : Sc} : ∀ (n : Nat) (k : K) (v : V),Typed x n k v → BOk v:=by
  intro n
  induction n with
  | zero => intro k v h;exact h.elim
  | succ n ih =>
    intro k v h
    cases k with
    | num => obtain ⟨m,hm,rfl⟩:=h;exact .leaf (.inl rfl) (fun _ => ⟨m,hm,rfl⟩) (fun h => absurd h (by decide)) (Nat.zero_le _)
    | txt => obtain ⟨b,_,hb,rfl⟩:=h;exact .leaf (.inr (.inl rfl)) (fun h => absurd h (by decide)) (fun _ => hb) (Nat.zero_le _)
    | flag =>
      rcases h with rfl | rfl
      · exact .leaf (.inr (.inr (.inl rfl))) (fun h => absurd h (by decide)) (fun h => absurd h (by decide)) (Nat.zero_le _)
      · exact .leaf (.inr (.inr (.inl rfl))) (fun h => absurd h (by decide)) (fun h => absurd h (by decide)) (Nat.zero_le _)
    | list k' =>
      obtain ⟨l,hl,hk,rfl⟩:=h
      exact .mk (fun h => absurd h (by decide)) (fun h => absurd h (by decide)) (fun h => absurd h (by decide)) (fun h => by rcases h with h | h <;> exact absurd h (by decide)) (Nat.zero_le _) (by omega) (by simp) fun u hu => ih k' u (hk u hu)
    | opt k' =>
      rcases h with rfl | ⟨u,hu,rfl⟩
      · exact .leaf (.inr (.inr (.inr (.inr (.inl rfl))))) (fun h => absurd h (by decide)) (fun h => absurd h (by decide)) (Nat.zero_le _)
      · exact .mk (fun h => absurd h (by decide)) (fun h => absurd h (by decide)) (fun _ => Nat.le_refl _) (fun h => by rcases h with h | h <;> exact absurd h (by decide)) (Nat.zero_le _) (by simp) (by simp) fun w hw => by rw [List.mem_singleton.1 hw];exact ih k' u hu
    | ref nm =>
      obtain ⟨t,ht,h⟩:=h
      rcases h with ⟨_,f,_,hf,rfl⟩ | ⟨_,_,f,u,_,hf,hu,rfl⟩ | ⟨_,_,l,hs,hl,rfl⟩
      · exact .leaf (.inr (.inr (.inr (.inr (.inr (.inl rfl)))))) (fun h => absurd h (by decide)) (fun h => absurd h (by decide)) (by omega)
      · exact .mk (fun h => absurd h (by decide)) (fun h => absurd h (by decide)) (fun h => absurd h (by decide)) (fun _ => ⟨u,rfl⟩) (by omega) (by simp) (by simp) fun w hw => by rw [List.mem_singleton.1 hw];exact ih f.kind u hu
      · have hlen : l.length ≤ 1000:=by
          refine Nat.le_trans ?_ (show 200 ≤ 1000 by omega)
          have h1 : (l.map fun e => e.1.tag).length ≤ (List.range 201).length - 1:=by
            have hp : ∀ (m : List Nat) (lo : Nat),(∀ g,g ∈ m → lo < g ∧ g ≤ 200) → m.Pairwise (· < ·) → m.length ≤ 200 - lo:=by
              intro m
              induction m with
              | nil => intro lo _ _;exact Nat.zero_le _
              | cons g m ihm =>
                intro lo hg hpw
                obtain ⟨hp1,hp2⟩:=List.pairwise_cons.1 hpw
                have h1:=hg g List.mem_cons_self
                have h2:=ihm g (fun c hc => ⟨hp1 c hc,(hg c (List.mem_cons_of_mem _ hc)).2⟩) hp2
                rw [List.length_cons]
                omega
            have h2:=hp (l.map fun e => e.1.tag) 0 (fun g hg => by
              obtain ⟨e,he,rfl⟩:=List.mem_map.1 hg
              exact ⟨(hl e he).1,(hl e he).2.2.1⟩) hs
            simpa using h2
          simpa using h1
        refine .mk (fun h => absurd h (by decide)) (fun h => absurd h (by decide)) (fun h => absurd h (by decide)) (fun h => by rcases h with h | h <;> exact absurd h (by decide)) (Nat.zero_le _) (by rw [List.length_map];exact hlen) (by simp) fun u hu => ?_
        obtain ⟨e,he,rfl⟩:=List.mem_map.1 hu
        have h:=hl e he
        exact .mk (fun h => absurd h (by decide)) (fun h => absurd h (by decide)) (fun h => absurd h (by decide)) (fun _ => ⟨e.2,rfl⟩) (by omega) (by simp) (by simp) fun w hw => by rw [List.mem_singleton.1 hw];exact ih e.1.kind e.2 h.2.2.2.1
end Wf

namespace Wf
set_option linter.unusedVariables false
set_option linter.unusedSimpArgs false
theorem fieldB_lies (want : Nat) : ∀ (m last : Nat) (s part : Bs),fieldB want m last s = some part → part.length ≤ 999999 ∧ want ≤ 999999 ∧ last < want ∧ ∃ pre post,s = pre ++ (putN want ++ (putN part.length ++ (part ++ post))):=by
  intro m
  induction m with
  | zero => intro last s part h;simp [fieldB] at h
  | succ m ih =>
    intro last s part h
    simp only [fieldB] at h
    cases hn : getN s with
    | none => rw [hn] at h;cases h
    | some y =>
      obtain ⟨tag,rest⟩:=y
      rw [hn] at h
      dsimp only at h
      obtain ⟨ht,hs⟩:=getN_inv hn
      cases hk : takeN rest with
      | none => rw [hk] at h;cases h
      | some z =>
        obtain ⟨p,more⟩:=z
        rw [hk] at h
        dsimp only at h
        obtain ⟨hr,hp⟩:=takeN_some hk
        by_cases h1 : tag ≤ last
        · rw [if_pos h1] at h;cases h
        · rw [if_neg h1] at h
          by_cases h2 : tag = want
          · rw [if_pos h2] at h
            simp only [Option.some.injEq] at h
            subst h
            subst h2
            exact ⟨hp,ht,by omega,[],more,by rw [hs,hr];rfl⟩
          · rw [if_neg h2] at h
            obtain ⟨g1,g2,g3,pre,post,g4⟩:=ih tag more part h
            refine ⟨g1,g2,by omega,putN tag ++ (putN p.length ++ (p ++ pre)),post, ?_⟩
            rw [hs,hr,g4]
            simp only [List.append_assoc]
theorem lies_at {s pre mid post : Bs} (h : s = pre ++ (mid ++ post)) : pre.length + mid.length ≤ s.length ∧ (s.drop pre.length).take mid.length = mid:=by
  subst h
  refine ⟨by simp only [List.length_append];omega, ?_⟩
  rw [List.drop_left,List.take_left]
end Wf

namespace Wf
set_option linter.unusedVariables false
set_option linter.unusedSimpArgs false
end Wf

namespace Wf
set_option linter.unusedVariables false
set_option linter.unusedSimpArgs false
end Wf

namespace Wf
set_option linter.unusedVariables false
set_option linter.unusedSimpArgs false
def RecOf (x : Sc) (t : Ty) (n : Nat) (es : List (Fd × V)) : Prop :=
  Asc es ∧ ∀ e,e ∈ es → 0 < e.1.tag ∧ t.field e.1.tag = some e.1 ∧ e.1.tag ≤ 200 ∧ Typed x n e.1.kind e.2 ∧ e.2.print ≠ standF x e.1
abbrev recV (es : List (Fd × V)) : V:=.mk 82 [] 0 (es.map tagged)
theorem rec_typed {x : Sc} {n : Nat} {nm : Bs} {t : Ty} {es : List (Fd × V)} (h : RecOf x t n es) (ht : x.find nm = some t) (h82 : t.sort = 82) : Typed x (n + 1) (.ref nm) (recV es):=by
  simp only [Typed]
  exact ⟨t,ht, .inr (.inr ⟨by rw [h82];decide,by rw [h82];decide,es,h.1,h.2,rfl⟩)⟩
end Wf

namespace Wf
set_option linter.unusedVariables false
set_option linter.unusedSimpArgs false
def fieldAt (want : Nat) (s : Bs) : Option Bs:=fieldB want (s.length + 1) 0 s
end Wf

namespace Wf
set_option linter.unusedVariables false
set_option linter.unusedSimpArgs false
end Wf

namespace Wf
set_option linter.unusedVariables false
set_option linter.unusedSimpArgs false
theorem getN_len {s r : Bs} {n : Nat} (h : getN s = some (n,r)) : n ≤ 999999 ∧ r.length + 1 ≤ s.length ∧ (dec n).length + 2 + 5 * r.length ≤ 5 * s.length:=by
  obtain ⟨h1,rfl⟩:=getN_inv h
  refine ⟨h1, ?_, ?_⟩
  · have:=(putN_len n h1).1
    rw [List.length_append]
    omega
  · rw [List.length_append]
    by_cases h2 : n < 128
    · have:=dec_len n 2 (by have : (10:Nat)^3 = 1000:=rfl;omega)
      rw [putN_lt h2]
      simp only [List.length_cons,List.length_nil]
      omega
    · by_cases h3 : n < 16384
      · have:=dec_len n 4 (by have : (10:Nat)^5 = 100000:=rfl;omega)
        rw [putN_ge (by omega),putN_lt (by omega)]
        simp only [List.length_cons,List.length_nil]
        omega
      · have:=dec_len6 h1
        have:=(putN_len (n / 128 / 128) (by omega)).1
        rw [putN_ge (by omega),putN_ge (by omega)]
        simp only [List.length_cons]
        omega
theorem takeN_len {s b r : Bs} (h : takeN s = some (b,r)) : b.length + r.length + 1 ≤ s.length:=by
  obtain ⟨h1,h2⟩:=takeN_some h
  have:=(putN_len b.length h2).1
  rw [h1]
  simp only [List.length_append]
  omega
end Wf

namespace Wf
set_option linter.unusedVariables false
set_option linter.unusedSimpArgs false
def fieldW (want : Int) : Nat → Nat → Bs → Option Bs
  | 0,_,_ => none
  | m + 1,last,s =>
    match getN s with
    | none => none
    | some (tag,rest) =>
      match takeN rest with
      | none => none
      | some (part,more) => if tag ≤ last then none else if (tag : Int) = want then some part else fieldW want m tag more
theorem fieldW_nat (want : Nat) : ∀ (m last : Nat) (s : Bs),fieldW want m last s = fieldB want m last s:=by
  intro m
  induction m with
  | zero => intros;rfl
  | succ m ih =>
    intro last s
    unfold fieldW fieldB
    cases getN s with
    | none => rfl
    | some y =>
      obtain ⟨tag,rest⟩:=y
      dsimp only
      cases takeN rest with
      | none => rfl
      | some z =>
        obtain ⟨part,more⟩:=z
        dsimp only
        rw [ih]
        simp only [Int.natCast_inj]
def fieldF (s : Bs) (want : Int) : Option Bs:=if s.length ≤ 600 then fieldW want (s.length + 1) 0 s else none
theorem fieldF_nat {s : Bs} (h : s.length ≤ 600) (want : Nat) : fieldF s want = fieldAt want s:=by
  unfold fieldF fieldAt
  rw [if_pos h,fieldW_nat]
theorem fieldW_step {want : Int} {m last tag : Nat} {s rest : Bs} (h : getN s = some (tag,rest)) : fieldW want (m + 1) last s = match takeN rest with
    | none => none
    | some (part,more) => if tag ≤ last then none else if (tag : Int) = want then some part else fieldW want m tag more:=by
  conv => lhs;unfold fieldW
  rw [h]
theorem fieldW_none {want : Int} {m last : Nat} {s : Bs} (h : getN s = none) : fieldW want (m + 1) last s = none:=by
  unfold fieldW;rw [h]
end Wf

namespace Wf
set_option linter.unusedVariables false
set_option linter.unusedSimpArgs false
end Wf

namespace Wf
set_option linter.unusedVariables false
set_option linter.unusedSimpArgs false
def putL (o : Option (Fd × V)) (g : Int) : Bool → List (Fd × V) → List (Fd × V)
  | done,[] => if done then [] else o.toList
  | done,e :: es => (if done = false ∧ g ≤ (e.1.tag : Int) then o.toList else []) ++ (if (e.1.tag : Int) ≠ g then [e] else []) ++ putL o g (done || decide (g ≤ (e.1.tag : Int))) es
def psum (l : List Bs) : Nat:=(l.map fun a => a.length + 1).sum
theorem commas_psum : ∀ (l : List Bs),(commas l).length ≤ psum l ∧ psum l ≤ (commas l).length + 1:=by
  intro l
  induction l with
  | nil => exact ⟨Nat.le_refl _,Nat.le_succ _⟩
  | cons b l ih =>
    have h : psum (b :: l) = b.length + 1 + psum l:=by unfold psum;rw [List.map_cons,List.sum_cons]
    cases l with
    | nil => rw [h];simp [commas,psum]
    | cons c l =>
      rw [h]
      simp only [commas,List.length_append,List.length_cons]
      omega
end Wf
