/- Packed by pack.py: PlainG PlainH PlainI PlainJ PlainK PlainL PlainU PlainW PlainM PlainP PlainQ PlainX PlainR. -/
import Derived.Test.YtidjpalnmnehmaaF0
namespace Wf
set_option linter.unusedVariables false
set_option linter.unusedSimpArgs false
theorem dec_cons (n : Nat) : ∃ c t,dec n = c :: t ∧ isDig c = true:=by
  have h:=dec_all n
  cases hd : dec n with
  | nil => exact absurd hd (dec_ne n)
  | cons c t => rw [hd] at h;simp at h;exact ⟨c,t,rfl,h.1⟩
theorem isDig_ne {c : UInt8} (h : isDig c = true) : c ≠ 93 ∧ c ≠ 125 ∧ c ≠ 44 ∧ c ≠ 62:=by
  simp only [isDig,Bool.and_eq_true,decide_eq_true_eq] at h
  refine ⟨?_, ?_, ?_, ?_⟩ <;> (intro e;subst e;revert h;decide)
theorem print_tag (tag : Nat) (v : V) : (V.mk 61 [] tag [v]).print = dec tag ++ 61 :: v.print:=tagged_print (⟨tag,[], .num,[]⟩,v)
theorem print_list (l : List V) : (V.mk 91 [] 0 l).print = 91 :: (commas (l.map V.print) ++ [93]):=by simp [V.print,form,V.prints_map]
theorem print_rec (l : List V) : (V.mk 82 [] 0 l).print = 123 :: (commas (l.map V.print) ++ [125]):=by simp [V.print,form,V.prints_map]
theorem print_none : (V.mk 63 [] 0 []).print = [45]:=by simp [V.print,form,V.prints_map]
theorem print_some (v : V) : (V.mk 63 [] 0 [v]).print = 43 :: v.print:=by simp [V.print,form,V.prints_map,commas]
theorem print_uni (tag : Nat) (v : V) : (V.mk 85 [] tag [v]).print = 60 :: (dec tag ++ 61 :: (v.print ++ [62])):=by simp [V.print,form,V.prints_map,commas]
theorem print_enm (tag : Nat) : (V.mk 69 [] tag []).print = 35 :: dec tag:=by simp [V.print,form]
theorem print_txt (b : Bs) : (V.mk 116 b 0 []).print = 39 :: (b ++ [39]):=by simp [V.print,form]
theorem print_num (b : Bs) : (V.mk 110 b 0 []).print = b:=by simp [V.print,form]
theorem print_flag (b : Bs) : (V.mk 102 b 0 []).print = b:=by simp [V.print,form]
theorem print_head {x : Sc} {n : Nat} {k : K} {v : V} (h : Typed x n k v) : ∃ c t,v.print = c :: t ∧ c ≠ 93 ∧ c ≠ 125:=by
  cases n with
  | zero => simp [Typed] at h
  | succ n =>
    cases k with
    | num =>
      obtain ⟨m,_,rfl⟩:=h
      obtain ⟨c,t,hd,hc⟩:=dec_cons m
      exact ⟨c,t,by rw [print_num,hd],(isDig_ne hc).1,(isDig_ne hc).2.1⟩
    | txt => obtain ⟨b,_,_,rfl⟩:=h;exact ⟨_,_,print_txt b,by decide,by decide⟩
    | flag =>
      rcases h with rfl | rfl
      · exact ⟨_,_,print_flag _,by decide,by decide⟩
      · exact ⟨_,_,print_flag _,by decide,by decide⟩
    | list k => obtain ⟨l,_,_,rfl⟩:=h;exact ⟨_,_,print_list l,by decide,by decide⟩
    | opt k =>
      rcases h with rfl | ⟨u,_,rfl⟩
      · exact ⟨_,_,print_none,by decide,by decide⟩
      · exact ⟨_,_,print_some u,by decide,by decide⟩
    | ref nm =>
      obtain ⟨t,_,h⟩:=h
      rcases h with ⟨_,f,_,_,rfl⟩ | ⟨_,_,f,u,_,_,_,rfl⟩ | ⟨_,_,l,_,_,rfl⟩
      · exact ⟨_,_,print_enm _,by decide,by decide⟩
      · exact ⟨_,_,print_uni _ _,by decide,by decide⟩
      · exact ⟨_,_,print_rec _,by decide,by decide⟩
theorem isTxt_39 : isTxt 39 = false:=by decide
theorem closeU_some {g : Nat} {u v : V} {s r : Bs} (h : closeU g u s = some (v,r)) : ∃ q,s = 62 :: q ∧ v = .mk 85 [] g [u] ∧ r = q:=by
  unfold closeU at h
  split at h
  · rename_i q
    simp only [Option.some.injEq,Prod.mk.injEq] at h
    exact ⟨q,rfl,h.1.symm,h.2.symm⟩
  · simp at h
theorem parseTy_say {x : Sc} {n : Nat} {t : Ty} {s r : Bs} {v : V} {nm : Bs} (ht : x.find nm = some t)
    (ih : ∀ k s v r,parse x n k s = some (v,r) → Typed x n k v ∧ s = v.print ++ r)
    (h : parseTy x (fun k' s' => parse x n k' s') t s = some (v,r)) : Typed x (n + 1) (.ref nm) v ∧ s = v.print ++ r:=by
  have hp : ∀ (f : Fd) (s : Bs) (v : V) (r : Bs),(fun k' s' => parse x n k' s') f.kind s = some (v,r) → Typed x n f.kind v ∧ s = v.print ++ r:=fun f s v r hh => ih _ _ _ _ hh
  unfold parseTy at h
  by_cases h1 : t.sort = 69
  · rw [if_pos h1] at h
    cases s with
    | nil => simp at h
    | cons c q =>
      by_cases hc : c = 35
      · subst hc
        simp only at h
        cases hn : numTok 200 q with
        | none => rw [hn] at h;simp at h
        | some y =>
          obtain ⟨tag,rest⟩:=y
          rw [hn] at h
          simp only at h
          split at h
          · rename_i hs
            simp only [Option.some.injEq,Prod.mk.injEq] at h
            obtain ⟨rfl,rfl⟩:=h
            obtain ⟨f,hf⟩:=Option.isSome_iff_exists.1 hs
            have e:=field_tag hf
            subst e
            obtain ⟨g1,g2,_,_⟩:=numTok_some hn
            exact ⟨⟨t,ht, .inl ⟨h1,f,hf,g2,rfl⟩⟩,by rw [print_enm,g1];rfl⟩
          · simp at h
      · split at h
        · rename_i heq;simp only [List.cons.injEq] at heq;exact absurd heq.1 hc
        · simp at h
  · rw [if_neg h1] at h
    by_cases h2 : t.sort = 85
    · rw [if_pos h2] at h
      cases s with
      | nil => simp at h
      | cons c q =>
        by_cases hc : c = 60
        · subst hc
          simp only at h
          cases hf : fieldTok t (fun k' s' => parse x n k' s') q with
          | none => rw [hf] at h;simp at h
          | some y =>
            obtain ⟨f,u,rest⟩:=y
            rw [hf] at h
            obtain ⟨a1,a2,a3,a4⟩:=fieldTok_say hp hf
            obtain ⟨q',hq,rfl,rfl⟩:=closeU_some h
            subst hq
            exact ⟨⟨t,ht, .inr (.inl ⟨h1,h2,f,u,a1,a2,a3,rfl⟩)⟩,by rw [print_uni,a4];simp⟩
        · split at h
          · rename_i heq;simp only [List.cons.injEq] at heq;exact absurd heq.1 hc
          · simp at h
    · rw [if_neg h2] at h
      cases s with
      | nil => simp at h
      | cons c q =>
        by_cases hc : c = 123
        · subst hc
          simp only at h
          have fin : ∀ y : List V × Bs,fieldsW x t (fun k' s' => parse x n k' s') q.length 0 q = some y → v = .mk 82 [] 0 y.1 → r = y.2 → Typed x (n + 1) (.ref nm) v ∧ 123 :: q = v.print ++ r:=by
            rintro ⟨l,r'⟩ hy rfl rfl
            obtain ⟨es,_,rfl,b3,b4,b5⟩:=fieldsW_say hp _ _ _ _ _ hy
            obtain ⟨b6,b7⟩:=List.pairwise_cons.1 b3
            refine ⟨⟨t,ht, .inr (.inr ⟨h1,h2,es,b7, ?_,rfl⟩)⟩,by rw [print_rec,b5];simp⟩
            intro e he
            obtain ⟨c1,c2,c3,c4⟩:=b4 e he
            exact ⟨b6 _ (List.mem_map.2 ⟨e,he,rfl⟩),c1,c2,c3,c4⟩
          cases q with
          | nil => simp [fieldsW] at h
          | cons d q' =>
            by_cases hd : d = 125
            · subst hd
              simp only [Option.some.injEq,Prod.mk.injEq] at h
              obtain ⟨rfl,rfl⟩:=h
              exact ⟨⟨t,ht, .inr (.inr ⟨h1,h2,[],by simp,by simp,rfl⟩)⟩,by rw [print_rec];simp [commas]⟩
            · split at h
              · rename_i heq;simp only [List.cons.injEq] at heq;exact absurd heq.1 hd
              · cases hy : fieldsW x t (fun k' s' => parse x n k' s') (d :: q').length 0 (d :: q') with
                | none => rw [hy] at h;simp at h
                | some y =>
                  rw [hy] at h
                  simp only [Option.map_some,Option.some.injEq,Prod.mk.injEq] at h
                  exact fin y hy h.1.symm h.2.symm
        · split at h
          · rename_i heq;simp only [List.cons.injEq] at heq;exact absurd heq.1 hc
          · simp at h
theorem parse_say {x : Sc} : ∀ (n : Nat) (k : K) (s : Bs) (v : V) (r : Bs),parse x n k s = some (v,r) → Typed x n k v ∧ s = v.print ++ r:=by
  intro n
  induction n with
  | zero => intro k s v r h;simp [parse] at h
  | succ n ih =>
    intro k s v r h
    cases k with
    | num =>
      simp only [parse] at h
      cases hn : numTok 999999 s with
      | none => rw [hn] at h;simp at h
      | some y =>
        rw [hn] at h
        simp only [Option.map_some,Option.some.injEq,Prod.mk.injEq] at h
        obtain ⟨rfl,rfl⟩:=h
        obtain ⟨g1,g2,_,_⟩:=numTok_some (n:=y.1) (r:=y.2) hn
        exact ⟨⟨y.1,g2,rfl⟩,by rw [print_num];exact g1⟩
    | txt =>
      simp only [parse] at h
      split at h
      · rename_i q
        split at h
        · rename_i q' hq
          split at h
          · rename_i hl
            simp only [Option.some.injEq,Prod.mk.injEq] at h
            obtain ⟨rfl,rfl⟩:=h
            refine ⟨⟨_, ?_,hl,rfl⟩, ?_⟩
            · exact List.all_takeWhile
            · rw [print_txt]
              have:=List.takeWhile_append_dropWhile (p:=isTxt) (l:=q)
              rw [hq] at this
              simp only [List.cons_append,List.append_assoc,List.nil_append,this]
          · simp at h
        · simp at h
      · simp at h
    | flag =>
      simp only [parse] at h
      split at h
      · simp only [Option.some.injEq,Prod.mk.injEq] at h
        obtain ⟨rfl,rfl⟩:=h
        exact ⟨.inl rfl,by rw [print_flag];rfl⟩
      · simp only [Option.some.injEq,Prod.mk.injEq] at h
        obtain ⟨rfl,rfl⟩:=h
        exact ⟨.inr rfl,by rw [print_flag];rfl⟩
      · simp at h
    | list k =>
      simp only [parse] at h
      split at h
      · rename_i q
        split at h
        · simp only [Option.some.injEq,Prod.mk.injEq] at h
          obtain ⟨rfl,rfl⟩:=h
          exact ⟨⟨[],by simp,by simp,rfl⟩,by rw [print_list];simp [commas]⟩
        · cases hi : itemsW (parse x n k) q.length q with
          | none => rw [hi] at h;simp at h
          | some y =>
            obtain ⟨l,q'⟩:=y
            rw [hi] at h
            simp only at h
            split at h
            · rename_i hl
              simp only [Option.some.injEq,Prod.mk.injEq] at h
              obtain ⟨rfl,rfl⟩:=h
              obtain ⟨_,b2,b3⟩:=itemsW_say (Q:=Typed x n k) (fun s v r hh => ih _ _ _ _ hh) _ _ _ _ hi
              exact ⟨⟨l,hl,b2,rfl⟩,by rw [print_list,b3];simp⟩
            · simp at h
      · simp at h
    | opt k =>
      simp only [parse] at h
      split at h
      · simp only [Option.some.injEq,Prod.mk.injEq] at h
        obtain ⟨rfl,rfl⟩:=h
        exact ⟨.inl rfl,by rw [print_none];rfl⟩
      · rename_i q
        cases hq : parse x n k q with
        | none => rw [hq] at h;simp at h
        | some y =>
          obtain ⟨u,q'⟩:=y
          rw [hq] at h
          simp only [Option.map_some,Option.some.injEq,Prod.mk.injEq] at h
          obtain ⟨rfl,rfl⟩:=h
          obtain ⟨b1,b2⟩:=ih _ _ _ _ hq
          exact ⟨.inr ⟨u,b1,rfl⟩,by rw [print_some,b2];rfl⟩
      · simp at h
    | ref nm =>
      simp only [parse] at h
      cases ht : x.find nm with
      | none => rw [ht] at h;simp at h
      | some t =>
        rw [ht] at h
        exact parseTy_say ht ih h
end Wf

namespace Wf
set_option linter.unusedVariables false
set_option linter.unusedSimpArgs false
end Wf

namespace Wf
set_option linter.unusedVariables false
set_option linter.unusedSimpArgs false
def formB (what : UInt8) (text : Bs) (tag : Nat) (parts : List Bs) : Bs :=
  if what = 110 then putN (val text)
  else if what = 116 then putN text.length ++ text
  else if what = 102 then (if text = [121,101,115] then [1] else [0])
  else if what = 91 then putN parts.length ++ parts.flatten
  else if what = 63 then (if parts = [] then [0] else 1 :: parts.flatten)
  else if what = 69 then putN tag
  else if what = 85 ∨ what = 61 then putN tag ++ (putN parts.flatten.length ++ parts.flatten)
  else parts.flatten ++ [0]
mutual
def V.bytes : V → Bs
  | .mk what text tag kids => formB what text tag (V.bytess kids)
def V.bytess : List V → List Bs
  | [] => []
  | v :: l => v.bytes :: V.bytess l
end
theorem V.bytess_map (l : List V) : V.bytess l = l.map V.bytes:=by
  induction l with
  | nil => rfl
  | cons v l ih => simp [V.bytess,ih]
def takeN (s : Bs) : Option (Bs × Bs) :=
  match getN s with
  | none => none
  | some (n,r) => if n ≤ r.length then some (r.take n,r.drop n) else none
def whole (p : Reads) (s : Bs) : Option V :=
  match p s with
  | none => none
  | some (v,r) => if r = [] then some v else none
theorem takeN_some {s b r : Bs} (h : takeN s = some (b,r)) : s = putN b.length ++ (b ++ r) ∧ b.length ≤ 999999:=by
  unfold takeN at h
  cases hn : getN s with
  | none => rw [hn] at h;simp at h
  | some y =>
    obtain ⟨n,q⟩:=y
    rw [hn] at h
    simp only at h
    split at h
    · rename_i hl
      simp only [Option.some.injEq,Prod.mk.injEq] at h
      obtain ⟨rfl,rfl⟩:=h
      obtain ⟨h1,h2⟩:=getN_inv hn
      have : (q.take n).length = n:=by simp;omega
      rw [this,List.take_append_drop]
      exact ⟨h2,h1⟩
    · simp at h
end Wf

namespace Wf
set_option linter.unusedVariables false
set_option linter.unusedSimpArgs false
theorem putN_len_dec {n : Nat} (h : n ≤ 999999) : (putN n).length ≤ (dec n).length:=by
  by_cases h1 : n < 128
  · rw [putN_lt h1];have:=List.length_pos_iff.2 (dec_ne n);simp;omega
  · by_cases h2 : n < 16384
    · rw [putN_ge (by omega),putN_lt (by omega)]
      have:=dec_len_lo n 2 (by omega)
      simp;omega
    · rw [putN_ge (by omega),putN_ge (by omega),putN_lt (by omega)]
      have:=dec_len_lo n 4 (by omega)
      simp;omega
theorem putN_len2 {n : Nat} (h : n < 16384) : (putN n).length ≤ 2:=by
  by_cases h1 : n < 128
  · rw [putN_lt h1];simp
  · rw [putN_ge (by omega),putN_lt (by omega)];simp
theorem commas_length (l : List Bs) (h : l ≠ []) : (commas l).length + 1 = l.flatten.length + l.length:=by
  induction l with
  | nil => exact absurd rfl h
  | cons a l ih =>
    by_cases hl : l = []
    · subst hl;simp [commas]
    · rw [commas_cons _ hl]
      have:=ih hl
      simp only [List.length_append,List.length_cons,List.flatten_cons];omega
theorem commas_length_le (l : List Bs) : l.flatten.length ≤ (commas l).length:=by
  by_cases hl : l = []
  · subst hl;simp
  · have:=commas_length l hl
    have:=List.length_pos_iff.2 hl
    omega
theorem commas_mem {l : List Bs} {a : Bs} (h : a ∈ l) : a.length ≤ (commas l).length:=by
  have h1:=commas_length_le l
  have : a.length ≤ l.flatten.length:=by
    clear h1
    induction l with
    | nil => simp at h
    | cons b l ih =>
      rcases List.mem_cons.1 h with rfl | h
      · simp
      · have:=ih h
        simp only [List.flatten_cons,List.length_append];omega
  omega
theorem bytes_tag (tag : Nat) (v : V) : (V.mk 61 [] tag [v]).bytes = putN tag ++ (putN v.bytes.length ++ v.bytes):=by simp [V.bytes,V.bytess,formB]
theorem bytes_list (l : List V) : (V.mk 91 [] 0 l).bytes = putN l.length ++ (l.map V.bytes).flatten:=by simp [V.bytes,formB,V.bytess_map]
theorem bytes_rec (l : List V) : (V.mk 82 [] 0 l).bytes = (l.map V.bytes).flatten ++ [0]:=by simp [V.bytes,formB,V.bytess_map]
theorem bytes_none : (V.mk 63 [] 0 []).bytes = [0]:=by simp [V.bytes,formB,V.bytess_map]
theorem bytes_some (v : V) : (V.mk 63 [] 0 [v]).bytes = 1 :: v.bytes:=by simp [V.bytes,formB,V.bytess_map]
theorem bytes_uni (tag : Nat) (v : V) : (V.mk 85 [] tag [v]).bytes = putN tag ++ (putN v.bytes.length ++ v.bytes):=by simp [V.bytes,V.bytess,formB]
theorem bytes_enm (tag : Nat) : (V.mk 69 [] tag []).bytes = putN tag:=by simp [V.bytes,formB]
theorem bytes_txt (b : Bs) : (V.mk 116 b 0 []).bytes = putN b.length ++ b:=by simp [V.bytes,formB]
theorem bytes_num (m : Nat) : (V.mk 110 (dec m) 0 []).bytes = putN m:=by simp [V.bytes,formB,val_dec]
theorem bytes_yes : (V.mk 102 [121,101,115] 0 []).bytes = [1]:=by simp [V.bytes,formB]
theorem bytes_no : (V.mk 102 [110,111] 0 []).bytes = [0]:=by simp [V.bytes,formB]
theorem flat_le {l : List V} (h : ∀ u,u ∈ l → u.bytes.length ≤ u.print.length) : (l.map V.bytes).flatten.length ≤ (l.map V.print).flatten.length:=by
  induction l with
  | nil => simp
  | cons v l ih =>
    have h1:=h v (by simp)
    have h2:=ih (fun u hu => h u (by simp [hu]))
    simp only [List.map_cons,List.flatten_cons,List.length_append];omega
theorem flat_le1 {l : List V} (h : ∀ u,u ∈ l → u.bytes.length ≤ u.print.length + 1) : (l.map V.bytes).flatten.length ≤ (l.map V.print).flatten.length + l.length:=by
  induction l with
  | nil => simp
  | cons v l ih =>
    have h1:=h v (by simp)
    have h2:=ih (fun u hu => h u (by simp [hu]))
    simp only [List.map_cons,List.flatten_cons,List.length_append,List.length_cons];omega
theorem tagged_len {g : Nat} {v : V} (hg : g ≤ 200) (h : v.bytes.length ≤ v.print.length) (hs : v.print.length < 16384) :
    (V.mk 61 [] g [v]).bytes.length ≤ (V.mk 61 [] g [v]).print.length + 1:=by
  rw [bytes_tag,print_tag]
  have:=putN_len_dec (show g ≤ 999999 by omega)
  have:=putN_len2 (show v.bytes.length < 16384 by omega)
  simp only [List.length_append,List.length_cons];omega
theorem bytes_len {x : Sc} : ∀ (n : Nat) (k : K) (v : V),Typed x n k v → v.print.length < 16384 → v.bytes.length ≤ v.print.length:=by
  intro n
  induction n with
  | zero => intro k v h;simp [Typed] at h
  | succ n ih =>
    intro k v h hs
    cases k with
    | num => obtain ⟨m,hm,rfl⟩:=h;rw [bytes_num,print_num];exact putN_len_dec hm
    | txt =>
      obtain ⟨b,_,hl,rfl⟩:=h
      rw [bytes_txt,print_txt,putN_lt (by omega)];simp
    | flag =>
      rcases h with rfl | rfl
      · rw [bytes_yes,print_flag];simp
      · rw [bytes_no,print_flag];simp
    | list k =>
      obtain ⟨l,hl,hu,rfl⟩:=h
      rw [print_list] at hs ⊢
      rw [bytes_list,putN_lt (by omega)]
      have hm : ∀ u,u ∈ l → u.bytes.length ≤ u.print.length:=fun u hx => by
        refine ih k u (hu u hx) ?_
        have:=commas_mem (l:=l.map V.print) (List.mem_map.2 ⟨u,hx,rfl⟩)
        simp only [List.length_cons,List.length_append] at hs;omega
      have h1:=flat_le hm
      have h2:=commas_length_le (l.map V.print)
      simp only [List.length_append,List.length_cons,List.length_nil] at h1 h2 ⊢;omega
    | opt k =>
      rcases h with rfl | ⟨u,hu,rfl⟩
      · rw [bytes_none,print_none];simp
      · rw [print_some] at hs ⊢
        rw [bytes_some]
        simp only [List.length_cons] at hs ⊢
        have:=ih k u hu (by omega)
        omega
    | ref nm =>
      obtain ⟨t,ht,h⟩:=h
      rcases h with ⟨h1,f,hf,h2,rfl⟩ | ⟨h1,h2,f,u,hf,h3,hu,rfl⟩ | ⟨h1,h2,l,hpw,hl,rfl⟩
      · rw [bytes_enm,print_enm]
        have:=putN_len_dec (show f.tag ≤ 999999 by omega)
        simp;omega
      · rw [print_uni] at hs ⊢
        simp only [List.length_cons,List.length_append,List.length_nil] at hs
        have:=ih f.kind u hu (by omega)
        have h4:=putN_len_dec (show f.tag ≤ 999999 by omega)
        have h5:=putN_len2 (show u.bytes.length < 16384 by omega)
        rw [bytes_uni]
        simp only [List.length_cons,List.length_append,List.length_nil];omega
      · rw [print_rec] at hs ⊢
        rw [bytes_rec]
        have hm : ∀ u,u ∈ (l.map fun e => V.mk 61 [] e.1.tag [e.2]) → u.bytes.length ≤ u.print.length + 1:=by
          intro u hx
          obtain ⟨e,he,rfl⟩:=List.mem_map.1 hx
          obtain ⟨_,c2,c3,c4,_⟩:=hl e he
          have hsz : e.2.print.length < 16384:=by
            have:=commas_mem (l:=(l.map fun e => V.mk 61 [] e.1.tag [e.2]).map V.print) (List.mem_map.2 ⟨_,hx,rfl⟩)
            rw [print_tag] at this
            simp only [List.length_cons,List.length_append] at hs this;omega
          exact tagged_len c3 (ih _ _ c4 hsz) hsz
        have h1':=flat_le1 hm
        by_cases hn : l = []
        · subst hn;simp
        · have:=commas_length ((l.map fun e => V.mk 61 [] e.1.tag [e.2]).map V.print) (by simpa using hn)
          simp only [List.length_append,List.length_cons,List.length_nil,List.length_map] at h1' this ⊢;omega
end Wf

namespace Wf
set_option linter.unusedVariables false
set_option linter.unusedSimpArgs false
theorem typed_mono {x : Sc} : ∀ (n : Nat) (k : K) (v : V),Typed x n k v → ∀ m,n ≤ m → Typed x m k v:=by
  intro n
  induction n with
  | zero => intro k v h;simp [Typed] at h
  | succ n ih =>
    intro k v h m hm
    cases m with
    | zero => omega
    | succ m =>
      have hm' : n ≤ m:=by omega
      cases k with
      | num => exact h
      | txt => exact h
      | flag => exact h
      | list k =>
        obtain ⟨l,hl,hu,rfl⟩:=h
        exact ⟨l,hl,fun u hx => ih k u (hu u hx) m hm',rfl⟩
      | opt k =>
        rcases h with rfl | ⟨u,hu,rfl⟩
        · exact .inl rfl
        · exact .inr ⟨u,ih k u hu m hm',rfl⟩
      | ref nm =>
        obtain ⟨t,ht,h⟩:=h
        refine ⟨t,ht, ?_⟩
        rcases h with h | ⟨h1,h2,f,u,hf,h3,hu,rfl⟩ | ⟨h1,h2,l,hpw,hl,rfl⟩
        · exact .inl h
        · exact .inr (.inl ⟨h1,h2,f,u,hf,h3,ih f.kind u hu m hm',rfl⟩)
        · refine .inr (.inr ⟨h1,h2,l,hpw,fun e he => ?_,rfl⟩)
          obtain ⟨a,b,c,d,e5⟩:=hl e he
          exact ⟨a,b,c,ih _ _ d m hm',e5⟩
end Wf

namespace Wf
set_option linter.unusedVariables false
set_option linter.unusedSimpArgs false
def fieldB (want : Nat) : Nat → Nat → Bs → Option Bs
  | 0,_,_ => none
  | m + 1,last,s =>
    match getN s with
    | none => none
    | some (tag,rest) =>
      match takeN rest with
      | none => none
      | some (part,more) => if tag ≤ last then none else if tag = want then some part else fieldB want m tag more
theorem takeN_nil : takeN [] = none:=by simp [takeN,getN]
end Wf

namespace Wf
set_option linter.unusedVariables false
set_option linter.unusedSimpArgs false
def nxt (x : Sc) (t : Ty) : Option Ty :=
  if t.sort ≠ 85 then none else
  match t.fields with
  | [] => none
  | f :: _ =>
    match f.kind with
    | .ref nm => x.find nm
    | _ => none
theorem endsIn_succ (x : Sc) (n : Nat) (t : Ty) : endsIn x (n + 1) t = (match nxt x t with | none => true | some u => endsIn x n u):=by
  simp only [endsIn,nxt]
  split
  · rfl
  · cases t.fields with
    | nil => rfl
    | cons f fs =>
      simp only
      cases f.kind with
      | ref nm => simp only;cases x.find nm <;> rfl
      | num => rfl
      | txt => rfl
      | flag => rfl
      | list k => rfl
      | opt k => rfl
theorem endsIn_mono {x : Sc} : ∀ (n : Nat) (t : Ty),endsIn x n t = true → ∀ m,n ≤ m → endsIn x m t = true:=by
  intro n
  induction n with
  | zero => intro t h;simp [endsIn] at h
  | succ n ih =>
    intro t h m hm
    cases m with
    | zero => omega
    | succ m =>
      rw [endsIn_succ] at h ⊢
      cases hn : nxt x t with
      | none => rfl
      | some u => rw [hn] at h;exact ih u h m (by omega)
def walked (x : Sc) : Nat → Ty → List Ty
  | 0,_ => []
  | n + 1,t => t :: (match nxt x t with | none => [] | some u => walked x n u)
theorem walked_len {x : Sc} : ∀ (n : Nat) (t : Ty),endsIn x n t = true → endsIn x (walked x n t).length t = true ∧ (∀ m,endsIn x m t = true → (walked x n t).length ≤ m):=by
  intro n
  induction n with
  | zero => intro t h;simp [endsIn] at h
  | succ n ih =>
    intro t h
    rw [endsIn_succ] at h
    simp only [walked]
    cases hn : nxt x t with
    | none =>
      refine ⟨by simp [endsIn_succ,hn],fun m hm => ?_⟩
      cases m with
      | zero => simp [endsIn] at hm
      | succ m => simp
    | some u =>
      rw [hn] at h
      obtain ⟨h1,h2⟩:=ih u h
      simp only [List.length_cons]
      refine ⟨by rw [endsIn_succ,hn];exact h1,fun m hm => ?_⟩
      cases m with
      | zero => simp [endsIn] at hm
      | succ m =>
        rw [endsIn_succ,hn] at hm
        have:=h2 m hm
        omega
theorem walked_mem {x : Sc} : ∀ (n : Nat) (t : Ty),endsIn x n t = true → ∀ v,v ∈ walked x n t → endsIn x (walked x n t).length v = true ∧ (v ≠ t → endsIn x ((walked x n t).length - 1) v = true):=by
  intro n
  induction n with
  | zero => intro t h;simp [endsIn] at h
  | succ n ih =>
    intro t h v hv
    have hl:=(walked_len (n + 1) t h).1
    rw [endsIn_succ] at h
    simp only [walked] at hv hl ⊢
    cases hn : nxt x t with
    | none =>
      rw [hn] at hv
      simp only [List.mem_singleton] at hv
      subst hv
      rw [hn] at hl
      exact ⟨hl,fun e => absurd rfl e⟩
    | some u =>
      rw [hn] at hv h hl
      simp only at h
      rcases List.mem_cons.1 hv with rfl | hv
      · exact ⟨hl,fun e => absurd rfl e⟩
      · obtain ⟨a1,_⟩:=ih u h v hv
        simp only [List.length_cons,Nat.add_sub_cancel]
        exact ⟨endsIn_mono _ _ a1 _ (by omega),fun _ => a1⟩
theorem walked_nodup {x : Sc} : ∀ (n : Nat) (t : Ty),endsIn x n t = true → (walked x n t).Nodup:=by
  intro n
  induction n with
  | zero => intro t h;simp [endsIn] at h
  | succ n ih =>
    intro t h
    have h0:=h
    rw [endsIn_succ] at h
    simp only [walked]
    cases hn : nxt x t with
    | none => simp
    | some u =>
      rw [hn] at h
      simp only at h
      refine List.nodup_cons.2 ⟨fun hm => ?_,ih u h⟩
      obtain ⟨a1,_⟩:=walked_mem n u h t hm
      have:=(walked_len (n + 1) t h0).2 _ a1
      simp only [walked,hn,List.length_cons] at this
      omega
theorem nxt_mem {x : Sc} {t u : Ty} (h : nxt x t = some u) : u ∈ x:=by
  unfold nxt at h
  split at h
  · simp at h
  · split at h
    · simp at h
    · split at h
      · exact (find_mem h).1
      · simp at h
theorem walked_sub {x : Sc} : ∀ (n : Nat) (t : Ty),t ∈ x → ∀ v,v ∈ walked x n t → v ∈ x:=by
  intro n
  induction n with
  | zero => intro t _ v h;simp [walked] at h
  | succ n ih =>
    intro t ht v hv
    simp only [walked] at hv
    rcases List.mem_cons.1 hv with rfl | hv
    · exact ht
    · cases hn : nxt x t with
      | none => rw [hn] at hv;simp at hv
      | some u => rw [hn] at hv;exact ih u (nxt_mem hn) v hv
theorem nodup_sub_len {α : Type} [DecidableEq α] : ∀ (l x : List α),l.Nodup → (∀ a,a ∈ l → a ∈ x) → l.length ≤ x.length:=by
  intro l
  induction l with
  | nil => intro x _ _;simp
  | cons a l ih =>
    intro x hn hs
    obtain ⟨h1,h2⟩:=List.nodup_cons.1 hn
    have ha:=hs a (by simp)
    have:=ih (x.erase a) h2 (fun b hb => (List.mem_erase_of_ne (fun e => h1 (by rw [← e];exact hb))).2 (hs b (by simp [hb])))
    rw [List.length_erase_of_mem ha] at this
    have:=List.length_pos_of_mem ha
    simp only [List.length_cons];omega
theorem endsIn_enough {x : Sc} {t : Ty} (ht : t ∈ x) {n : Nat} (h : endsIn x n t = true) : endsIn x x.length t = true:=by
  have h1:=(walked_len n t h).1
  have h2:=nodup_sub_len _ x (walked_nodup n t h) (walked_sub n t ht)
  exact endsIn_mono _ _ h1 _ h2
theorem stands_nxt {x : Sc} (hx : ∀ t,t ∈ x → TyOk t) : ∀ (n m : Nat) (t : Ty) (nm : Bs),x.find nm = some t → endsIn x n t = true → n ≤ m → stands x m (.ref nm) = stands x n (.ref nm):=by
  intro n
  induction n with
  | zero => intro m t nm _ h;simp [endsIn] at h
  | succ n ih =>
    intro m t nm ht h hm
    cases m with
    | zero => omega
    | succ m =>
      simp only [stands,ht]
      split
      · rfl
      · rename_i h82
        split
        · rfl
        · rename_i f fs hf
          split
          · rfl
          · rename_i h69
            by_cases h85 : t.sort = 85
            · rw [endsIn_succ] at h
              have hn : nxt x t = (match f.kind with | .ref nm => x.find nm | _ => none):=by simp [nxt,h85,hf]
              rw [hn] at h
              cases hk : f.kind with
              | ref nm2 =>
                rw [hk] at h
                simp only at h
                cases hu : x.find nm2 with
                | none => cases m <;> cases n <;> simp [stands,hu]
                | some u =>
                  rw [hu] at h
                  simp only at h
                  rw [ih m u nm2 hu h (by omega)]
              | num => cases m <;> cases n <;> simp [stands]
              | txt => cases m <;> cases n <;> simp [stands]
              | flag => cases m <;> cases n <;> simp [stands]
              | list k => cases m <;> cases n <;> simp [stands]
              | opt k => cases m <;> cases n <;> simp [stands]
            · rcases (hx t (find_mem ht).1).sort with h | h | h
              · exact absurd h h82
              · exact absurd h h85
              · exact absurd h h69
end Wf

namespace Wf
set_option linter.unusedVariables false
set_option linter.unusedSimpArgs false
def mapTys : List Bs → Option (List Ty)
  | [] => some []
  | s :: l =>
    match lineTy s with
    | none => none
    | some t => (mapTys l).map (t :: ·)
def namesOk (x : List Ty) : Bool:=decide ((x.map (·.name)).Pairwise (· ≠ ·))
theorem addTys_eq : ∀ (l : List Bs) (acc : List Ty),acc.length ≤ 8 → (acc.map (·.name)).Pairwise (· ≠ ·) →
    addTys acc l = if acc.length + l.length ≤ 8 then (match mapTys l with | none => none | some r => if namesOk (acc ++ r) = true then some (acc ++ r) else none) else none:=by
  intro l
  induction l with
  | nil => intro acc h hn;simp [addTys,mapTys,h,namesOk,hn]
  | cons s l ih =>
    intro acc h hn
    simp only [addTys,mapTys,List.length_cons]
    by_cases h8 : acc.length = 8
    · rw [if_pos h8,if_neg (by omega)]
    · rw [if_neg h8]
      cases ht : lineTy s with
      | none => simp
      | some t =>
        simp only
        by_cases ha : acc.any (fun u => u.name == t.name) = true
        · rw [if_pos ha]
          simp only [List.any_eq_true,beq_iff_eq] at ha
          obtain ⟨u,hu,hut⟩:=ha
          split
          · cases mapTys l with
            | none => rfl
            | some r =>
              simp only [Option.map_some]
              rw [if_neg]
              simp only [namesOk,decide_eq_true_eq,List.map_append,List.map_cons]
              intro hp
              exact (List.pairwise_append.1 hp).2.2 u.name (List.mem_map.2 ⟨u,hu,rfl⟩) t.name (by simp) hut
          · rfl
        · rw [if_neg ha]
          simp only [List.any_eq_true,beq_iff_eq,not_exists,not_and] at ha
          rw [ih (acc ++ [t]) (by simp;omega) (by
            rw [List.map_append]
            refine List.pairwise_append.2 ⟨hn,by simp, ?_⟩
            intro a hx b hb
            obtain ⟨g,hg,rfl⟩:=List.mem_map.1 hx
            simp only [List.map_cons,List.map_nil,List.mem_singleton] at hb
            subst hb
            exact ha g hg)]
          simp only [List.length_append,List.length_cons,List.length_nil]
          by_cases hl : acc.length + (l.length + 1) ≤ 8
          · rw [if_pos (by omega),if_pos hl]
            cases mapTys l with
            | none => rfl
            | some r => simp
          · rw [if_neg (by omega),if_neg hl]
def schemaB (s : Bs) : Option Sc :=
  if 400 < s.length ∨ 9 < (cutAt 10 s).length ∨ (cutAt 10 s).getLast? ≠ some [] then none else
  match mapTys (cutAt 10 s).dropLast with
  | none => none
  | some x => if namesOk x = true ∧ refsOk x = true ∧ x.all (endsIn x (x.length + 1)) = true then some x else none
theorem schemaB_eq (s : Bs) : schemaB s = schemaOf s:=by
  unfold schemaB schemaOf
  by_cases h1 : 400 < s.length
  · simp [h1]
  · by_cases h2 : (cutAt 10 s).getLast? ≠ some []
    · simp [h1,h2]
    · have hlen:=List.length_pos_iff.2 (cutAt_ne 10 s)
      have hdl : (cutAt 10 s).dropLast.length = (cutAt 10 s).length - 1:=by simp
      rw [addTys_eq _ _ (by simp) (by simp)]
      simp only [h1,h2,if_false,or_false,false_or,List.length_nil,Nat.zero_add,List.nil_append]
      by_cases h3 : 9 < (cutAt 10 s).length
      · rw [if_pos h3,if_neg (by omega)]
      · rw [if_neg h3,if_pos (by omega)]
        cases hm : mapTys (cutAt 10 s).dropLast with
        | none => rfl
        | some x =>
          have hxl : x.length ≤ 8:=by
            have : ∀ (l : List Bs) (r : List Ty),mapTys l = some r → r.length = l.length:=by
              intro l
              induction l with
              | nil => intro r h;simp [mapTys] at h;subst h;rfl
              | cons a l ih =>
                intro r h
                simp only [mapTys] at h
                split at h
                · simp at h
                · cases hr : mapTys l with
                  | none => rw [hr] at h;simp at h
                  | some r' => rw [hr] at h;simp at h;subst h;simp [ih r' hr]
            have:=this _ _ hm
            omega
          simp only
          by_cases hn : namesOk x = true
          · simp only [hn,true_and,if_true]
            have he : x.all (endsIn x (x.length + 1)) = x.all (endsIn x 9):=by
              rw [Bool.eq_iff_iff,List.all_eq_true,List.all_eq_true]
              constructor
              · intro h t ht;exact endsIn_mono _ _ (h t ht) _ (by omega)
              · intro h t ht;exact endsIn_mono _ _ (endsIn_enough ht (h t ht)) _ (by omega)
            rw [he]
          · simp [hn]
end Wf

namespace Wf
set_option linter.unusedVariables false
set_option linter.unusedSimpArgs false
abbrev Asc (es : List (Fd × V)) : Prop:=(es.map (fun e => e.1.tag)).Pairwise (· < ·)
theorem hasRef_ref {x : Sc} {nm : Bs} (h : hasRef x (.ref nm) = true) : ∃ t,x.find nm = some t:=by
  simp only [hasRef,K.base,K.name,ne_eq,not_true_eq_false,decide_false,Bool.false_or] at h
  exact Option.isSome_iff_exists.1 h
end Wf

namespace Wf
set_option linter.unusedVariables false
set_option linter.unusedSimpArgs false
theorem parse_lt {x : Sc} {n : Nat} {k : K} {s r : Bs} {v : V} (h : parse x n k s = some (v,r)) : r.length < s.length:=by
  obtain ⟨ht,hs⟩:=parse_say n k s v r h
  obtain ⟨c,t,hc,_⟩:=print_head ht
  rw [hs,hc]
  simp
  omega
theorem items_fuel {p : Reads} (hp : ∀ s v r,p s = some (v,r) → r.length < s.length) : ∀ (m m' : Nat) (s : Bs),s.length ≤ m → s.length ≤ m' → itemsW p m s = itemsW p m' s:=by
  intro m
  induction m with
  | zero =>
    intro m' s h1 h2
    cases m' with
    | zero => rfl
    | succ m' =>
      have hs : s = []:=List.eq_nil_of_length_eq_zero (by omega)
      subst hs
      simp only [itemsW]
      cases hq : p [] with
      | none => rfl
      | some y => have:=hp [] y.1 y.2 hq;simp at this
  | succ m ih =>
    intro m' s h1 h2
    cases m' with
    | zero =>
      have hs : s = []:=List.eq_nil_of_length_eq_zero (by omega)
      subst hs
      simp only [itemsW]
      cases hq : p [] with
      | none => rfl
      | some y => have:=hp [] y.1 y.2 hq;simp at this
    | succ m' =>
      simp only [itemsW]
      cases hq : p s with
      | none => rfl
      | some y =>
        obtain ⟨v,rest⟩:=y
        have hlt:=hp s v rest hq
        dsimp only
        split
        · rename_i r
          simp only [List.length_cons] at hlt
          rw [ih m' r (by omega) (by omega)]
        · rfl
        · rfl
def items (p : Reads) (s : Bs) : Option (List V × Bs):=itemsW p s.length s
theorem items_step {p : Reads} (hp : ∀ s v r,p s = some (v,r) → r.length < s.length) (s : Bs) : items p s = match p s with
    | none => none
    | some (v,rest) =>
      match rest with
      | 44 :: r => (items p r).map fun x => (v :: x.1,x.2)
      | 93 :: r => some ([v],r)
      | _ => none:=by
  unfold items
  rw [items_fuel hp s.length (s.length + 1) s (Nat.le_refl _) (by omega)]
  simp only [itemsW]
  cases hq : p s with
  | none => rfl
  | some y =>
    obtain ⟨v,rest⟩:=y
    have hlt:=hp s v rest hq
    dsimp only
    split
    · rename_i r
      simp only [List.length_cons] at hlt
      rw [items_fuel hp s.length r.length r (by omega) (Nat.le_refl _)]
      rfl
    · rfl
    · rename_i h1 h2
      split
      · exact (h1 _ rfl).elim
      · exact (h2 _ rfl).elim
      · rfl
theorem items_ne {p : Reads} (hp : ∀ s v r,p s = some (v,r) → r.length < s.length) {s : Bs} {l : List V} {q : Bs} (h : items p s = some (l,q)) : l ≠ []:=by
  rw [items_step hp] at h
  split at h
  · cases h
  · split at h
    · rw [Option.map_eq_some_iff] at h
      obtain ⟨y,_,hy⟩:=h
      simp only [Prod.mk.injEq] at hy
      rw [← hy.1];simp
    · simp only [Option.some.injEq,Prod.mk.injEq] at h
      rw [← h.1];simp
    · cases h
theorem numTok_lt {most n : Nat} {s r : Bs} (h : numTok most s = some (n,r)) : r.length < s.length:=by
  obtain ⟨m,h1,h2⟩:=Option.map_eq_some_iff.1 h
  simp only [Prod.mk.injEq] at h2
  have hne : s.takeWhile isDig ≠ []:=by
    intro e
    rw [e] at h1
    simp [plainN] at h1
  have:=congrArg List.length (List.takeWhile_append_dropWhile (p:=isDig) (l:=s))
  rw [List.length_append] at this
  have h3:=List.length_pos_iff.2 hne
  rw [← h2.2]
  omega
theorem fieldTok_lt {t : Ty} {p : K → Reads} (hp : ∀ k s v r,p k s = some (v,r) → r.length < s.length) {s r : Bs} {f : Fd} {v : V} (h : fieldTok t p s = some (f,v,r)) : r.length + 2 < s.length:=by
  unfold fieldTok at h
  cases hn : numTok 200 s with
  | none => rw [hn] at h;cases h
  | some y =>
    obtain ⟨tag,rest⟩:=y
    have h1:=numTok_lt hn
    rw [hn] at h
    dsimp only at h
    split at h
    · rename_i q f' hf
      simp only [List.length_cons] at h1
      obtain ⟨y,hy,h2⟩:=Option.map_eq_some_iff.1 h
      simp only [Prod.mk.injEq] at h2
      have:=hp _ _ _ _ hy
      rw [← h2.2.2]
      omega
    · cases h
theorem fields_fuel {x : Sc} {t : Ty} {p : K → Reads} (hp : ∀ k s v r,p k s = some (v,r) → r.length < s.length) : ∀ (m m' last : Nat) (s : Bs),s.length ≤ m → s.length ≤ m' → fieldsW x t p m last s = fieldsW x t p m' last s:=by
  intro m
  induction m with
  | zero =>
    intro m' last s h1 h2
    cases m' with
    | zero => rfl
    | succ m' =>
      have hs : s = []:=List.eq_nil_of_length_eq_zero (by omega)
      subst hs
      simp only [fieldsW]
      cases hq : fieldTok t p [] with
      | none => rfl
      | some y => have:=fieldTok_lt hp hq;simp at this
  | succ m ih =>
    intro m' last s h1 h2
    cases m' with
    | zero =>
      have hs : s = []:=List.eq_nil_of_length_eq_zero (by omega)
      subst hs
      simp only [fieldsW]
      cases hq : fieldTok t p [] with
      | none => rfl
      | some y => have:=fieldTok_lt hp hq;simp at this
    | succ m' =>
      simp only [fieldsW]
      cases hq : fieldTok t p s with
      | none => rfl
      | some y =>
        obtain ⟨f,v,rest⟩:=y
        have hlt:=fieldTok_lt hp hq
        dsimp only
        split
        · rfl
        · split
          · rename_i r
            simp only [List.length_cons] at hlt
            rw [ih m' _ r (by omega) (by omega)]
          · rfl
          · rfl
def flds (x : Sc) (t : Ty) (p : K → Reads) (last : Nat) (s : Bs) : Option (List V × Bs):=fieldsW x t p s.length last s
theorem flds_step {x : Sc} {t : Ty} {p : K → Reads} (hp : ∀ k s v r,p k s = some (v,r) → r.length < s.length) (last : Nat) (s : Bs) : flds x t p last s = match fieldTok t p s with
    | none => none
    | some (f,v,rest) =>
      if f.tag ≤ last ∨ v.print = standF x f then none else
      match rest with
      | 44 :: r => (flds x t p f.tag r).map fun y => (.mk 61 [] f.tag [v] :: y.1,y.2)
      | 125 :: r => some ([.mk 61 [] f.tag [v]],r)
      | _ => none:=by
  unfold flds
  rw [fields_fuel hp s.length (s.length + 1) last s (Nat.le_refl _) (by omega)]
  simp only [fieldsW]
  cases hq : fieldTok t p s with
  | none => rfl
  | some y =>
    obtain ⟨f,v,rest⟩:=y
    have hlt:=fieldTok_lt hp hq
    dsimp only
    split
    · rfl
    · split
      · rename_i r
        simp only [List.length_cons] at hlt
        rw [fields_fuel hp s.length r.length _ r (by omega) (Nat.le_refl _)]
        rfl
      · rfl
      · rename_i h1 h2
        split
        · exact (h1 _ rfl).elim
        · exact (h2 _ rfl).elim
        · rfl
def valIn (x : Sc) (k : K) (s : Bs) : Option V:=if s.length ≤ 400 then (match parse x 12 k s with | some (v,[]) => some v | _ => none) else none
theorem valIn_long {x : Sc} {k : K} {s : Bs} (h : ¬ s.length ≤ 400) : valIn x k s = none:=by rw [valIn,if_neg h]
theorem valIn_some {x : Sc} {k : K} {s : Bs} {v : V} (h : valIn x k s = some v) : Typed x 12 k v ∧ s = v.print ∧ s.length ≤ 400:=by
  unfold valIn at h
  split at h
  · rename_i hs
    split at h
    · rename_i v' hp
      cases h
      obtain ⟨h1,h2⟩:=parse_say _ _ _ _ _ hp
      exact ⟨h1,by simpa using h2,hs⟩
    · cases h
  · cases h
end Wf

namespace Wf
set_option linter.unusedVariables false
set_option linter.unusedSimpArgs false
theorem parse_num (x : Sc) (n : Nat) (s : Bs) : parse x (n + 1) .num s = (numTok 999999 s).map fun y => (.mk 110 (dec y.1) 0 [],y.2):=by simp only [parse]
theorem parse_txt_yes (x : Sc) (n : Nat) {s r q : Bs} (h1 : s = 39 :: r) (h2 : r.dropWhile isTxt = 39 :: q) (h3 : (r.takeWhile isTxt).length ≤ 12) : parse x (n + 1) .txt s = some (.mk 116 (r.takeWhile isTxt) 0 [],q):=by
  subst h1
  simp only [parse,h2,h3,if_true]
theorem parse_txt_no1 (x : Sc) (n : Nat) {s : Bs} (h : s.head? ≠ some 39) : parse x (n + 1) .txt s = none:=by
  simp only [parse]
  split
  · simp at h
  · rfl
theorem parse_txt_no2 (x : Sc) (n : Nat) {s r : Bs} (h1 : s = 39 :: r) (h2 : (r.dropWhile isTxt).head? ≠ some 39) : parse x (n + 1) .txt s = none:=by
  subst h1
  simp only [parse]
  split
  · rename_i q hq
    rw [hq] at h2
    simp at h2
  · rfl
theorem parse_txt_no3 (x : Sc) (n : Nat) {s r : Bs} (h1 : s = 39 :: r) (h3 : ¬ (r.takeWhile isTxt).length ≤ 12) : parse x (n + 1) .txt s = none:=by
  subst h1
  simp only [parse,h3,if_false]
  split <;> rfl
theorem parse_list (x : Sc) (n : Nat) (k : K) (s : Bs) : parse x (n + 1) (.list k) s = match s with
    | 91 :: r => (match r with
      | 93 :: q => some (.mk 91 [] 0 [],q)
      | _ => match items (parse x n k) r with
        | none => none
        | some (l,q) => if l.length ≤ 20 then some (.mk 91 [] 0 l,q) else none)
    | _ => none:=by
  simp only [parse,items]
  rfl
theorem parse_opt (x : Sc) (n : Nat) (k : K) (s : Bs) : parse x (n + 1) (.opt k) s = match s with
    | 45 :: q => some (.mk 63 [] 0 [],q)
    | 43 :: r => (parse x n k r).map fun y => (.mk 63 [] 0 [y.1],y.2)
    | _ => none:=by
  simp only [parse]
  rfl
theorem parse_ref (x : Sc) (n : Nat) (nm : Bs) (t : Ty) (h : x.find nm = some t) (s : Bs) : parse x (n + 1) (.ref nm) s = parseTy x (fun k' s' => parse x n k' s') t s:=by
  simp only [parse]
  rw [h]
theorem parseTy_rec (x : Sc) (p : K → Reads) (t : Ty) (s : Bs) (h : t.sort = 82) : parseTy x p t s = match s with
    | 123 :: r => (match r with
      | 125 :: q => some (.mk 82 [] 0 [],q)
      | _ => (flds x t p 0 r).map fun y => (.mk 82 [] 0 y.1,y.2))
    | _ => none:=by
  unfold parseTy flds
  rw [if_neg (by rw [h];decide),if_neg (by rw [h];decide)]
  rfl
theorem parseTy_uni (x : Sc) (p : K → Reads) (t : Ty) (s : Bs) (h : t.sort = 85) : parseTy x p t s = match s with
    | 60 :: r => (match fieldTok t p r with
      | some (f,v,rest) => closeU f.tag v rest
      | none => none)
    | _ => none:=by
  unfold parseTy
  rw [if_neg (by rw [h];decide),if_pos h]
  rfl
theorem parseTy_enm (x : Sc) (p : K → Reads) (t : Ty) (s : Bs) (h : t.sort = 69) : parseTy x p t s = match s with
    | 35 :: r => (match numTok 200 r with
      | none => none
      | some (tag,rest) => if (t.field tag).isSome then some (.mk 69 [] tag [],rest) else none)
    | _ => none:=by
  unfold parseTy
  rw [if_pos h]
  rfl
end Wf

namespace Wf
set_option linter.unusedVariables false
set_option linter.unusedSimpArgs false
theorem commas_app {l m : List Bs} (h : l ≠ []) (hm : m ≠ []) : commas (l ++ m) = commas l ++ 44 :: commas m:=by
  induction l with
  | nil => exact absurd rfl h
  | cons a l ih =>
    cases l with
    | nil =>
      rw [List.singleton_append,commas_cons a hm]
      rfl
    | cons b l =>
      rw [List.cons_append,commas_cons a (by simp),ih (by simp),commas_cons a (by simp)]
      simp
theorem commas_snoc {l : List Bs} (h : l ≠ []) (a : Bs) : commas (l ++ [a]) = commas l ++ 44 :: a:=by
  rw [commas_app h (by simp)]
  rfl
theorem commas_take {l : List Bs} (i : Nat) : (commas (l.take i)).length ≤ (commas l).length:=by
  by_cases h1 : l.take i = []
  · rw [h1];simp [commas]
  · by_cases h2 : l.drop i = []
    · have : l.take i = l:=by
        have:=List.take_append_drop i l
        rw [h2,List.append_nil] at this
        exact this
      rw [this]
      exact Nat.le_refl _
    · have:=congrArg (fun m => (commas m).length) (List.take_append_drop i l)
      simp only [commas_app h1 h2,List.length_append,List.length_cons] at this
      omega
theorem commas_step {l : List Bs} {i : Nat} (h : i < l.length) : commas (l.take (i + 1)) = if i = 0 then l[i] else commas (l.take i) ++ 44 :: l[i]:=by
  have e : l.take (i + 1) = l.take i ++ [l[i]]:=by rw [List.take_add_one,List.getElem?_eq_getElem h];rfl
  rw [e]
  by_cases h0 : i = 0
  · subst h0
    simp [commas]
  · rw [if_neg h0,commas_snoc]
    intro hn
    rw [List.take_eq_nil_iff] at hn
    rcases hn with hn | hn
    · exact h0 hn
    · rw [hn] at h;simp at h
theorem typed_ne {x : Sc} {n : Nat} {k : K} {v : V} (h : Typed x n k v) : v.what ≠ 61:=by
  cases n with
  | zero => exact h.elim
  | succ n =>
    cases k with
    | num => obtain ⟨m,_,rfl⟩:=h;simp [V.what]
    | txt => obtain ⟨b,_,_,rfl⟩:=h;simp [V.what]
    | flag => rcases h with rfl | rfl <;> simp [V.what]
    | list k => obtain ⟨l,_,_,rfl⟩:=h;simp [V.what]
    | opt k => rcases h with rfl | ⟨u,_,rfl⟩ <;> simp [V.what]
    | ref nm =>
      obtain ⟨t,_,h⟩:=h
      rcases h with ⟨_,f,_,_,rfl⟩ | ⟨_,_,f,u,_,_,_,rfl⟩ | ⟨_,_,l,_,_,rfl⟩ <;> simp [V.what]
end Wf

namespace Wf
set_option linter.unusedVariables false
set_option linter.unusedSimpArgs false
def not39 (c : UInt8) : Bool:=c != 39
theorem txt_not39 {c : UInt8} (h : isTxt c = true) : not39 c = true:=by
  unfold not39
  rw [bne_iff_ne]
  intro e
  rw [e,isTxt_39] at h
  cases h
theorem span_split {p q : UInt8 → Bool} (hpq : ∀ c,p c = true → q c = true) : ∀ (b : Bs) (c : UInt8) (r : Bs),b.all p = true → q c = false → (b ++ c :: r).takeWhile q = b ∧ (b ++ c :: r).dropWhile q = c :: r:=by
  intro b
  induction b with
  | nil => intro c r _ hc;simp [hc]
  | cons a b ih =>
    intro c r hb hc
    simp only [List.all_cons,Bool.and_eq_true] at hb
    obtain ⟨h1,h2⟩:=ih c r hb.2 hc
    simp [hpq a hb.1,h1,h2]
def txtEnd (s : Bs) : Nat:=min (1 + (s.tail.takeWhile not39).length + 1) s.length
theorem txtEnd_le (s : Bs) : txtEnd s ≤ s.length:=Nat.min_le_right _ _
theorem parse_txt_ref (x : Sc) (n : Nat) (c0 : UInt8) (r : Bs) : parse x (n + 1) .txt (c0 :: r) = if quoted ((c0 :: r).take (txtEnd (c0 :: r))) = true then some (.mk 116 ((c0 :: r).take (txtEnd (c0 :: r))).tail.dropLast 0 [],(c0 :: r).drop (txtEnd (c0 :: r))) else none:=by
  have hsp:=List.takeWhile_append_dropWhile (p:=not39) (l:=r)
  cases hd : r.dropWhile not39 with
  | nil =>
    rw [hd,List.append_nil] at hsp
    have hno : (39 : UInt8) ∉ r:=by
      intro hm
      rw [← hsp] at hm
      have hall : (r.takeWhile not39).all not39 = true:=List.all_takeWhile
      have:=List.all_eq_true.1 hall 39 hm
      simp [not39] at this
    have he : txtEnd (c0 :: r) = (c0 :: r).length:=by
      unfold txtEnd
      rw [List.tail_cons,hsp]
      simp
    rw [he,List.take_length,if_neg]
    · by_cases h0 : c0 = 39
      · subst h0
        refine parse_txt_no2 x n rfl ?_
        intro h
        have hm : (39 : UInt8) ∈ r.dropWhile isTxt:=List.mem_of_head? h
        exact hno ((List.dropWhile_sublist _).subset hm)
      · exact parse_txt_no1 x n (by simpa using h0)
    · intro hq
      obtain ⟨b,hb,_,_⟩:=quoted_iff.1 hq
      simp only [List.cons.injEq] at hb
      exact hno (by rw [hb.2];simp)
  | cons d q =>
    have hd39 : d = 39:=by
      have:=List.head?_dropWhile_not (p:=not39) (l:=r)
      rw [hd] at this
      simpa [not39] using this
    subst hd39
    rw [hd] at hsp
    obtain ⟨b,hbdef⟩ : ∃ b,r.takeWhile not39 = b:=⟨_,rfl⟩
    rw [hbdef] at hsp
    have he : txtEnd (c0 :: r) = b.length + 2:=by
      unfold txtEnd
      rw [List.tail_cons,hbdef,← hsp]
      simp
      omega
    have ht : (c0 :: r).take (b.length + 2) = c0 :: (b ++ [39]):=by
      rw [← hsp,List.take_succ_cons,List.take_append,List.take_of_length_le (by omega)]
      simp
    have hdr : (c0 :: r).drop (b.length + 2) = q:=by
      rw [← hsp,List.drop_succ_cons,List.drop_append,List.drop_of_length_le (by omega)]
      simp
    rw [he,ht,hdr]
    have htl : (c0 :: (b ++ [39])).tail.dropLast = b:=by simp
    rw [htl]
    have hb39 : b.all not39 = true:=by rw [← hbdef];exact List.all_takeWhile
    by_cases h0 : c0 = 39
    · subst h0
      by_cases hall : b.all isTxt = true
      · obtain ⟨e1,e2⟩:=span_split (p:=isTxt) (q:=isTxt) (fun _ h => h) b 39 q hall isTxt_39
        rw [hsp] at e1 e2
        by_cases hl : b.length ≤ 12
        · rw [if_pos (quoted_iff.2 ⟨b,rfl,hall,hl⟩),parse_txt_yes x n rfl e2 (by rw [e1];exact hl),e1]
        · rw [if_neg,parse_txt_no3 x n rfl (by rw [e1];exact hl)]
          intro hq
          obtain ⟨b',hb',_,h12⟩:=quoted_iff.1 hq
          simp only [List.cons.injEq,true_and] at hb'
          have:=congrArg List.length hb'
          simp at this
          omega
      · rw [if_neg]
        · refine parse_txt_no2 x n rfl ?_
          intro h
          cases hdd : r.dropWhile isTxt with
          | nil => rw [hdd] at h;simp at h
          | cons d2 q2 =>
            rw [hdd] at h
            simp only [List.head?_cons,Option.some.injEq] at h
            subst h
            have hs2:=List.takeWhile_append_dropWhile (p:=isTxt) (l:=r)
            rw [hdd] at hs2
            have ha2 : (r.takeWhile isTxt).all isTxt = true:=List.all_takeWhile
            obtain ⟨e1,_⟩:=span_split (p:=isTxt) (q:=not39) (fun _ h => txt_not39 h) (r.takeWhile isTxt) 39 q2 ha2 (by decide)
            rw [hs2,hbdef] at e1
            rw [e1] at hall
            exact hall ha2
        · intro hq
          obtain ⟨b',hb',ha,_⟩:=quoted_iff.1 hq
          simp only [List.cons.injEq,true_and] at hb'
          have:=List.append_inj_left' hb' rfl
          rw [this] at hall
          exact hall ha
    · rw [if_neg,parse_txt_no1 x n (by simpa using h0)]
      intro hq
      obtain ⟨b',hb',_,_⟩:=quoted_iff.1 hq
      simp only [List.cons.injEq] at hb'
      exact h0 hb'.1
end Wf
