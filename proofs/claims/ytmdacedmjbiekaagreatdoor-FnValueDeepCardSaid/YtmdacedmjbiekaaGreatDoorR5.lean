/- Packed by pack.py: PlainE PlainS Ls Sx. -/
import Derived.Test.YtmdacedmjbiekaaGreatDoorR0
import Derived.Test.YtmdacedmjbiekaaGreatDoorR3
import Derived.Test.YtmdacedmjbiekaaGreatDoorR4
import Derived.Test.YtmdacedmjbiekaaGreatDoorR2
import Derived.Deep.RegionWith
namespace Wf
set_option linter.unusedVariables false
set_option linter.unusedSimpArgs false
structure Fd where
  tag : Nat
  name : Bs
  kind : K
  given : Bs
deriving Inhabited,DecidableEq
structure Ty where
  sort : UInt8
  name : Bs
  fields : List Fd
deriving Inhabited,DecidableEq
abbrev Sc:=List Ty
def Ty.field (t : Ty) (tag : Nat) : Option Fd:=t.fields.find? (fun f => f.tag == tag)
def Sc.find (x : Sc) (name : Bs) : Option Ty:=List.find? (fun t => t.name == name) x
def stands (x : Sc) : Nat → K → Bs
  | _, .list _ => [91,93]
  | _, .opt _ => [45]
  | _, .num => [48]
  | _, .txt => [39,39]
  | _, .flag => [110,111]
  | 0, .ref _ => []
  | n + 1, .ref nm =>
    match x.find nm with
    | none => []
    | some t =>
      if t.sort = 82 then [123,125]
      else match t.fields with
        | [] => []
        | f :: _ => if t.sort = 69 then 35 :: dec f.tag else 60 :: (dec f.tag ++ 61 :: (stands x n f.kind ++ [62]))
def standF (x : Sc) (f : Fd) : Bs:=if f.given = [] then stands x 9 f.kind else f.given
inductive V where
  | mk (what : UInt8) (text : Bs) (tag : Nat) (kids : List V)
deriving Inhabited
def V.what : V → UInt8 | .mk a _ _ _ => a
def V.text : V → Bs | .mk _ b _ _ => b
def V.tag : V → Nat | .mk _ _ c _ => c
def V.kids : V → List V | .mk _ _ _ d => d
theorem V.induct {P : V → Prop} (h : ∀ a b c d,(∀ v,v ∈ d → P v) → P (.mk a b c d)) (v : V) : P v :=
  V.rec (motive_1:=P) (motive_2:=fun l => ∀ v,v ∈ l → P v) (fun a b c d ih => h a b c d ih) (by simp) (fun v l hv hl => by
    intro u hu
    rcases List.mem_cons.1 hu with rfl | hu
    · exact hv
    · exact hl u hu) v
def commas : List Bs → Bs
  | [] => []
  | [a] => a
  | a :: b :: l => a ++ 44 :: commas (b :: l)
def form (what : UInt8) (text : Bs) (tag : Nat) (parts : List Bs) : Bs :=
  if what = 116 then 39 :: (text ++ [39])
  else if what = 91 then 91 :: (commas parts ++ [93])
  else if what = 63 then (if parts = [] then [45] else 43 :: commas parts)
  else if what = 61 then dec tag ++ 61 :: commas parts
  else if what = 82 then 123 :: (commas parts ++ [125])
  else if what = 85 then 60 :: (dec tag ++ 61 :: (commas parts ++ [62]))
  else if what = 69 then 35 :: dec tag
  else text
mutual
def V.print : V → Bs
  | .mk what text tag kids => form what text tag (V.prints kids)
def V.prints : List V → List Bs
  | [] => []
  | v :: l => v.print :: V.prints l
end
mutual
def V.deep : V → Nat
  | .mk what _ _ kids => if what = 61 then V.deeps kids else V.deeps kids + 1
def V.deeps : List V → Nat
  | [] => 0
  | v :: l => max v.deep (V.deeps l)
end
theorem V.prints_map (l : List V) : V.prints l = l.map V.print:=by
  induction l with
  | nil => rfl
  | cons v l ih => simp [V.prints,ih]
theorem V.deeps_le {l : List V} {n : Nat} : V.deeps l ≤ n ↔ ∀ v,v ∈ l → v.deep ≤ n:=by
  induction l with
  | nil => simp [V.deeps]
  | cons v l ih => simp [V.deeps,Nat.max_le,ih]
def isTxt (c : UInt8) : Bool:=(decide (97 ≤ c.toNat) && decide (c.toNat ≤ 122)) || (decide (48 ≤ c.toNat) && decide (c.toNat ≤ 57)) || c == 32
def numTok (most : Nat) (s : Bs) : Option (Nat × Bs) :=
  (plainN (s.takeWhile isDig) most).map fun n => (n,s.dropWhile isDig)
abbrev Reads:=Bs → Option (V × Bs)
def itemsW (p : Reads) : Nat → Bs → Option (List V × Bs)
  | 0,_ => none
  | m + 1,s =>
    match p s with
    | none => none
    | some (v,rest) =>
      match rest with
      | 44 :: r => (itemsW p m r).map fun x => (v :: x.1,x.2)
      | 93 :: r => some ([v],r)
      | _ => none
def fieldTok (t : Ty) (p : K → Reads) (s : Bs) : Option (Fd × V × Bs) :=
  match numTok 200 s with
  | none => none
  | some (tag,rest) =>
    match rest,t.field tag with
    | 61 :: r,some f => (p f.kind r).map fun y => (f,y.1,y.2)
    | _,_ => none
def fieldsW (x : Sc) (t : Ty) (p : K → Reads) : Nat → Nat → Bs → Option (List V × Bs)
  | 0,_,_ => none
  | m + 1,last,s =>
    match fieldTok t p s with
    | none => none
    | some (f,v,rest) =>
      if f.tag ≤ last ∨ v.print = standF x f then none else
      match rest with
      | 44 :: r => (fieldsW x t p m f.tag r).map fun y => (.mk 61 [] f.tag [v] :: y.1,y.2)
      | 125 :: r => some ([.mk 61 [] f.tag [v]],r)
      | _ => none
def closeU (g : Nat) (v : V) (s : Bs) : Option (V × Bs) :=
  match s with
  | 62 :: q => some (.mk 85 [] g [v],q)
  | _ => none
def parseTy (x : Sc) (p : K → Reads) (t : Ty) (s : Bs) : Option (V × Bs) :=
  if t.sort = 69 then
    match s with
    | 35 :: r =>
      match numTok 200 r with
      | none => none
      | some (tag,rest) => if (t.field tag).isSome then some (.mk 69 [] tag [],rest) else none
    | _ => none
  else if t.sort = 85 then
    match s with
    | 60 :: r =>
      match fieldTok t p r with
      | some (f,v,rest) => closeU f.tag v rest
      | none => none
    | _ => none
  else
    match s with
    | 123 :: r =>
      match r with
      | 125 :: q => some (.mk 82 [] 0 [],q)
      | _ => (fieldsW x t p r.length 0 r).map fun y => (.mk 82 [] 0 y.1,y.2)
    | _ => none
def parse (x : Sc) : Nat → K → Reads
  | 0,_,_ => none
  | n + 1,k,s =>
    match k with
    | .num => (numTok 999999 s).map fun y => (.mk 110 (dec y.1) 0 [],y.2)
    | .txt =>
      match s with
      | 39 :: r =>
        match r.dropWhile isTxt with
        | 39 :: q => if (r.takeWhile isTxt).length ≤ 12 then some (.mk 116 (r.takeWhile isTxt) 0 [],q) else none
        | _ => none
      | _ => none
    | .flag =>
      match s with
      | 121 :: 101 :: 115 :: q => some (.mk 102 [121,101,115] 0 [],q)
      | 110 :: 111 :: q => some (.mk 102 [110,111] 0 [],q)
      | _ => none
    | .list k' =>
      match s with
      | 91 :: r =>
        match r with
        | 93 :: q => some (.mk 91 [] 0 [],q)
        | _ => match itemsW (parse x n k') r.length r with
          | none => none
          | some (l,q) => if l.length ≤ 20 then some (.mk 91 [] 0 l,q) else none
      | _ => none
    | .opt k' =>
      match s with
      | 45 :: q => some (.mk 63 [] 0 [],q)
      | 43 :: r => (parse x n k' r).map fun y => (.mk 63 [] 0 [y.1],y.2)
      | _ => none
    | .ref nm =>
      match x.find nm with
      | none => none
      | some t => parseTy x (fun k' s' => parse x n k' s') t s
def Typed (x : Sc) : Nat → K → V → Prop
  | 0,_,_ => False
  | n + 1,k,v =>
    match k with
    | .num => ∃ m,m ≤ 999999 ∧ v = .mk 110 (dec m) 0 []
    | .txt => ∃ b : Bs,b.all isTxt = true ∧ b.length ≤ 12 ∧ v = .mk 116 b 0 []
    | .flag => v = .mk 102 [121,101,115] 0 [] ∨ v = .mk 102 [110,111] 0 []
    | .list k' => ∃ l : List V,l.length ≤ 20 ∧ (∀ u,u ∈ l → Typed x n k' u) ∧ v = .mk 91 [] 0 l
    | .opt k' => v = .mk 63 [] 0 [] ∨ ∃ u,Typed x n k' u ∧ v = .mk 63 [] 0 [u]
    | .ref nm => ∃ t,x.find nm = some t ∧
      ((t.sort = 69 ∧ ∃ f,t.field f.tag = some f ∧ f.tag ≤ 200 ∧ v = .mk 69 [] f.tag []) ∨
       (t.sort ≠ 69 ∧ t.sort = 85 ∧ ∃ f u,t.field f.tag = some f ∧ f.tag ≤ 200 ∧ Typed x n f.kind u ∧ v = .mk 85 [] f.tag [u]) ∨
       (t.sort ≠ 69 ∧ t.sort ≠ 85 ∧ ∃ l : List (Fd × V),(l.map (fun e => e.1.tag)).Pairwise (· < ·) ∧
         (∀ e,e ∈ l → 0 < e.1.tag ∧ t.field e.1.tag = some e.1 ∧ e.1.tag ≤ 200 ∧ Typed x n e.1.kind e.2 ∧ e.2.print ≠ standF x e.1) ∧
         v = .mk 82 [] 0 (l.map fun e => .mk 61 [] e.1.tag [e.2])))
end Wf

namespace Wf
set_option linter.unusedVariables false
set_option linter.unusedSimpArgs false
def cutAt (c : UInt8) : Bs → List Bs
  | [] => [[]]
  | a :: r =>
    if a = c then [] :: cutAt c r
    else match cutAt c r with
      | [] => [[a]]
      | p :: ps => (a :: p) :: ps
def cut1 (c : UInt8) : Bs → Bs × Bs × Bool
  | [] => ([],[],false)
  | a :: r => if a = c then ([],r,true) else (a :: (cut1 c r).1,(cut1 c r).2.1,(cut1 c r).2.2)
theorem cutAt_ne (c : UInt8) (s : Bs) : cutAt c s ≠ []:=by
  cases s with
  | nil => simp [cutAt]
  | cons a r =>
    simp only [cutAt]
    split
    · simp
    · split <;> simp
theorem cut1_false {c : UInt8} {s : Bs} (h : (cut1 c s).2.2 = false) : (cut1 c s).1 = s ∧ (cut1 c s).2.1 = [] ∧ c ∉ s ∧ cutAt c s = [s]:=by
  induction s with
  | nil => simp [cut1,cutAt]
  | cons a r ih =>
    simp only [cut1] at h ⊢
    by_cases ha : a = c
    · simp [ha] at h
    · simp only [if_neg ha] at h ⊢
      obtain ⟨h1,h2,h3,h4⟩:=ih h
      refine ⟨by rw [h1],h2, ?_, ?_⟩
      · simp only [List.mem_cons,not_or];exact ⟨fun e => ha e.symm,h3⟩
      · simp only [cutAt,if_neg ha,h4]
theorem cut1_true {c : UInt8} {s : Bs} (h : (cut1 c s).2.2 = true) : s = (cut1 c s).1 ++ c :: (cut1 c s).2.1 ∧ c ∉ (cut1 c s).1 ∧ cutAt c s = (cut1 c s).1 :: cutAt c (cut1 c s).2.1:=by
  induction s with
  | nil => simp [cut1] at h
  | cons a r ih =>
    simp only [cut1] at h ⊢
    by_cases ha : a = c
    · simp [ha,cutAt]
    · simp only [if_neg ha] at h ⊢
      obtain ⟨h1,h2,h3⟩:=ih h
      refine ⟨by rw [List.cons_append,← h1], ?_, ?_⟩
      · simp only [List.mem_cons,not_or];exact ⟨fun e => ha e.symm,h2⟩
      · simp only [cutAt,if_neg ha,h3]
theorem cutAt_single {c : UInt8} {s : Bs} (h : c ∉ s) : cutAt c s = [s]:=by
  cases hb : (cut1 c s).2.2 with
  | false => exact (cut1_false hb).2.2.2
  | true =>
    have:=(cut1_true hb).1
    rw [this] at h;simp at h
theorem cutAt_app {c : UInt8} {a b : Bs} (h : c ∉ a) : cutAt c (a ++ c :: b) = a :: cutAt c b:=by
  induction a with
  | nil => simp [cutAt]
  | cons x a ih =>
    simp only [List.mem_cons,not_or] at h
    simp only [List.cons_append,cutAt,if_neg (Ne.symm h.1),ih h.2]
theorem cutAt_mem {c : UInt8} : ∀ (s p : Bs),p ∈ cutAt c s → c ∉ p ∧ ∀ a,a ∈ p → a ∈ s:=by
  intro s
  induction s with
  | nil => intro p h;simp [cutAt] at h;subst h;simp
  | cons a r ih =>
    intro p h
    simp only [cutAt] at h
    split at h
    · rcases List.mem_cons.1 h with rfl | h
      · simp
      · obtain ⟨h1,h2⟩:=ih p h
        exact ⟨h1,fun b hb => List.mem_cons_of_mem _ (h2 b hb)⟩
    · rename_i ha
      cases hr : cutAt c r with
      | nil => exact absurd hr (cutAt_ne c r)
      | cons q qs =>
        rw [hr] at h ih
        simp only at h
        rcases List.mem_cons.1 h with rfl | h
        · obtain ⟨h1,h2⟩:=ih q (by simp)
          refine ⟨by simp only [List.mem_cons,not_or];exact ⟨Ne.symm ha,h1⟩, ?_⟩
          intro b hb
          rcases List.mem_cons.1 hb with rfl | hb
          · simp
          · exact List.mem_cons_of_mem _ (h2 b hb)
        · obtain ⟨h1,h2⟩:=ih p (by simp [h])
          exact ⟨h1,fun b hb => List.mem_cons_of_mem _ (h2 b hb)⟩
def quoted (s : Bs) : Bool:=decide (s.head? = some 39) && decide (s.tail.getLast? = some 39) && s.tail.dropLast.all isTxt && decide (s.length ≤ 14)
theorem quoted_iff {s : Bs} : quoted s = true ↔ ∃ b : Bs,s = 39 :: (b ++ [39]) ∧ b.all isTxt = true ∧ b.length ≤ 12:=by
  constructor
  · intro h
    simp only [quoted,Bool.and_eq_true,decide_eq_true_eq] at h
    obtain ⟨⟨⟨h1,h2⟩,h3⟩,h4⟩:=h
    cases s with
    | nil => simp at h1
    | cons a r =>
      simp only [List.head?_cons,Option.some.injEq] at h1
      subst h1
      simp only [List.tail_cons] at h2 h3
      have hr : r ≠ []:=by intro e;subst e;simp at h2
      rw [List.getLast?_eq_some_getLast hr] at h2
      simp only [Option.some.injEq] at h2
      refine ⟨r.dropLast, ?_,h3, ?_⟩
      · rw [← h2,List.dropLast_concat_getLast hr]
      · simp only [List.length_cons,List.length_dropLast] at h4 ⊢;omega
  · rintro ⟨b,rfl,h1,h2⟩
    simp only [quoted,Bool.and_eq_true,decide_eq_true_eq]
    refine ⟨⟨⟨rfl,by simp⟩,by simpa using h1⟩,by simp;omega⟩
def stOk (k : K) (s : Bs) : Bool :=
  match k with
  | .num => (match plainN s 999999 with | some m => decide (0 < m) | none => false)
  | .txt => quoted s && decide (s ≠ [39,39])
  | .flag => decide (s = [121,101,115])
  | _ => false
def fdA (sort : UInt8) (s : Bs) : Option Fd :=
  let h:=cut1 61 s
  match cutAt 58 h.1 with
  | [a,b] =>
    if sort ≠ 69 then none else
    match plainN a 200 with
    | none => none
    | some tag => if tag < 1 ∨ isName b = false ∨ h.2.2 = true then none else some ⟨tag,b, .num,[]⟩
  | [a,b,d] =>
    if sort = 69 then none else
    match plainN a 200 with
    | none => none
    | some tag =>
      if tag < 1 ∨ isName b = false then none else
      match parseK d with
      | none => none
      | some k => if h.2.2 = true ∧ (sort ≠ 82 ∨ stOk k h.2.1 = false) then none else some ⟨tag,b,k,h.2.1⟩
  | _ => none
def fdB (sort : UInt8) (s : Bs) : Option Fd :=
  match cutAt 58 s with
  | [a,b] =>
    if sort ≠ 69 then none else
    match plainN a 200 with
    | none => none
    | some tag => if tag < 1 ∨ isName b = false then none else some ⟨tag,b, .num,[]⟩
  | [a,b,d] =>
    if sort = 69 then none else
    match plainN a 200 with
    | none => none
    | some tag =>
      if tag < 1 ∨ isName b = false then none else
      match cutAt 61 d with
      | [e] => (parseK e).map fun k => ⟨tag,b,k,[]⟩
      | [e,g] =>
        match parseK e with
        | none => none
        | some k => if sort = 82 ∧ stOk k g = true then some ⟨tag,b,k,g⟩ else none
      | _ => none
  | _ => none
theorem plainN_dig {s : Bs} {m n : Nat} (h : plainN s m = some n) : ∀ c,c ∈ s → isDig c = true:=by
  rw [(plainN_some h).1];exact List.all_eq_true.1 (dec_all n)
theorem isName_low {s : Bs} (h : isName s = true) : ∀ c,c ∈ s → isLow c = true:=by
  simp only [isName,Bool.and_eq_true] at h
  exact List.all_eq_true.1 h.2
theorem stOk_no {k : K} {s : Bs} (h : stOk k s = true) : (58 : UInt8) ∉ s ∧ (61 : UInt8) ∉ s:=by
  cases k with
  | num =>
    simp only [stOk] at h
    cases hp : plainN s 999999 with
    | none => rw [hp] at h;simp at h
    | some m =>
      have:=plainN_dig hp
      exact ⟨fun hc => absurd (this _ hc) (by decide),fun hc => absurd (this _ hc) (by decide)⟩
  | txt =>
    simp only [stOk,Bool.and_eq_true,decide_eq_true_eq] at h
    obtain ⟨b,rfl,hb,_⟩:=quoted_iff.1 h.1
    have ht:=List.all_eq_true.1 hb
    have key : ∀ c : UInt8,c ∈ (39 :: (b ++ [39]) : Bs) → c = 39 ∨ isTxt c = true:=by
      intro c hc
      simp only [List.mem_cons,List.mem_append,List.mem_nil_iff,or_false] at hc
      rcases hc with h | h | h
      · exact .inl h
      · exact .inr (ht c h)
      · exact .inl h
    refine ⟨fun hc => ?_,fun hc => ?_⟩
    · rcases key _ hc with h | h
      · revert h;decide
      · revert h;decide
    · rcases key _ hc with h | h
      · revert h;decide
      · revert h;decide
  | flag => simp only [stOk,decide_eq_true_eq] at h;subst h;decide
  | ref n => simp [stOk] at h
  | list k => simp [stOk] at h
  | opt k => simp [stOk] at h
def joinAt (c : UInt8) : List Bs → Bs
  | [] => []
  | [a] => a
  | a :: b :: l => a ++ c :: joinAt c (b :: l)
theorem cutAt_join (c : UInt8) (s : Bs) : joinAt c (cutAt c s) = s:=by
  induction s with
  | nil => rfl
  | cons a r ih =>
    simp only [cutAt]
    cases hr : cutAt c r with
    | nil => exact absurd hr (cutAt_ne c r)
    | cons p ps =>
      rw [hr] at ih
      split
      · rename_i h;simp only [joinAt,List.nil_append,ih,h]
      · cases ps with
        | nil => simp only [joinAt] at ih ⊢;rw [ih]
        | cons q qs => simp only [joinAt,List.cons_append] at ih ⊢;rw [ih]
theorem cutAt_tail {c : UInt8} {t : Bs} (ht : c ∉ t) : ∀ x : Bs,∀ ps q,cutAt c x = ps ++ [q] → cutAt c (x ++ t) = ps ++ [q ++ t]:=by
  intro x
  induction x with
  | nil =>
    intro ps q h
    simp only [cutAt] at h
    cases ps with
    | nil => simp only [List.nil_append,List.cons.injEq,and_true] at h;subst h;simp [cutAt_single ht]
    | cons p ps => simp at h
  | cons a r ih =>
    intro ps q h
    simp only [cutAt,List.cons_append] at h ⊢
    by_cases ha : a = c
    · rw [if_pos ha] at h ⊢
      cases ps with
      | nil => simp at h;exact absurd h.2 (cutAt_ne c r)
      | cons p ps =>
        simp only [List.cons_append,List.cons.injEq] at h ⊢
        exact ⟨h.1,ih ps q h.2⟩
    · rw [if_neg ha] at h ⊢
      cases hr : cutAt c r with
      | nil => exact absurd hr (cutAt_ne c r)
      | cons p0 ps0 =>
        rw [hr] at h ih
        simp only at h
        cases ps with
        | nil =>
          simp only [List.nil_append,List.cons.injEq] at h
          obtain ⟨rfl,rfl⟩:=h
          rw [ih [] p0 rfl];rfl
        | cons p ps =>
          simp only [List.cons_append,List.cons.injEq] at h
          rw [ih (p0 :: ps) q (by rw [h.2];rfl)]
          simp [h.1]
theorem cut1_app {c : UInt8} {p q : Bs} (h : c ∉ p) : cut1 c (p ++ q) = (p ++ (cut1 c q).1,(cut1 c q).2.1,(cut1 c q).2.2):=by
  induction p with
  | nil => simp
  | cons a p ih =>
    simp only [List.mem_cons,not_or] at h
    simp only [List.cons_append,cut1,if_neg (Ne.symm h.1),ih h.2]
theorem cut1_sub {c : UInt8} (s : Bs) : ∀ a,a ∈ (cut1 c s).2.1 → a ∈ s:=by
  cases hb : (cut1 c s).2.2 with
  | false => rw [(cut1_false hb).2.1];simp
  | true =>
    have:=(cut1_true hb).1
    intro a ha
    rw [this];simp [ha]
theorem fdA_no {sort : UInt8} {s : Bs} (hb : (cut1 61 s).2.2 = true) (hs : ∀ k,stOk k (cut1 61 s).2.1 = false) : fdA sort s = none:=by
  unfold fdA
  simp only [hb]
  split
  · split
    · rfl
    · split
      · rfl
      · simp
  · split
    · rfl
    · split
      · rfl
      · split
        · rfl
        · split
          · rfl
          · simp [hs]
  · rfl
theorem fdA_fdB (sort : UInt8) (s : Bs) : fdA sort s = fdB sort s:=by
  cases hb : (cut1 61 s).2.2 with
  | false =>
    obtain ⟨h1,h2,h3,_⟩:=cut1_false hb
    unfold fdA fdB
    simp only [hb,h1,h2]
    split
    · simp
    · rename_i a b d heq
      have hd : (61 : UInt8) ∉ d:=fun hc => h3 ((cutAt_mem s d (by rw [heq];simp)).2 _ hc)
      rw [cutAt_single hd]
      split
      · rfl
      · cases plainN a 200 with
        | none => rfl
        | some tag =>
          simp only
          split
          · rfl
          · cases parseK d <;> simp
    · rfl
  | true =>
    obtain ⟨h1,h2,h3⟩:=cut1_true hb
    by_cases hc : (58 : UInt8) ∈ (cut1 61 s).2.1
    · rw [fdA_no hb (fun k => by
        cases hs : stOk k (cut1 61 s).2.1 with
        | false => rfl
        | true => exact absurd hc (stOk_no hs).1)]
      have h61 : (61 : UInt8) ∈ s:=by rw [h1];simp
      unfold fdB
      split
      · rename_i a b heq
        have hj:=cutAt_join 58 s
        rw [heq] at hj
        split
        · rfl
        · cases hp : plainN a 200 with
          | none => rfl
          | some tag =>
            simp only
            split
            · rfl
            · rename_i hh
              exfalso
              simp only [not_or,Nat.not_lt,Bool.not_eq_false] at hh
              rw [← hj] at h61
              simp only [joinAt,List.mem_append,List.mem_cons] at h61
              rcases h61 with h | h | h
              · exact absurd (plainN_dig hp _ h) (by decide)
              · exact absurd h (by decide)
              · exact absurd (isName_low hh.2 _ h) (by decide)
      · rename_i a b d heq
        have hj:=cutAt_join 58 s
        rw [heq] at hj
        split
        · rfl
        · cases hp : plainN a 200 with
          | none => rfl
          | some tag =>
            simp only
            split
            · rfl
            · rename_i hh
              exfalso
              simp only [not_or,Nat.not_lt,Bool.not_eq_false] at hh
              have n1 : (61 : UInt8) ∉ a:=fun h => absurd (plainN_dig hp _ h) (by decide)
              have n2 : (61 : UInt8) ∉ b:=fun h => absurd (isName_low hh.2 _ h) (by decide)
              have e : s = (a ++ 58 :: (b ++ [58])) ++ d:=by rw [← hj];simp [joinAt]
              have n3 : (61 : UInt8) ∉ (a ++ 58 :: (b ++ [58])):=by simp [n1,n2]
              rw [e,cut1_app n3] at hc
              have:=cut1_sub d _ hc
              exact (cutAt_mem s d (by rw [heq];simp)).1 this
      · rfl
    · have e : s = (cut1 61 s).1 ++ 61 :: (cut1 61 s).2.1:=h1
      have hp : cutAt 58 (cut1 61 s).1 = (cutAt 58 (cut1 61 s).1).dropLast ++ [(cutAt 58 (cut1 61 s).1).getLast (cutAt_ne _ _)]:=(List.dropLast_concat_getLast (cutAt_ne _ _)).symm
      have ht:=cutAt_tail (c:=58) (t:=61 :: (cut1 61 s).2.1) (by simp [hc]) _ _ _ hp
      rw [← e] at ht
      generalize hx : (cut1 61 s).1 = x at *
      generalize hv : (cut1 61 s).2.1 = v at *
      generalize hq : (cutAt 58 x).getLast (cutAt_ne _ _) = q at *
      generalize hps : (cutAt 58 x).dropLast = ps at *
      unfold fdA fdB
      simp only [hb,hx,hv,ht,hp]
      have hqx : (61 : UInt8) ∉ q:=fun hh => h2 ((cutAt_mem x q (by rw [hp];simp)).2 _ hh)
      match ps with
      | [] => rfl
      | [a] =>
        simp only [List.cons_append,List.nil_append]
        split
        · rfl
        · cases plainN a 200 with
          | none => rfl
          | some tag =>
            have : isName (q ++ 61 :: v) = false:=by
              cases hn : isName (q ++ 61 :: v) with
              | false => rfl
              | true => exact absurd (isName_low hn 61 (by simp)) (by decide)
            simp [this]
      | [a,b] =>
        simp only [List.cons_append,List.nil_append]
        split
        · rfl
        · cases plainN a 200 with
          | none => rfl
          | some tag =>
            simp only
            split
            · rfl
            · rw [cutAt_app hqx]
              by_cases h61 : (61 : UInt8) ∈ v
              · cases hcv : cutAt 61 v with
                | nil => exact absurd hcv (cutAt_ne _ _)
                | cons g gs =>
                  cases gs with
                  | nil =>
                    have:=cutAt_join 61 v
                    rw [hcv] at this
                    simp only [joinAt] at this
                    subst this
                    exact absurd h61 (cutAt_mem g g (by rw [hcv];simp)).1
                  | cons g2 gs =>
                    simp only
                    cases parseK q with
                    | none => rfl
                    | some k =>
                      have : stOk k v = false:=by
                        cases hs : stOk k v with
                        | false => rfl
                        | true => exact absurd h61 (stOk_no hs).2
                      simp [this]
              · rw [cutAt_single h61]
                simp only
                cases parseK q with
                | none => rfl
                | some k =>
                  by_cases hs : sort = 82
                  · by_cases ho : stOk k v = true
                    · simp [hs,ho]
                    · simp only [Bool.not_eq_true] at ho;simp [hs,ho]
                  · simp [hs]
      | a :: b :: d :: ps => cases ps <;> rfl
end Wf

namespace Go.Proofs.YtmdacedmjbiekaaGreatDoor
open Go.ChangeShapes Go.WideShapes Go.ChangeAt Go.RowKit Go.Lib
set_option linter.unusedVariables false
theorem q_mk {l : List UInt8} (h2 : 2 ≤ l.length) : ∃ a m z,l = a :: (m ++ [z]):=by
  cases l with
  | nil => simp at h2
  | cons a r =>
    have hr : r ≠ []:=by intro e;subst e;simp at h2
    exact ⟨a,r.dropLast,r.getLast hr,by rw [List.dropLast_concat_getLast hr]⟩
theorem q_eq (a z : UInt8) (m : List UInt8) : Wf.quoted (a :: (m ++ [z])) = (decide (a = 39) && decide (z = 39) && m.all Wf.isTxt && decide (m.length ≤ 12)):=by
  unfold Wf.quoted
  rw [List.head?_cons,List.tail_cons,List.getLast?_concat,List.dropLast_concat,List.length_cons,List.length_append,List.length_singleton]
  have e1 : decide (some a = some 39) = decide (a = 39):=by simp
  have e2 : decide (some z = some 39) = decide (z = 39):=by simp
  have e3 : decide (m.length + 1 + 1 ≤ 14) = decide (m.length ≤ 12):=by rw [decide_eq_decide];omega
  rw [e1,e2,e3]
theorem q_short {l : List UInt8} (h : l.length < 2) : Wf.quoted l = false:=by
  match l,h with
  | [],_ => rfl
  | [a],_ => unfold Wf.quoted;simp
theorem q_long {l : List UInt8} (h : 14 < l.length) : Wf.quoted l = false:=by
  unfold Wf.quoted;rw [decide_eq_false (p:=l.length ≤ 14) (by omega),Bool.and_false]
theorem q_first {l : List UInt8} {c : UInt8} (h : l[0]? = some c) (hc : c ≠ 39) : Wf.quoted l = false:=by
  unfold Wf.quoted
  rw [List.head?_eq_getElem?,h,decide_eq_false (by simpa using hc)];rfl
theorem q_last {l : List UInt8} {c : UInt8} (h2 : 2 ≤ l.length) (h : l[l.length - 1]? = some c) (hc : c ≠ 39) : Wf.quoted l = false:=by
  obtain ⟨a,m,z,rfl⟩:=q_mk h2
  have hz : z = c:=by
    rw [← List.cons_append,List.length_append,List.length_singleton,Nat.add_sub_cancel,List.getElem?_append_right (Nat.le_refl _),Nat.sub_self] at h
    simpa using h
  rw [q_eq,decide_eq_false (p:=z = 39) (by rw [hz];exact hc),Bool.and_false,Bool.false_and,Bool.false_and]
theorem q_mid {l : List UInt8} {i : Nat} {c : UInt8} (h2 : 2 ≤ l.length) (h : l[i]? = some c) (h1 : 1 ≤ i) (hi : i < l.length - 1) (hc : Wf.isTxt c = false) : Wf.quoted l = false:=by
  obtain ⟨a,m,z,rfl⟩:=q_mk h2
  have hm : c ∈ m:=by
    simp only [List.length_cons,List.length_append,List.length_nil] at hi
    obtain ⟨j,rfl⟩ : ∃ j,i = j + 1:=⟨i - 1,by omega⟩
    rw [List.getElem?_cons_succ,List.getElem?_append_left (by omega)] at h
    exact List.mem_of_getElem? h
  have : m.all Wf.isTxt = false:=by rw [List.all_eq_false];exact ⟨c,hm,by rw [hc];decide⟩
  rw [q_eq,this,Bool.and_false,Bool.false_and]
theorem q_yes {l : List UInt8} (h2 : 2 ≤ l.length) (h14 : l.length ≤ 14) (h0 : l[0]? = some 39) (hl : l[l.length - 1]? = some 39) (hm : ((l.drop 1).take (l.length - 2)).all Wf.isTxt = true) : Wf.quoted l = true:=by
  obtain ⟨a,m,z,rfl⟩:=q_mk h2
  have hz : z = 39:=by
    rw [← List.cons_append,List.length_append,List.length_singleton,Nat.add_sub_cancel,List.getElem?_append_right (Nat.le_refl _),Nat.sub_self] at hl
    simpa using hl
  have ha : a = 39:=by simpa using h0
  simp only [List.length_cons,List.length_append,List.length_nil] at h14 hm
  rw [List.drop_one,List.tail_cons,show m.length + (0 + 1) + 1 - 2 = m.length by omega,List.take_left' rfl] at hm
  rw [q_eq,hm,decide_eq_true ha,decide_eq_true hz,decide_eq_true (by omega)];rfl
theorem txt_no {c : UInt8} (h1 : c.toNat ≠ 32) (h2 : c.toNat < 48 ∨ 57 < c.toNat) (h3 : c.toNat < 97 ∨ 122 < c.toNat) : Wf.isTxt c = false:=by
  unfold Wf.isTxt
  have e1 : (c == 32) = false:=by rw [beq_eq_false_iff_ne];intro h;apply h1;rw [h];rfl
  have e2 : (decide (97 ≤ c.toNat) && decide (c.toNat ≤ 122)) = false:=by
    rcases h3 with h | h
    · rw [decide_eq_false (by omega),Bool.false_and]
    · rw [decide_eq_false (p:=c.toNat ≤ 122) (by omega),Bool.and_false]
  have e3 : (decide (48 ≤ c.toNat) && decide (c.toNat ≤ 57)) = false:=by
    rcases h2 with h | h
    · rw [decide_eq_false (by omega),Bool.false_and]
    · rw [decide_eq_false (p:=c.toNat ≤ 57) (by omega),Bool.and_false]
  rw [e1,e2,e3];rfl
theorem txt_yes {c : UInt8} (h : c.toNat = 32 ∨ (48 ≤ c.toNat ∧ c.toNat ≤ 57) ∨ (97 ≤ c.toNat ∧ c.toNat ≤ 122)) : Wf.isTxt c = true:=by
  unfold Wf.isTxt
  rcases h with h | ⟨h1,h2⟩ | ⟨h1,h2⟩
  · have : c = 32:=UInt8.toNat_inj.1 (by rw [h];rfl)
    rw [this];rfl
  · rw [decide_eq_true h1,decide_eq_true h2];simp
  · rw [decide_eq_true h1,decide_eq_true h2];simp
theorem all_step {p : UInt8 → Bool} {l : List UInt8} {k : Nat} {c : UInt8} (h : (l.take k).all p = true) (hc : l[k]? = some c) (hp : p c = true) : (l.take (k + 1)).all p = true:=by
  rw [List.take_add_one,hc,List.all_append,h];simp [hp]
set_option maxRecDepth 20000 in
set_option maxHeartbeats 1000000 in
theorem l3Text (s : ByteArray) (w : World) (hs : s.size ≤ 9223372036854775807) : Calls Tryz.prog 136 #[.string s] w fun e w' => e = .returned (.bool (Wf.quoted s.data.toList)) ∧ w = w':=by
  have hl:=size_list s
  by_cases h2 : s.size < 2
  · have HQ:=hid (q_short (l:=s.data.toList) (by omega))
    clear hl
    go_enter Tryz.func136,Tryz.ntmps136
    go_wp2
    go_ret
    exact ⟨ret_b HQ.out.symm,rfl⟩
  · by_cases h14 : 14 < s.size
    · have HQ:=hid (q_long (l:=s.data.toList) (by omega))
      clear hl
      go_enter Tryz.func136,Tryz.ntmps136
      go_wp2
      go_ret
      exact ⟨ret_b HQ.out.symm,rfl⟩
    · obtain ⟨c0,hc0,e0⟩:=byte_at s 0 (by omega)
      obtain ⟨a,ha⟩ : ∃ a,c0.toNat = a:=⟨_,rfl⟩
      obtain ⟨c9,hc9,e9⟩:=byte_at s (s.size - 1) (by omega)
      obtain ⟨z,hz⟩ : ∃ z,c9.toNat = z:=⟨_,rfl⟩
      rw [ha] at e0
      rw [hz] at e9
      by_cases ha39 : a = 39
      · by_cases hz39 : z = 39
        · subst ha39 hz39
          have H0:=hid (show s.data.toList[0]? = some 39 by rw [hc0];exact congrArg some (UInt8.toNat_inj.1 (by rw [ha];rfl)))
          have H9:=hid (show s.data.toList[s.data.toList.length - 1]? = some 39 by rw [hl,hc9];exact congrArg some (UInt8.toNat_inj.1 (by rw [hz];rfl)))
          have HL:=hid hl
          clear hl hc0 hc9 ha hz
          go_enter Tryz.func136,Tryz.ntmps136
          go_wp2
          go_loop [3,4] (fun i x => ∃ k : Nat,k + 1 < s.size ∧ i = .int .i64 ((k : Int) + 1) ∧ Hid (((s.data.toList.drop 1).take k).all Wf.isTxt = true)) (fun i _ => s.size - (RowKit.intOf i).toNat)
          case atStart => exact ⟨0,by omega,rfl,hid (show _ = true by simp)⟩
          case round =>
            obtain ⟨k,hk,rfl,hd⟩:=hrel
            by_cases hlt : k + 2 < s.size
            · obtain ⟨c,hc,e1⟩:=byte_at s (k + 1) (by omega)
              obtain ⟨b,hb⟩ : ∃ b,c.toNat = b:=⟨_,rfl⟩
              rw [hb] at e1
              have HC:=hid hc
              have HB:=hid hb
              have HC2:=hid (show (s.data.toList.drop 1)[k]? = some c by rw [List.getElem?_drop,Nat.add_comm];exact hc)
              clear hc hb
              have bad : b ≠ 32 → (b < 48 ∨ 57 < b) → (b < 97 ∨ 122 < b) → Hid (false = Wf.quoted s.data.toList):=fun g1 g2 g3 => hid (show _ = _ from (q_mid (by rw [HL.out];omega) HC.out (by omega) (by rw [HL.out];omega) (txt_no (by rw [HB.out];exact g1) (by rw [HB.out];exact g2) (by rw [HB.out];exact g3))).symm)
              have good : (b = 32 ∨ (48 ≤ b ∧ b ≤ 57) ∨ (97 ≤ b ∧ b ≤ 122)) → Hid (((s.data.toList.drop 1).take (k + 1)).all Wf.isTxt = true):=fun g => hid (show _ = _ from all_step hd.out HC2.out (txt_yes (by rw [HB.out];exact g)))
              by_cases h32 : b = 32
              · have G:=good (.inl h32)
                clear good bad
                subst h32
                go_wp2
                go_round
                case rel => exact ⟨k + 1,by omega,by go_num,G⟩
                case measure => simp [RowKit.intOf];omega
              · have t32 : ((b : Int) != 32) = true:=by rw [bne_iff_ne];omega
                by_cases h48 : b < 48
                · have G:=bad h32 (.inl h48) (.inl (by omega))
                  clear good bad h32
                  go_wp2
                  go_ret
                  exact ⟨ret_b G.out,rfl⟩
                · by_cases h57 : 57 < b
                  · by_cases h97 : b < 97
                    · have G:=bad h32 (.inr h57) (.inl h97)
                      clear good bad h32
                      go_wp2
                      go_ret
                      exact ⟨ret_b G.out,rfl⟩
                    · by_cases h122 : 122 < b
                      · have G:=bad h32 (.inr h57) (.inr h122)
                        clear good bad h32
                        go_wp2
                        go_ret
                        exact ⟨ret_b G.out,rfl⟩
                      · have G:=good (.inr (.inr ⟨by omega,by omega⟩))
                        clear good bad h32
                        go_wp2
                        go_round
                        case rel => exact ⟨k + 1,by omega,by go_num,G⟩
                        case measure => simp [RowKit.intOf];omega
                  · have G:=good (.inr (.inl ⟨by omega,by omega⟩))
                    clear good bad h32
                    go_wp2
                    go_round
                    case rel => exact ⟨k + 1,by omega,by go_num,G⟩
                    case measure => simp [RowKit.intOf];omega
            · have hks : k + 2 = s.size:=by omega
              have HF:=hid (show true = Wf.quoted s.data.toList from (q_yes (by rw [HL.out];omega) (by rw [HL.out];omega) H0.out H9.out (by rw [HL.out,show s.size - 2 = k by omega];exact hd.out)).symm)
              clear hks
              go_wp2
              go_ret
              exact ⟨ret_b HF.out,rfl⟩
        · have HQ:=hid (show false = Wf.quoted s.data.toList from (q_last (by omega) (by rw [hl];exact hc9) (fun h => hz39 (by rw [← hz,h];rfl))).symm)
          have tz : ((z : Int) != 39) = true:=by rw [bne_iff_ne];omega
          subst ha39
          clear hl hc0 hc9 ha hz hz39
          go_enter Tryz.func136,Tryz.ntmps136
          go_wp2
          go_ret
          exact ⟨ret_b HQ.out,rfl⟩
      · have HQ:=hid (show false = Wf.quoted s.data.toList from (q_first hc0 (fun h => ha39 (by rw [← ha,h];rfl))).symm)
        have ta : ((a : Int) != 39) = true:=by rw [bne_iff_ne];omega
        clear hl hc0 hc9 ha hz ha39
        go_enter Tryz.func136,Tryz.ntmps136
        go_wp2
        go_ret
        exact ⟨ret_b HQ.out,rfl⟩
def stT (kt s : List UInt8) : Bool :=
  if kt = [110] then (match Wf.plainN s 999999 with | some m => decide (0 < m) | none => false)
  else if kt = [116] then Wf.quoted s && decide (s ≠ [39,39])
  else if kt = [102] then decide (s = [121,101,115]) else false
theorem stT_eq (kt s : List UInt8) : stT kt s = match Wf.parseK kt with | some k => Wf.stOk k s | none => false:=by
  unfold stT
  by_cases h1 : kt = [110]
  · subst h1;rfl
  · by_cases h2 : kt = [116]
    · subst h2;rfl
    · by_cases h3 : kt = [102]
      · subst h3;rfl
      · rw [if_neg h1,if_neg h2,if_neg h3]
        cases hp : Wf.parseK kt with
        | none => rfl
        | some k =>
          have ht:=parse_text hp
          cases k with
          | num => exact absurd ht.symm h1
          | txt => exact absurd ht.symm h2
          | flag => exact absurd ht.symm h3
          | ref n => rfl
          | list k => rfl
          | opt k => rfl
theorem toList_eq_iff (s : ByteArray) (l : List UInt8) : (s.toList == l) = decide (s.data.toList = l):=by rw [ByteArray.toList_eq,Bool.beq_eq_decide_eq]
set_option maxRecDepth 20000 in
set_option maxHeartbeats 1000000 in
theorem l3Stand (k s : ByteArray) (w : World) (hs : s.size ≤ 9223372036854775807) : Calls Tryz.prog 171 #[.string k, .string s] w fun e w' => e = .returned (.bool (stT k.data.toList s.data.toList)) ∧ Below w.heap.size w w':=by
  cases g1 : (k.toList == [110])
  · cases g2 : (k.toList == [116])
    · cases g3 : (k.toList == [102])
      · have HR:=hid (show false = stT k.data.toList s.data.toList by
          rw [toList_eq_iff] at g1 g2 g3
          unfold stT
          rw [if_neg (of_decide_eq_false g1),if_neg (of_decide_eq_false g2),if_neg (of_decide_eq_false g3)])
        go_enter Tryz.func171,Tryz.ntmps171
        go_wp2_with fail
        go_ret
        exact ⟨ret_b HR.out,Below.refl _ _⟩
      · have HR:=hid (show (s.toList == [121,101,115]) = stT k.data.toList s.data.toList by
          rw [toList_eq_iff] at g1 g2 g3 ⊢
          unfold stT
          rw [if_neg (of_decide_eq_false g1),if_neg (of_decide_eq_false g2),if_pos (of_decide_eq_true g3)])
        go_enter Tryz.func171,Tryz.ntmps171
        go_wp2_with fail
        go_ret
        exact ⟨ret_b HR.out,Below.refl _ _⟩
    · have HR:=hid (show (Wf.quoted s.data.toList && !(s.toList == [39,39])) = stT k.data.toList s.data.toList by
        rw [toList_eq_iff] at g1 g2 ⊢
        unfold stT
        rw [if_neg (of_decide_eq_false g1),if_pos (of_decide_eq_true g2),decide_not])
      have HT:=hid fun w => l3Text s w hs
      cases hq : Wf.quoted s.data.toList <;> cases h39 : (s.toList == [39,39])
      all_goals
        rw [hq] at HR HT
        rw [h39] at HR
        clear hq
        go_enter Tryz.func171,Tryz.ntmps171
        go_wp2_with (go_at_call 136;refine (HT.out _).mono ?_;rintro e w1 ⟨rfl,rfl⟩)
        go_ret
        exact ⟨ret_b HR.out,Below.refl _ _⟩
  · have HN:=hid fun w => l3Num s 999999 (Nat.le_refl _) w hs
    have HR:=hid (show (match Wf.plainN s.data.toList 999999 with | some m => decide (0 < m) | none => false) = stT k.data.toList s.data.toList by
        rw [toList_eq_iff] at g1
        unfold stT
        rw [if_pos (of_decide_eq_true g1)])
    cases hp : Wf.plainN s.data.toList 999999 with
    | none =>
      rw [hp] at HR
      have HO:=hid fun e (h : NumOut s.data.toList 999999 e) => (by unfold NumOut at h;rw [hp] at h;exact h : ∃ m : Int,e = .returned (.tuple #[.int .i64 m, .bool false]))
      clear hp
      go_enter Tryz.func171,Tryz.ntmps171
      go_wp2_with (go_at_call 135;refine (HN.out _).mono ?_;rintro e w1 ⟨ho,hb⟩;obtain ⟨m,rfl⟩:=HO.out e ho;clear ho)
      go_ret
      exact ⟨ret_b HR.out,hb⟩
    | some n =>
      rw [hp] at HR
      have HO:=hid fun e (h : NumOut s.data.toList 999999 e) => (by unfold NumOut at h;rw [hp] at h;exact h : e = .returned (.tuple #[.int .i64 n, .bool true]))
      have HS:=hid (show (!(s.toList == [48])) = decide (0 < n) by
        obtain ⟨g1,g2,g3⟩:=Wf.plainN_some hp
        rw [toList_eq_iff,g1,← decide_not,decide_eq_decide]
        constructor
        · intro h
          rcases Nat.eq_zero_or_pos n with h0 | h0
          · exact absurd (by rw [h0,Wf.dec_lt (by omega)];rfl) h
          · exact h0
        · intro h he
          have:=Wf.val_dec n
          rw [he] at this
          have h2 : Wf.val [48] = 0:=by decide
          omega)
      clear hp
      cases h48 : (s.toList == [48])
      all_goals
        rw [h48] at HS
        have HF:=hid (HS.out.trans HR.out)
        go_enter Tryz.func171,Tryz.ntmps171
        go_wp2_with (go_at_call 135;refine (HN.out _).mono ?_;rintro e w1 ⟨ho,hb⟩;obtain rfl:=HO.out e ho;clear ho)
        go_ret
        exact ⟨ret_b HF.out,hb⟩

def RowAt (w : World) (b : Nat) (v : Value) (xs : List Value) : Prop :=
  ∃ a cap,v = .slice a xs.length cap ∧ xs.length ≤ cap ∧ cap ≤ maxLen ∧ (xs = [] ∨ ∃ o,a = some ⟨b,o,none⟩ ∧ b < w.heap.size ∧ ∀ i (h : i < xs.length),w.cell? ⟨b,o + i,none⟩ = some xs[i] ∧ w.frozen? ⟨b,o + i,none⟩ = false)
theorem RowAt.keep {w w' : World} {b : Nat} {v : Value} {xs : List Value} (h : RowAt w b v xs) (hs : w.heap.size ≤ w'.heap.size) (hk : b < w.heap.size → w'.heap[b]? = w.heap[b]?) : RowAt w' b v xs:=by
  obtain ⟨a,cap,h1,h2,h3,h4⟩:=h
  refine ⟨a,cap,h1,h2,h3, ?_⟩
  rcases h4 with h4 | ⟨o,h5,h6,h7⟩
  · exact .inl h4
  · refine .inr ⟨o,h5,Nat.lt_of_lt_of_le h6 hs,fun i hi => ?_⟩
    have h8:=hk h6
    exact ⟨(World.cell?_of_block (w:=w) (a:=⟨b,o + i,none⟩) h8).trans (h7 i hi).1,(World.frozen?_of_block (w:=w) (a:=⟨b,o + i,none⟩) h8).trans (h7 i hi).2⟩
theorem RowAt.below {w w' : World} {b B : Nat} {v : Value} {xs : List Value} (h : RowAt w b v xs) (hb : Below B w w') (hB : b < w.heap.size → b < B) : RowAt w' b v xs:=h.keep hb.size fun hx => hb.block b (hB hx)
theorem RowAt.beside {w w' : World} {b rb : Nat} {v : Value} {xs : List Value} (h : RowAt w b v xs) (hb : Beside rb w w') (hB : b ≠ rb) : RowAt w' b v xs:=h.keep hb.size fun hx => hb.block b hx hB
theorem RowAt.drewN {w : World} {b : Nat} {v : Value} {xs : List Value} (h : RowAt w b v xs) (n : Nat) : RowAt (w.drewN n) b v xs:=h.keep (Nat.le_refl _) fun _ => rfl
theorem RowAt.of_owns {w : World} {base : Nat} {e : TypeId} {v : Value} {xs : List Value} (h : w.ownsRow base e 1 v xs.length xs) : ∃ b,base ≤ b ∧ RowAt w b v xs:=by
  obtain ⟨h1,h2 | ⟨g,cap,cur,h3,h4,h5,h6,h7,h8,h9⟩⟩:=h
  · refine ⟨base,Nat.le_refl _,none,0, ?_,by omega,by unfold maxLen;omega, .inl (List.eq_nil_of_length_eq_zero h2.2)⟩
    rw [h2.1,h2.2]
  · refine ⟨g,h4,_,cap,h3,h6,h7, .inr ⟨0,rfl,(Array.getElem?_eq_some_iff.1 h5).1,fun i hi => ?_⟩⟩
    have hx : (cur.toList.take (xs.length * 1))[i]? = xs[i]?:=by rw [h9]
    rw [List.getElem?_take,if_pos (by omega),List.getElem?_eq_getElem hi] at hx
    have hx2 : cur[i]? = some xs[i]:=by simpa using hx
    simp [World.cell?,World.frozen?,h5,hx2]
theorem wpList_append_cell {P : Program} (w : World) {ops : Array Oper} {rest : List Oper} {o : Oper} {a : Act} {Q : Exit → Act → World → Prop} (hgd : o.guard = none) (s x : Operand) (t : TypeId)
    (ho : o.op = .call { callee:=.builtin .append,args:=#[s,x],argTypes:=#[t,t] })
    (base : Nat) (e : TypeId) (z : Value) (bytes : Nat) (ht : P.underlying t = some (.slice e)) (hi : (P.info? e).map (fun i => (i.zero,i.size,i.bytes)) = some (some z,1,bytes)) (hz1 : z.cells.size = 1)
    (v : Value) (xs : List Value) (hs : a.eval s = v) (hown : w.ownsRow base e 1 v xs.length xs)
    (ad : Addr) (u : Value) (hx : a.eval x = .slice (some ad) 1 1) (hc : w.cell? ad = some u) (hu : u.oneCell' = true)
    (hn : (xs.length + 1) * bytes ≤ 140737488355328) (hn1 : xs.length + 1 ≤ 140737488355328) (hbase : base ≤ w.heap.size)
    (h : ∀ v' w',w'.ownsRow base e 1 v' (xs ++ [u]).length (xs ++ [u]) → Below base w w' → wpList P ops Q rest (a.put o.dst v') w') : wpList P ops Q (o :: rest) a w:=by
  obtain ⟨i0,hi0,hz0,hz2,hz3⟩:=info_parts hi
  refine wpList_append_one w hgd s x t ho base e i0 z 1 bytes ht hi0 hz0 hz2 hz3 hz1 (by decide) v xs.length _ hs hown ad [u] hx rfl ?_ ?_ hn hn1 hbase ?_
  · intro j u' hj
    match j,hj with
    | 0,hj => simp at hj;subst hj;simpa [Addr.add] using hc
  · intro u' hu';simp at hu';subst hu';exact hu
  · intro v' w' g1 g2
    refine h v' w' ?_ g2
    have e1 : (xs ++ [u]).length = xs.length + 1:=by simp
    rw [e1]
    exact g1
def digs (n : Nat) : List UInt8:=if n = 0 then [] else digs (n / 10) ++ [UInt8.ofNat (48 + n % 10)]
termination_by n
decreasing_by omega
theorem digs_step {n : Nat} (h : 0 < n) : digs n = digs (n / 10) ++ [UInt8.ofNat (48 + n % 10)]:=by rw [digs,if_neg (by omega)]
theorem digs_len (n : Nat) : (digs n).length ≤ n:=by
  induction n using Nat.strongRecOn with
  | ind n ih =>
    by_cases h : n = 0
    · subst h;rw [digs,if_pos rfl];simp
    · rw [digs_step (by omega),List.length_append,List.length_singleton]
      have:=ih (n / 10) (by omega)
      omega
def mk (n : Nat) : List UInt8:=109 :: digs n
set_option maxRecDepth 20000 in
theorem markText (k : Nat) (hk : k ≤ 4000000) (h0 : 0 < k) (w : World) : Calls Tryz.prog 40 #[.int .i64 k] w fun e w' => e = .returned (tx (mk k)) ∧ Below w.heap.size w w':=by
  have kc:=run_convert_lit (P:=Tryz.prog) 28 9 5 Tryz.underlying28 Tryz.underlying5 Tryz.underlying9
  go_enter Tryz.func40,Tryz.ntmps40
  go_wp2
  go_loopw [0,3] (fun v t wr => ∃ (i : Nat) (s : ByteArray),v = .int .i64 i ∧ t = .string s ∧ i ≤ k ∧ Hid (digs i ++ s.data.toList = digs k) ∧ Hid (Below w.heap.size w wr)) (fun v _ _ => (RowKit.intOf v).toNat)
  case atStart => exact ⟨k,⟨#[]⟩,rfl,rfl,Nat.le_refl _,hid (show _ = _ by simp),hid (Below.refl _ _)⟩
  case round =>
    obtain ⟨i,s,rfl,rfl,hi,hs,hb⟩:=hrel
    have hsz : s.size ≤ 4000000:=by
      have h1:=congrArg List.length hs.out
      have h2:=digs_len k
      rw [List.length_append,size_list] at h1
      omega
    by_cases hlt : 0 < i
    · go_wp2
      go_roundw
      case rel => exact ⟨i / 10,_,by go_num,rfl,by omega,hid (show _ = _ by rw [← hs.out,digs_step hlt,UInt8.ofNat_add];simp),hid (hb.out.alloc hb.out.size _)⟩
      case measure => simp [RowKit.intOf];omega
    · have hi0 : i = 0:=by omega
      subst hi0
      have he : (⟨#[109]⟩ : ByteArray) ++ s = ⟨(mk k).toArray⟩:=by
        rw [eq_list,mk,← hs.out,digs]
        simp
      go_wp2
      go_ret
      exact ⟨rfl,hb.out⟩
def mks (k n : Nat) : List Value:=(List.range n).map fun i => tx (mk (k + i))
theorem mks_len (k n : Nat) : (mks k n).length = n:=by simp [mks]
def Marked (w : World) (b o k n i : Nat) : Prop:=b < w.heap.size ∧ ∀ j,j < n → ∃ s : ByteArray,w.cell? ⟨b,o + j,none⟩ = some (.string s) ∧ w.frozen? ⟨b,o + j,none⟩ = false ∧ (j < i → s = ⟨(mk (k + j)).toArray⟩)
theorem Marked.step {w w2 : World} {b o k n i : Nat} (h : Marked w b o k n i) (hb : Below w.heap.size w w2) (hi : i < n) : Marked (w2.setCell ⟨b,o + i,none⟩ (tx (mk (k + i)))) b o k n (i + 1):=by
  obtain ⟨h1,h2⟩:=h
  refine ⟨Nat.lt_of_lt_of_le (Nat.lt_of_lt_of_le h1 hb.size) (by simp),fun j hj => ?_⟩
  obtain ⟨s,h3,h4,h5⟩:=h2 j hj
  have h3' : w2.cell? ⟨b,o + j,none⟩ = some (.string s):=by rw [hb.cell (p:=⟨b,o + j,none⟩) h1];exact h3
  have h4' : w2.frozen? ⟨b,o + j,none⟩ = false:=by rw [hb.frozen (p:=⟨b,o + j,none⟩) h1];exact h4
  by_cases hji : j = i
  · subst hji
    exact ⟨_,World.cell?_setCell_same w2 _ _ h3',by simpa using h4',fun _ => rfl⟩
  · exact ⟨s,(World.cell?_setCell_other w2 _ _ _ (by first | (simp;done) | (simp;omega))).trans h3',by simpa using h4',fun hlt => h5 (by omega)⟩
set_option maxRecDepth 20000 in
theorem marked (k : Nat) (h0 : 0 < k) (b : Nat) (v : Value) (w : World) (l : List (List UInt8)) (hn : l.length + k ≤ 2000000) (H : RowAt w b v (l.map tx)) : Calls Tryz.prog 17 #[v, .int .i64 k] w fun e w' => e = .returned (.int .i64 ((k : Int) + l.length)) ∧ RowAt w' b v (mks k l.length) ∧ Beside b w w':=by
  obtain ⟨a,c,rfl,h11,h12,h13⟩:=H
  obtain ⟨n,hn2⟩ : ∃ n,l.length = n:=⟨_,rfl⟩
  have hnl : (l.map tx).length = n:=by rw [List.length_map,hn2]
  have hmm : ∀ w' : World,(∀ o,a = some ⟨b,o,none⟩ → 0 < n → Marked w' b o k n n) → RowAt w' b (.slice a n c) (mks k n):=by
    intro w' hm
    refine ⟨a,c,by rw [mks_len],by rw [mks_len,← hnl];exact h11,h12, ?_⟩
    rcases h13 with h13 | ⟨o,ha,h14,h15⟩
    · refine .inl (List.eq_nil_of_length_eq_zero ?_)
      rw [mks_len,← hnl,h13];rfl
    · rcases Nat.eq_zero_or_pos n with hz | hz
      · exact .inl (List.eq_nil_of_length_eq_zero (by rw [mks_len];exact hz))
      obtain ⟨h1,h2⟩:=hm o ha hz
      refine .inr ⟨o,ha,h1,fun i hi => ?_⟩
      rw [mks_len] at hi
      obtain ⟨s,h3,h4,h5⟩:=h2 i hi
      have h6:=h5 hi
      subst h6
      exact ⟨by rw [h3];simp [mks],h4⟩
  have hst : ∀ o,a = some ⟨b,o,none⟩ → 0 < n → Marked w b o k n 0:=by
    intro o ha hz
    rcases h13 with h13 | ⟨o',ha',h14,h15⟩
    · exact absurd hnl (by rw [h13];simp;omega)
    · obtain rfl : o' = o:=by rw [ha] at ha';simpa using ha'.symm
      refine ⟨h14,fun j hj => ?_⟩
      have h16:=h15 j (by rw [hnl];exact hj)
      rw [List.getElem_map] at h16
      exact ⟨_,h16.1,h16.2,fun h => by omega⟩
  have hex : 0 < n → ∃ o,a = some ⟨b,o,none⟩:=by
    intro hz
    rcases h13 with h13 | ⟨o',ha',h14,h15⟩
    · exact absurd hnl (by rw [h13];simp;omega)
    · exact ⟨o',ha'⟩
  have HMM:=hid hmm
  have HST:=hid hst
  have HEX:=hid hex
  rw [hn2] at hn ⊢
  rw [hnl] at h11 ⊢
  clear hmm hst hex h13 hnl hn2
  go_enter Tryz.func17,Tryz.ntmps17
  go_wp2
  go_loopw [1,5] (fun u v wr => ∃ (i : Nat),v = .int .i64 i ∧ u = .int .i64 ((k : Int) + i) ∧ i ≤ n ∧ Hid (Beside b w wr) ∧ Hid (∀ o,a = some ⟨b,o,none⟩ → 0 < n → Marked wr b o k n i)) (fun _ v _ => n - (RowKit.intOf v).toNat)
  case atStart => exact ⟨0,rfl,by simp,by omega,hid (Beside.refl _ _),HST⟩
  case round =>
    obtain ⟨i,rfl,rfl,hi,hb,hm⟩:=hrel
    by_cases hlt : i < n
    · obtain ⟨o,ha⟩:=HEX.out (by omega)
      have hm1:=hm.out o ha (by omega)
      subst ha
      obtain ⟨s,h3,h4,_⟩:=hm1.2 i hlt
      have HM1:=hid hm1
      have HC3:=hid h3
      have HC4:=hid h4
      have hbw:=hm1.1
      have HT:=hid fun w => markText (k + i) (by omega) (by omega) w
      rw [Int.natCast_add] at HT
      clear hm1 h3 h4 HST HEX hm
      go_wp2_with (go_at_call 40;refine (HT.out _).mono ?_;rintro e w2 ⟨rfl,hb2⟩;have p2 : w2.cell? ⟨b,o + i,none⟩ = some (.string s):=(by rw [hb2.cell (p:=⟨b,o + i,none⟩) hbw];exact HC3.out);have p3 : w2.frozen? ⟨b,o + i,none⟩ = false:=(by rw [hb2.frozen (p:=⟨b,o + i,none⟩) hbw];exact HC4.out);have HB2:=hid hb2;clear hb2)
      go_roundw
      case rel => exact ⟨i + 1,by go_num,by go_num,by omega,hid ((hb.out.trans (Beside.of_below HB2.out (Nat.le_refl _))).trans (Beside.set b w2 _ _)),hid fun o' ho' _ => by
        obtain rfl : o = o':=by simpa using ho'
        exact HM1.out.step HB2.out hlt⟩
      case measure => simp [RowKit.intOf];omega
    · have hin : i = n:=by omega
      subst hin
      go_wp2
      go_ret
      exact ⟨rfl,HMM.out _ hm.out,hb.out⟩
end Go.Proofs.YtmdacedmjbiekaaGreatDoor
