/- Packed by pack.py: Jf Jg Ib La5 Dt PlainA PlainF PlainG PlainH PlainI PlainJ PlainK PlainL PlainM PlainP PlainQ. -/
import Derived.Test.YtmdacedmjbiekaaGreatDoorR24
import Derived.Test.YtmdacedmjbiekaaGreatDoorR5
import Derived.Test.YtmdacedmjbiekaaGreatDoorR17
import Derived.Test.YtmdacedmjbiekaaGreatDoorR0
import Derived.Test.YtmdacedmjbiekaaGreatDoorR15
namespace Go.Proofs.YtmdacedmjbiekaaGreatDoor
open Go.ChangeShapes Go.WideShapes Go.ChangeAt Go.RowKit Go.Lib
set_option linter.unusedVariables false
set_option linter.unusedSimpArgs false
theorem RsOut.ok {l : List UInt8} {lo : Nat} {e : Ending} {w' : World} (h : RsOut l lo e w') : ∃ p,e = .returned (.tuple #[.pointer p, .bool (okL l)]):=by
  unfold RsOut at h
  unfold okL
  cases hl : Wf.schemaOf l with
  | none => rw [hl] at h;exact h
  | some x => rw [hl] at h;obtain ⟨sb,he,_⟩:=h;exact ⟨_,he⟩
theorem TnOut.no {l nm : List UInt8} {lo : Nat} {e : Ending} {w' : World} (h : TnOut l nm lo e w') (hl : typeIn l nm = none) : e = .returned (.tuple #[.pointer none, .pointer none, .bool false]):=by
  unfold TnOut at h;rw [hl] at h;exact h
theorem TnOut.yes {l nm : List UInt8} {lo : Nat} {e : Ending} {w' : World} {y : Wf.Sc × Wf.Ty} (h : TnOut l nm lo e w') (hl : typeIn l nm = some y) : ∃ sb tb,e = .returned (.tuple #[ptr sb,ptr tb, .bool true]) ∧ ScL w' lo sb y.1 ∧ TyL w' lo tb y.2:=by
  unfold TnOut at h;rw [hl] at h;exact h
theorem BothOut.no {l kt : List UInt8} {lo : Nat} {e : Ending} {w' : World} (h : BothOut l kt lo e w') (hl : kindOf l kt = none) : ∃ p a b c,e = .returned (.tuple #[.pointer p, .agg #[.string a, .string b, .string c], .bool false]):=by
  unfold BothOut at h;rw [hl] at h;exact h
theorem BothOut.yes {l kt : List UInt8} {lo : Nat} {e : Ending} {w' : World} {y : Wf.Sc × Wf.K} (h : BothOut l kt lo e w') (hl : kindOf l kt = some y) : ∃ sb,e = .returned (.tuple #[ptr sb,kV y.2, .bool true]) ∧ ScL w' lo sb y.1:=by
  unfold BothOut at h;rw [hl] at h;exact h

theorem FieldOut.no {W : World} {t : Wf.Ty} {g : Int} {e : Ending} (h : FieldOut W t g e) (hl : fieldI t g = none) : e = .returned (.pointer none):=by
  unfold FieldOut at h;rw [hl] at h;exact h
theorem FieldOut.yes {W : World} {t : Wf.Ty} {g : Int} {e : Ending} {f : Wf.Fd} (h : FieldOut W t g e) (hl : fieldI t g = some f) : ∃ fb o,e = .returned (.pointer (some ⟨fb,o,none⟩)) ∧ FdAt W fb o t.sort f:=by
  unfold FieldOut at h;rw [hl] at h;exact h

abbrev ix (g : Nat) : Value:=.int .i64 (g : Int)
def MarkedI (w : World) (b o k n i : Nat) : Prop:=b < w.heap.size ∧ ∀ j,j < n → ∃ s : Int,w.cell? ⟨b,o + j,none⟩ = some (.int .i64 s) ∧ w.frozen? ⟨b,o + j,none⟩ = false ∧ (j < i → s = ((k + j : Nat) : Int))
theorem MarkedI.step {w : World} {b o k n i : Nat} (h : MarkedI w b o k n i) (hi : i < n) : MarkedI (w.setCell ⟨b,o + i,none⟩ (.int .i64 ((k : Int) + i))) b o k n (i + 1):=by
  obtain ⟨h1,h2⟩:=h
  refine ⟨Nat.lt_of_lt_of_le h1 (by simp),fun j hj => ?_⟩
  obtain ⟨s,h3,h4,h5⟩:=h2 j hj
  by_cases hji : j = i
  · subst hji
    exact ⟨_,World.cell?_setCell_same w _ _ h3,by simpa using h4,fun _ => by simp⟩
  · exact ⟨s,(World.cell?_setCell_other w _ _ _ (by first | (simp;done) | (simp;omega))).trans h3,by simpa using h4,fun hlt => h5 (by omega)⟩
end Go.Proofs.YtmdacedmjbiekaaGreatDoor

namespace Go.Proofs.YtmdacedmjbiekaaGreatDoor
open Go.ChangeShapes Go.WideShapes Go.ChangeAt Go.RowKit Go.Lib
set_option linter.unusedVariables false
theorem ml_of (w : World) (h : w.ShapedOpen Tryz.prog) : ∃ m,ML m w:=Tryz.laysM145.s1_3 w h
theorem RowAt.lt {w : World} {b : Nat} {v : Value} {xs : List Value} (h : RowAt w b v xs) : xs = [] ∨ b < w.heap.size:=by
  obtain ⟨a,cap,h1,h2,h3,h4 | ⟨o,h5,h6,h7⟩⟩:=h
  · exact .inl h4
  · exact .inr h6
theorem ML.drewN {m : Int} {w : World} (h : ML m w) (n : Nat) : ML m (w.drewN n):=h.below (bel_drewN (Below.refl _ _) n)
theorem ML.beside {m : Int} {w w' : World} {rb : Nat} (h : ML m w) (hb : Beside rb w w') (hn : 0 ≠ rb) : ML m w':=(hb.cell (p:=⟨0,0,none⟩) h.lt hn).trans h
theorem ML.ne {m : Int} {w : World} {k : Nat} (h : ML m w) (hk : w.heap.size ≤ k) : 0 ≠ k:=by have:=h.lt;omega
end Go.Proofs.YtmdacedmjbiekaaGreatDoor

namespace Go.Proofs.YtmdacedmjbiekaaGreatDoor
open Go.ChangeShapes Go.WideShapes Go.ChangeAt Go.RowKit Go.Lib
set_option linter.unusedVariables false
set_option linter.unusedSimpArgs false
end Go.Proofs.YtmdacedmjbiekaaGreatDoor

namespace Wf
set_option linter.unusedVariables false
set_option linter.unusedSimpArgs false
def putN (n : Nat) : Bs:=if n < 128 then [UInt8.ofNat n] else UInt8.ofNat (128 + n % 128) :: putN (n / 128)
termination_by n
decreasing_by omega
theorem toNat_ofNat {n : Nat} (h : n < 256) : (UInt8.ofNat n).toNat = n:=by simp [UInt8.toNat_ofNat'];omega
end Wf

namespace Wf
set_option linter.unusedVariables false
set_option linter.unusedSimpArgs false
theorem numTok_some {most n : Nat} {s r : Bs} (h : numTok most s = some (n,r)) :
    s = dec n ++ r ∧ n ≤ most ∧ n ≤ 999999 ∧ (∀ c,r.head? = some c → isDig c = false):=by
  unfold numTok at h
  cases hp : plainN (s.takeWhile isDig) most with
  | none => rw [hp] at h;simp at h
  | some m =>
    rw [hp] at h
    simp only [Option.map_some,Option.some.injEq,Prod.mk.injEq] at h
    obtain ⟨rfl,rfl⟩:=h
    obtain ⟨h1,h2,h3⟩:=plainN_some hp
    refine ⟨by rw [← h1,List.takeWhile_append_dropWhile],h2,h3,fun c hc => ?_⟩
    have:=List.head?_dropWhile_not isDig s
    rw [hc] at this
    simpa using this
theorem commas_cons (a : Bs) {l : List Bs} (h : l ≠ []) : commas (a :: l) = a ++ 44 :: commas l:=by
  cases l with
  | nil => exact absurd rfl h
  | cons b l => rfl
theorem itemsW_say {p : Reads} {Q : V → Prop} (hp : ∀ s v r,p s = some (v,r) → Q v ∧ s = v.print ++ r) :
    ∀ (m : Nat) (s : Bs) (l : List V) (r : Bs),itemsW p m s = some (l,r) → l ≠ [] ∧ (∀ u,u ∈ l → Q u) ∧ s = commas (l.map V.print) ++ 93 :: r:=by
  intro m
  induction m with
  | zero => intro s l r h;simp [itemsW] at h
  | succ m ih =>
    intro s l r h
    simp only [itemsW] at h
    cases hq : p s with
    | none => rw [hq] at h;simp at h
    | some y =>
      obtain ⟨v,rest⟩:=y
      rw [hq] at h
      obtain ⟨h1,h2⟩:=hp _ _ _ hq
      simp only at h
      split at h
      · rename_i r'
        cases hi : itemsW p m r' with
        | none => rw [hi] at h;simp at h
        | some y =>
          obtain ⟨l',q⟩:=y
          rw [hi] at h
          simp only [Option.map_some,Option.some.injEq,Prod.mk.injEq] at h
          obtain ⟨rfl,rfl⟩:=h
          obtain ⟨h3,h4,h5⟩:=ih _ _ _ hi
          refine ⟨by simp,by simpa using ⟨h1,h4⟩, ?_⟩
          rw [List.map_cons,commas_cons _ (by simpa using h3),h2,h5];simp
      · simp only [Option.some.injEq,Prod.mk.injEq] at h
        obtain ⟨rfl,rfl⟩:=h
        exact ⟨by simp,by simpa using h1,by rw [h2];simp [commas]⟩
      · simp at h
theorem field_tag {t : Ty} {g : Nat} {f : Fd} (h : t.field g = some f) : f.tag = g:=by
  have:=List.find?_some h
  simpa using this
theorem fieldTok_say {t : Ty} {p : K → Reads} {Q : Fd → V → Prop} (hp : ∀ f s v r,p f.kind s = some (v,r) → Q f v ∧ s = v.print ++ r)
    {s : Bs} {f : Fd} {v : V} {r : Bs} (h : fieldTok t p s = some (f,v,r)) :
    t.field f.tag = some f ∧ f.tag ≤ 200 ∧ Q f v ∧ s = dec f.tag ++ 61 :: (v.print ++ r):=by
  unfold fieldTok at h
  cases hn : numTok 200 s with
  | none => rw [hn] at h;simp at h
  | some y =>
    obtain ⟨tag,rest⟩:=y
    rw [hn] at h
    obtain ⟨h1,h2,_,_⟩:=numTok_some hn
    simp only at h
    cases hf : t.field tag with
    | none => rw [hf] at h;simp at h
    | some f' =>
      rw [hf] at h
      cases rest with
      | nil => simp at h
      | cons c q =>
        by_cases hc : c = 61
        · subst hc
          simp only at h
          cases hq : p f'.kind q with
          | none => rw [hq] at h;simp at h
          | some y =>
            obtain ⟨v',r'⟩:=y
            rw [hq] at h
            simp only [Option.map_some,Option.some.injEq,Prod.mk.injEq] at h
            obtain ⟨rfl,rfl,rfl⟩:=h
            obtain ⟨h3,h4⟩:=hp _ _ _ _ hq
            have ht:=field_tag hf
            subst ht
            exact ⟨hf,h2,h3,by rw [h1,h4]⟩
        · split at h
          · rename_i heq _
            simp only [List.cons.injEq] at heq
            exact absurd heq.1 hc
          · simp at h
def tagged (e : Fd × V) : V:=.mk 61 [] e.1.tag [e.2]
theorem tagged_print (e : Fd × V) : (tagged e).print = dec e.1.tag ++ 61 :: e.2.print:=by
  simp [tagged,V.print,V.prints,form,commas]
theorem fieldsW_say {x : Sc} {t : Ty} {p : K → Reads} {Q : Fd → V → Prop} (hp : ∀ f s v r,p f.kind s = some (v,r) → Q f v ∧ s = v.print ++ r) :
    ∀ (m last : Nat) (s : Bs) (l : List V) (r : Bs),fieldsW x t p m last s = some (l,r) →
      ∃ es : List (Fd × V),es ≠ [] ∧ l = es.map tagged ∧ (last :: es.map (fun e => e.1.tag)).Pairwise (· < ·) ∧
        (∀ e,e ∈ es → t.field e.1.tag = some e.1 ∧ e.1.tag ≤ 200 ∧ Q e.1 e.2 ∧ e.2.print ≠ standF x e.1) ∧
        s = commas (l.map V.print) ++ 125 :: r:=by
  intro m
  induction m with
  | zero => intro last s l r h;simp [fieldsW] at h
  | succ m ih =>
    intro last s l r h
    simp only [fieldsW] at h
    cases hq : fieldTok t p s with
    | none => rw [hq] at h;simp at h
    | some y =>
      obtain ⟨f,v,rest⟩:=y
      rw [hq] at h
      obtain ⟨h1,h2,h3,h4⟩:=fieldTok_say hp hq
      simp only at h
      by_cases hc : f.tag ≤ last ∨ v.print = standF x f
      · rw [if_pos hc] at h;simp at h
      · rw [if_neg hc] at h
        simp only [not_or,Nat.not_le] at hc
        obtain ⟨hc1,hc2⟩:=hc
        split at h
        · rename_i r'
          cases hi : fieldsW x t p m f.tag r' with
          | none => rw [hi] at h;simp at h
          | some y =>
            obtain ⟨l',q⟩:=y
            rw [hi] at h
            simp only [Option.map_some,Option.some.injEq,Prod.mk.injEq] at h
            obtain ⟨rfl,rfl⟩:=h
            obtain ⟨es,e1,rfl,e3,e4,e5⟩:=ih _ _ _ _ hi
            refine ⟨(f,v) :: es,by simp,rfl, ?_, ?_, ?_⟩
            · simp only [List.map_cons]
              refine List.pairwise_cons.2 ⟨?_,e3⟩
              intro a ha
              rcases List.mem_cons.1 ha with rfl | ha
              · exact hc1
              · exact Nat.lt_trans hc1 ((List.pairwise_cons.1 e3).1 a ha)
            · intro e he
              rcases List.mem_cons.1 he with rfl | he
              · exact ⟨h1,h2,h3,hc2⟩
              · exact e4 e he
            · rw [List.map_cons,commas_cons _ (by simpa using e1),h4,e5]
              have:=tagged_print (f,v)
              simp only [tagged] at this
              rw [this];simp
        · simp only [Option.some.injEq,Prod.mk.injEq] at h
          obtain ⟨rfl,rfl⟩:=h
          refine ⟨[(f,v)],by simp,rfl, ?_, ?_, ?_⟩
          · simpa using hc1
          · intro e he;simp at he;subst he;exact ⟨h1,h2,h3,hc2⟩
          · have:=tagged_print (f,v)
            simp only [tagged] at this
            rw [h4];simp [commas,this]
        · simp at h
end Wf

namespace Wf
set_option linter.unusedVariables false
set_option linter.unusedSimpArgs false
theorem dec_cons (n : Nat) : ∃ c t,dec n = c :: t ∧ isDig c = true:=by
  have h:=dec_all n
  cases hd : dec n with
  | nil => exact absurd hd (dec_ne n)
  | cons c t => rw [hd] at h;simp at h;exact ⟨c,t,rfl,h.1⟩
theorem isDig_ne {c : UInt8} (h : isDig c = true) : c ≠ 93 ∧ c ≠ 125 ∧ c ≠ 44 ∧ c ≠ 62:=by
  simp only [isDig,Bool.and_eq_true,decide_eq_true_eq] at h
  refine ⟨?_, ?_, ?_, ?_⟩ <;> (intro e;subst e;revert h;decide)
theorem print_tag (tag : Nat) (v : V) : (V.mk 61 [] tag [v]).print = dec tag ++ 61 :: v.print:=tagged_print (⟨tag,[], .num,[]⟩,v)
theorem print_list (l : List V) : (V.mk 91 [] 0 l).print = 91 :: (commas (l.map V.print) ++ [93]):=by simp [V.print,form,V.prints_map]
theorem print_rec (l : List V) : (V.mk 82 [] 0 l).print = 123 :: (commas (l.map V.print) ++ [125]):=by simp [V.print,form,V.prints_map]
theorem print_none : (V.mk 63 [] 0 []).print = [45]:=by simp [V.print,form,V.prints_map]
theorem print_some (v : V) : (V.mk 63 [] 0 [v]).print = 43 :: v.print:=by simp [V.print,form,V.prints_map,commas]
theorem print_uni (tag : Nat) (v : V) : (V.mk 85 [] tag [v]).print = 60 :: (dec tag ++ 61 :: (v.print ++ [62])):=by simp [V.print,form,V.prints_map,commas]
theorem print_enm (tag : Nat) : (V.mk 69 [] tag []).print = 35 :: dec tag:=by simp [V.print,form]
theorem print_txt (b : Bs) : (V.mk 116 b 0 []).print = 39 :: (b ++ [39]):=by simp [V.print,form]
theorem print_num (b : Bs) : (V.mk 110 b 0 []).print = b:=by simp [V.print,form]
theorem print_flag (b : Bs) : (V.mk 102 b 0 []).print = b:=by simp [V.print,form]
theorem print_head {x : Sc} {n : Nat} {k : K} {v : V} (h : Typed x n k v) : ∃ c t,v.print = c :: t ∧ c ≠ 93 ∧ c ≠ 125:=by
  cases n with
  | zero => simp [Typed] at h
  | succ n =>
    cases k with
    | num =>
      obtain ⟨m,_,rfl⟩:=h
      obtain ⟨c,t,hd,hc⟩:=dec_cons m
      exact ⟨c,t,by rw [print_num,hd],(isDig_ne hc).1,(isDig_ne hc).2.1⟩
    | txt => obtain ⟨b,_,_,rfl⟩:=h;exact ⟨_,_,print_txt b,by decide,by decide⟩
    | flag =>
      rcases h with rfl | rfl
      · exact ⟨_,_,print_flag _,by decide,by decide⟩
      · exact ⟨_,_,print_flag _,by decide,by decide⟩
    | list k => obtain ⟨l,_,_,rfl⟩:=h;exact ⟨_,_,print_list l,by decide,by decide⟩
    | opt k =>
      rcases h with rfl | ⟨u,_,rfl⟩
      · exact ⟨_,_,print_none,by decide,by decide⟩
      · exact ⟨_,_,print_some u,by decide,by decide⟩
    | ref nm =>
      obtain ⟨t,_,h⟩:=h
      rcases h with ⟨_,f,_,_,rfl⟩ | ⟨_,_,f,u,_,_,_,rfl⟩ | ⟨_,_,l,_,_,rfl⟩
      · exact ⟨_,_,print_enm _,by decide,by decide⟩
      · exact ⟨_,_,print_uni _ _,by decide,by decide⟩
      · exact ⟨_,_,print_rec _,by decide,by decide⟩
theorem isTxt_39 : isTxt 39 = false:=by decide
theorem closeU_some {g : Nat} {u v : V} {s r : Bs} (h : closeU g u s = some (v,r)) : ∃ q,s = 62 :: q ∧ v = .mk 85 [] g [u] ∧ r = q:=by
  unfold closeU at h
  split at h
  · rename_i q
    simp only [Option.some.injEq,Prod.mk.injEq] at h
    exact ⟨q,rfl,h.1.symm,h.2.symm⟩
  · simp at h
theorem parseTy_say {x : Sc} {n : Nat} {t : Ty} {s r : Bs} {v : V} {nm : Bs} (ht : x.find nm = some t)
    (ih : ∀ k s v r,parse x n k s = some (v,r) → Typed x n k v ∧ s = v.print ++ r)
    (h : parseTy x (fun k' s' => parse x n k' s') t s = some (v,r)) : Typed x (n + 1) (.ref nm) v ∧ s = v.print ++ r:=by
  have hp : ∀ (f : Fd) (s : Bs) (v : V) (r : Bs),(fun k' s' => parse x n k' s') f.kind s = some (v,r) → Typed x n f.kind v ∧ s = v.print ++ r:=fun f s v r hh => ih _ _ _ _ hh
  unfold parseTy at h
  by_cases h1 : t.sort = 69
  · rw [if_pos h1] at h
    cases s with
    | nil => simp at h
    | cons c q =>
      by_cases hc : c = 35
      · subst hc
        simp only at h
        cases hn : numTok 200 q with
        | none => rw [hn] at h;simp at h
        | some y =>
          obtain ⟨tag,rest⟩:=y
          rw [hn] at h
          simp only at h
          split at h
          · rename_i hs
            simp only [Option.some.injEq,Prod.mk.injEq] at h
            obtain ⟨rfl,rfl⟩:=h
            obtain ⟨f,hf⟩:=Option.isSome_iff_exists.1 hs
            have e:=field_tag hf
            subst e
            obtain ⟨g1,g2,_,_⟩:=numTok_some hn
            exact ⟨⟨t,ht, .inl ⟨h1,f,hf,g2,rfl⟩⟩,by rw [print_enm,g1];rfl⟩
          · simp at h
      · split at h
        · rename_i heq;simp only [List.cons.injEq] at heq;exact absurd heq.1 hc
        · simp at h
  · rw [if_neg h1] at h
    by_cases h2 : t.sort = 85
    · rw [if_pos h2] at h
      cases s with
      | nil => simp at h
      | cons c q =>
        by_cases hc : c = 60
        · subst hc
          simp only at h
          cases hf : fieldTok t (fun k' s' => parse x n k' s') q with
          | none => rw [hf] at h;simp at h
          | some y =>
            obtain ⟨f,u,rest⟩:=y
            rw [hf] at h
            obtain ⟨a1,a2,a3,a4⟩:=fieldTok_say hp hf
            obtain ⟨q',hq,rfl,rfl⟩:=closeU_some h
            subst hq
            exact ⟨⟨t,ht, .inr (.inl ⟨h1,h2,f,u,a1,a2,a3,rfl⟩)⟩,by rw [print_uni,a4];simp⟩
        · split at h
          · rename_i heq;simp only [List.cons.injEq] at heq;exact absurd heq.1 hc
          · simp at h
    · rw [if_neg h2] at h
      cases s with
      | nil => simp at h
      | cons c q =>
        by_cases hc : c = 123
        · subst hc
          simp only at h
          have fin : ∀ y : List V × Bs,fieldsW x t (fun k' s' => parse x n k' s') q.length 0 q = some y → v = .mk 82 [] 0 y.1 → r = y.2 → Typed x (n + 1) (.ref nm) v ∧ 123 :: q = v.print ++ r:=by
            rintro ⟨l,r'⟩ hy rfl rfl
            obtain ⟨es,_,rfl,b3,b4,b5⟩:=fieldsW_say hp _ _ _ _ _ hy
            obtain ⟨b6,b7⟩:=List.pairwise_cons.1 b3
            refine ⟨⟨t,ht, .inr (.inr ⟨h1,h2,es,b7, ?_,rfl⟩)⟩,by rw [print_rec,b5];simp⟩
            intro e he
            obtain ⟨c1,c2,c3,c4⟩:=b4 e he
            exact ⟨b6 _ (List.mem_map.2 ⟨e,he,rfl⟩),c1,c2,c3,c4⟩
          cases q with
          | nil => simp [fieldsW] at h
          | cons d q' =>
            by_cases hd : d = 125
            · subst hd
              simp only [Option.some.injEq,Prod.mk.injEq] at h
              obtain ⟨rfl,rfl⟩:=h
              exact ⟨⟨t,ht, .inr (.inr ⟨h1,h2,[],by simp,by simp,rfl⟩)⟩,by rw [print_rec];simp [commas]⟩
            · split at h
              · rename_i heq;simp only [List.cons.injEq] at heq;exact absurd heq.1 hd
              · cases hy : fieldsW x t (fun k' s' => parse x n k' s') (d :: q').length 0 (d :: q') with
                | none => rw [hy] at h;simp at h
                | some y =>
                  rw [hy] at h
                  simp only [Option.map_some,Option.some.injEq,Prod.mk.injEq] at h
                  exact fin y hy h.1.symm h.2.symm
        · split at h
          · rename_i heq;simp only [List.cons.injEq] at heq;exact absurd heq.1 hc
          · simp at h
theorem parse_say {x : Sc} : ∀ (n : Nat) (k : K) (s : Bs) (v : V) (r : Bs),parse x n k s = some (v,r) → Typed x n k v ∧ s = v.print ++ r:=by
  intro n
  induction n with
  | zero => intro k s v r h;simp [parse] at h
  | succ n ih =>
    intro k s v r h
    cases k with
    | num =>
      simp only [parse] at h
      cases hn : numTok 999999 s with
      | none => rw [hn] at h;simp at h
      | some y =>
        rw [hn] at h
        simp only [Option.map_some,Option.some.injEq,Prod.mk.injEq] at h
        obtain ⟨rfl,rfl⟩:=h
        obtain ⟨g1,g2,_,_⟩:=numTok_some (n:=y.1) (r:=y.2) hn
        exact ⟨⟨y.1,g2,rfl⟩,by rw [print_num];exact g1⟩
    | txt =>
      simp only [parse] at h
      split at h
      · rename_i q
        split at h
        · rename_i q' hq
          split at h
          · rename_i hl
            simp only [Option.some.injEq,Prod.mk.injEq] at h
            obtain ⟨rfl,rfl⟩:=h
            refine ⟨⟨_, ?_,hl,rfl⟩, ?_⟩
            · exact List.all_takeWhile
            · rw [print_txt]
              have:=List.takeWhile_append_dropWhile (p:=isTxt) (l:=q)
              rw [hq] at this
              simp only [List.cons_append,List.append_assoc,List.nil_append,this]
          · simp at h
        · simp at h
      · simp at h
    | flag =>
      simp only [parse] at h
      split at h
      · simp only [Option.some.injEq,Prod.mk.injEq] at h
        obtain ⟨rfl,rfl⟩:=h
        exact ⟨.inl rfl,by rw [print_flag];rfl⟩
      · simp only [Option.some.injEq,Prod.mk.injEq] at h
        obtain ⟨rfl,rfl⟩:=h
        exact ⟨.inr rfl,by rw [print_flag];rfl⟩
      · simp at h
    | list k =>
      simp only [parse] at h
      split at h
      · rename_i q
        split at h
        · simp only [Option.some.injEq,Prod.mk.injEq] at h
          obtain ⟨rfl,rfl⟩:=h
          exact ⟨⟨[],by simp,by simp,rfl⟩,by rw [print_list];simp [commas]⟩
        · cases hi : itemsW (parse x n k) q.length q with
          | none => rw [hi] at h;simp at h
          | some y =>
            obtain ⟨l,q'⟩:=y
            rw [hi] at h
            simp only at h
            split at h
            · rename_i hl
              simp only [Option.some.injEq,Prod.mk.injEq] at h
              obtain ⟨rfl,rfl⟩:=h
              obtain ⟨_,b2,b3⟩:=itemsW_say (Q:=Typed x n k) (fun s v r hh => ih _ _ _ _ hh) _ _ _ _ hi
              exact ⟨⟨l,hl,b2,rfl⟩,by rw [print_list,b3];simp⟩
            · simp at h
      · simp at h
    | opt k =>
      simp only [parse] at h
      split at h
      · simp only [Option.some.injEq,Prod.mk.injEq] at h
        obtain ⟨rfl,rfl⟩:=h
        exact ⟨.inl rfl,by rw [print_none];rfl⟩
      · rename_i q
        cases hq : parse x n k q with
        | none => rw [hq] at h;simp at h
        | some y =>
          obtain ⟨u,q'⟩:=y
          rw [hq] at h
          simp only [Option.map_some,Option.some.injEq,Prod.mk.injEq] at h
          obtain ⟨rfl,rfl⟩:=h
          obtain ⟨b1,b2⟩:=ih _ _ _ _ hq
          exact ⟨.inr ⟨u,b1,rfl⟩,by rw [print_some,b2];rfl⟩
      · simp at h
    | ref nm =>
      simp only [parse] at h
      cases ht : x.find nm with
      | none => rw [ht] at h;simp at h
      | some t =>
        rw [ht] at h
        exact parseTy_say ht ih h
end Wf

namespace Wf
set_option linter.unusedVariables false
set_option linter.unusedSimpArgs false
theorem deep_tag (tag : Nat) (v : V) : (V.mk 61 [] tag [v]).deep = v.deep:=by simp [Option.filter_some,V.deep,V.deeps]
theorem deep_ne {what : UInt8} (h : what ≠ 61) (t : Bs) (g : Nat) (l : List V) : (V.mk what t g l).deep = V.deeps l + 1:=by simp [Option.filter_some,V.deep,h]
theorem itemsW_filter {p p' : Reads} {d : Nat} (hp : ∀ s,p s = (p' s).filter (fun y => decide (y.1.deep ≤ d))) :
    ∀ (m : Nat) (s : Bs),itemsW p m s = (itemsW p' m s).filter (fun y => decide (V.deeps y.1 ≤ d)):=by
  intro m
  induction m with
  | zero => intro s;rfl
  | succ m ih =>
    intro s
    simp only [itemsW]
    rw [hp s]
    cases hq : p' s with
    | none => rfl
    | some y =>
      obtain ⟨v,rest⟩:=y
      by_cases hd : v.deep ≤ d
      · have e : (some (v,rest)).filter (fun y : V × Bs => decide (y.1.deep ≤ d)) = some (v,rest):=by simp only [Option.filter_some,hd,decide_true,decide_false,if_true,if_false];try simp
        rw [e]
        simp only
        split
        · rename_i r
          rw [ih r]
          cases itemsW p' m r with
          | none => rfl
          | some y =>
            by_cases hy : V.deeps y.1 ≤ d
            · simp [Option.filter_some,hy,V.deeps,hd,Nat.max_le]
            · simp [Option.filter_some,hy,V.deeps,hd,Nat.max_le]
        · simp [Option.filter_some,V.deeps,hd]
        · rfl
      · have e : (some (v,rest)).filter (fun y : V × Bs => decide (y.1.deep ≤ d)) = none:=by simp only [Option.filter_some,hd,decide_true,decide_false,if_true,if_false];try simp
        rw [e]
        simp only
        split
        · rename_i r
          cases itemsW p' m r with
          | none => rfl
          | some y => simp [Option.filter_some,V.deeps,hd,Nat.max_le]
        · simp [Option.filter_some,V.deeps,hd]
        · rfl
theorem fieldTok_filter {t : Ty} {p p' : K → Reads} {d : Nat} (hp : ∀ k s,p k s = (p' k s).filter (fun y => decide (y.1.deep ≤ d))) (s : Bs) :
    fieldTok t p s = (fieldTok t p' s).filter (fun y => decide (y.2.1.deep ≤ d)):=by
  unfold fieldTok
  cases numTok 200 s with
  | none => rfl
  | some y =>
    obtain ⟨tag,rest⟩:=y
    simp only
    split
    · rename_i r f _
      rw [hp]
      cases p' f.kind r with
      | none => rfl
      | some z => by_cases hz : z.1.deep ≤ d <;> simp [Option.filter_some,hz]
    · rfl
theorem fieldsW_filter {x : Sc} {t : Ty} {p p' : K → Reads} {d : Nat} (hp : ∀ k s,p k s = (p' k s).filter (fun y => decide (y.1.deep ≤ d))) :
    ∀ (m last : Nat) (s : Bs),fieldsW x t p m last s = (fieldsW x t p' m last s).filter (fun y => decide (V.deeps y.1 ≤ d)):=by
  intro m
  induction m with
  | zero => intro last s;rfl
  | succ m ih =>
    intro last s
    simp only [fieldsW]
    rw [fieldTok_filter hp s]
    cases hq : fieldTok t p' s with
    | none => rfl
    | some y =>
      obtain ⟨f,v,rest⟩:=y
      by_cases hd : v.deep ≤ d
      · have e : (some (f,v,rest)).filter (fun y : Fd × V × Bs => decide (y.2.1.deep ≤ d)) = some (f,v,rest):=by simp only [Option.filter_some,hd,decide_true,decide_false,if_true,if_false];try simp
        rw [e]
        simp only
        split
        · rfl
        · split
          · rename_i r
            rw [ih f.tag r]
            cases fieldsW x t p' m f.tag r with
            | none => rfl
            | some y =>
              by_cases hy : V.deeps y.1 ≤ d
              · simp [Option.filter_some,hy,V.deeps,hd,Nat.max_le,deep_tag]
              · simp [Option.filter_some,hy,V.deeps,hd,Nat.max_le,deep_tag]
          · simp [Option.filter_some,V.deeps,hd,deep_tag]
          · rfl
      · have e : (some (f,v,rest)).filter (fun y : Fd × V × Bs => decide (y.2.1.deep ≤ d)) = none:=by simp only [Option.filter_some,hd,decide_true,decide_false,if_true,if_false];try simp
        rw [e]
        simp only
        split
        · rfl
        · split
          · rename_i r
            cases fieldsW x t p' m f.tag r with
            | none => rfl
            | some y => simp [Option.filter_some,V.deeps,hd,Nat.max_le,deep_tag]
          · simp [Option.filter_some,V.deeps,hd,deep_tag]
          · rfl
theorem parse_filter {x : Sc} : ∀ (n m : Nat),n ≤ m → ∀ (k : K) (s : Bs),parse x n k s = (parse x m k s).filter (fun y => decide (y.1.deep ≤ n)):=by
  intro n
  induction n with
  | zero =>
    intro m _ k s
    cases hp : parse x m k s with
    | none => simp [Option.filter_some,parse]
    | some y =>
      obtain ⟨v,r⟩:=y
      have ht:=(parse_say _ _ _ _ _ hp).1
      have : v.deep ≠ 0:=by
        cases m with
        | zero => simp [Option.filter_some,Typed] at ht
        | succ m =>
          cases k with
          | num => obtain ⟨_,_,rfl⟩:=ht;simp [Option.filter_some,V.deep]
          | txt => obtain ⟨_,_,_,rfl⟩:=ht;simp [Option.filter_some,V.deep]
          | flag => rcases ht with rfl | rfl <;> simp [Option.filter_some,V.deep]
          | list k => obtain ⟨_,_,_,rfl⟩:=ht;simp [Option.filter_some,V.deep]
          | opt k => rcases ht with rfl | ⟨_,_,rfl⟩ <;> simp [Option.filter_some,V.deep]
          | ref nm =>
            obtain ⟨t,_,h⟩:=ht
            rcases h with ⟨_,f,_,_,rfl⟩ | ⟨_,_,f,u,_,_,_,rfl⟩ | ⟨_,_,l,_,_,rfl⟩ <;> simp [Option.filter_some,V.deep]
      simp [Option.filter_some,parse,this]
  | succ n ih =>
    intro m hm k s
    cases m with
    | zero => omega
    | succ m =>
      have ih':=ih m (by omega)
      cases k with
      | num =>
        simp only [parse]
        cases numTok 999999 s with
        | none => rfl
        | some y => simp [Option.filter_some,V.deep,V.deeps]
      | txt =>
        simp only [parse]
        repeat' split
        all_goals simp [Option.filter_some,V.deep,V.deeps]
      | flag =>
        simp only [parse]
        repeat' split
        all_goals simp [Option.filter_some,V.deep,V.deeps]
      | list k =>
        simp only [parse]
        split
        · rename_i q
          split
          · simp [Option.filter_some,V.deep,V.deeps]
          · rw [itemsW_filter (ih' k) q.length q]
            cases itemsW (parse x m k) q.length q with
            | none => rfl
            | some y =>
              obtain ⟨l,r⟩:=y
              by_cases hl : V.deeps l ≤ n
              · by_cases h20 : l.length ≤ 20
                · simp [Option.filter_some,hl,h20,V.deep]
                · simp [Option.filter_some,hl,h20]
              · by_cases h20 : l.length ≤ 20
                · simp [Option.filter_some,hl,h20,V.deep]
                · simp [Option.filter_some,hl,h20]
        · rfl
      | opt k =>
        simp only [parse]
        split
        · simp [Option.filter_some,V.deep,V.deeps]
        · rename_i q
          rw [ih' k q]
          cases parse x m k q with
          | none => rfl
          | some y => by_cases hy : y.1.deep ≤ n <;> simp [Option.filter_some,hy,V.deep,V.deeps]
        · rfl
      | ref nm =>
        simp only [parse]
        cases x.find nm with
        | none => rfl
        | some t =>
          simp only [parseTy]
          split
          · split
            · split
              · rfl
              · split
                · simp [Option.filter_some,V.deep,V.deeps]
                · rfl
            · rfl
          · split
            · split
              · rename_i r
                rw [fieldTok_filter (p:=fun k' s' => parse x n k' s') (p':=fun k' s' => parse x m k' s') (d:=n) (fun k s => ih' k s) r]
                cases fieldTok t (fun k' s' => parse x m k' s') r with
                | none => rfl
                | some y =>
                  obtain ⟨f,v,rest⟩:=y
                  rw [Option.filter_some]
                  by_cases hv : v.deep ≤ n
                  · simp only [hv,decide_true,if_true]
                    unfold closeU
                    split
                    · simp [Option.filter_some,V.deep,V.deeps,hv]
                    · rfl
                  · simp only [hv,decide_false,if_false,Bool.false_eq_true]
                    unfold closeU
                    split
                    · simp [Option.filter_some,V.deep,V.deeps,hv]
                    · rfl
              · rfl
            · split
              · rename_i q
                split
                · simp [Option.filter_some,V.deep,V.deeps]
                · rw [fieldsW_filter (p:=fun k' s' => parse x n k' s') (p':=fun k' s' => parse x m k' s') (d:=n) (fun k s => ih' k s) q.length 0 q]
                  cases fieldsW x t (fun k' s' => parse x m k' s') q.length 0 q with
                  | none => rfl
                  | some y => by_cases hy : V.deeps y.1 ≤ n <;> simp [Option.filter_some,hy,V.deep]
              · rfl
end Wf

namespace Wf
set_option linter.unusedVariables false
set_option linter.unusedSimpArgs false
def formB (what : UInt8) (text : Bs) (tag : Nat) (parts : List Bs) : Bs :=
  if what = 110 then putN (val text)
  else if what = 116 then putN text.length ++ text
  else if what = 102 then (if text = [121,101,115] then [1] else [0])
  else if what = 91 then putN parts.length ++ parts.flatten
  else if what = 63 then (if parts = [] then [0] else 1 :: parts.flatten)
  else if what = 69 then putN tag
  else if what = 85 ∨ what = 61 then putN tag ++ (putN parts.flatten.length ++ parts.flatten)
  else parts.flatten ++ [0]
mutual
def V.bytes : V → Bs
  | .mk what text tag kids => formB what text tag (V.bytess kids)
def V.bytess : List V → List Bs
  | [] => []
  | v :: l => v.bytes :: V.bytess l
end
def whole (p : Reads) (s : Bs) : Option V :=
  match p s with
  | none => none
  | some (v,r) => if r = [] then some v else none
end Wf

namespace Wf
set_option linter.unusedVariables false
set_option linter.unusedSimpArgs false
theorem commas_length (l : List Bs) (h : l ≠ []) : (commas l).length + 1 = l.flatten.length + l.length:=by
  induction l with
  | nil => exact absurd rfl h
  | cons a l ih =>
    by_cases hl : l = []
    · subst hl;simp [commas]
    · rw [commas_cons _ hl]
      have:=ih hl
      simp only [List.length_append,List.length_cons,List.flatten_cons];omega
theorem commas_length_le (l : List Bs) : l.flatten.length ≤ (commas l).length:=by
  by_cases hl : l = []
  · subst hl;simp
  · have:=commas_length l hl
    have:=List.length_pos_iff.2 hl
    omega
theorem commas_mem {l : List Bs} {a : Bs} (h : a ∈ l) : a.length ≤ (commas l).length:=by
  have h1:=commas_length_le l
  have : a.length ≤ l.flatten.length:=by
    clear h1
    induction l with
    | nil => simp at h
    | cons b l ih =>
      rcases List.mem_cons.1 h with rfl | h
      · simp
      · have:=ih h
        simp only [List.flatten_cons,List.length_append];omega
  omega
end Wf

namespace Wf
set_option linter.unusedVariables false
set_option linter.unusedSimpArgs false
theorem typed_mono {x : Sc} : ∀ (n : Nat) (k : K) (v : V),Typed x n k v → ∀ m,n ≤ m → Typed x m k v:=by
  intro n
  induction n with
  | zero => intro k v h;simp [Typed] at h
  | succ n ih =>
    intro k v h m hm
    cases m with
    | zero => omega
    | succ m =>
      have hm' : n ≤ m:=by omega
      cases k with
      | num => exact h
      | txt => exact h
      | flag => exact h
      | list k =>
        obtain ⟨l,hl,hu,rfl⟩:=h
        exact ⟨l,hl,fun u hx => ih k u (hu u hx) m hm',rfl⟩
      | opt k =>
        rcases h with rfl | ⟨u,hu,rfl⟩
        · exact .inl rfl
        · exact .inr ⟨u,ih k u hu m hm',rfl⟩
      | ref nm =>
        obtain ⟨t,ht,h⟩:=h
        refine ⟨t,ht, ?_⟩
        rcases h with h | ⟨h1,h2,f,u,hf,h3,hu,rfl⟩ | ⟨h1,h2,l,hpw,hl,rfl⟩
        · exact .inl h
        · exact .inr (.inl ⟨h1,h2,f,u,hf,h3,ih f.kind u hu m hm',rfl⟩)
        · refine .inr (.inr ⟨h1,h2,l,hpw,fun e he => ?_,rfl⟩)
          obtain ⟨a,b,c,d,e5⟩:=hl e he
          exact ⟨a,b,c,ih _ _ d m hm',e5⟩
theorem typed_deep {x : Sc} : ∀ (n : Nat) (k : K) (v : V),Typed x n k v → 1 ≤ v.deep ∧ v.deep ≤ n:=by
  intro n
  induction n with
  | zero => intro k v h;simp [Typed] at h
  | succ n ih =>
    intro k v h
    cases k with
    | num => obtain ⟨_,_,rfl⟩:=h;simp [V.deep,V.deeps]
    | txt => obtain ⟨_,_,_,rfl⟩:=h;simp [V.deep,V.deeps]
    | flag => rcases h with rfl | rfl <;> simp [V.deep,V.deeps]
    | list k =>
      obtain ⟨l,_,hu,rfl⟩:=h
      have : V.deeps l ≤ n:=V.deeps_le.2 fun u hx => (ih k u (hu u hx)).2
      simp [V.deep];omega
    | opt k =>
      rcases h with rfl | ⟨u,hu,rfl⟩
      · simp [V.deep,V.deeps]
      · have:=(ih k u hu).2
        simp [V.deep,V.deeps];omega
    | ref nm =>
      obtain ⟨t,ht,h⟩:=h
      rcases h with ⟨_,f,_,_,rfl⟩ | ⟨h1,h2,f,u,hf,h3,hu,rfl⟩ | ⟨h1,h2,l,hpw,hl,rfl⟩
      · simp [V.deep,V.deeps]
      · have:=(ih _ _ hu).2
        simp [V.deep,V.deeps];omega
      · have : V.deeps (l.map fun e => V.mk 61 [] e.1.tag [e.2]) ≤ n:=V.deeps_le.2 fun u hx => by
          obtain ⟨e,he,rfl⟩:=List.mem_map.1 hx
          rw [deep_tag]
          exact (ih _ _ (hl e he).2.2.2.1).2
        simp [V.deep];omega
end Wf

namespace Wf
set_option linter.unusedVariables false
set_option linter.unusedSimpArgs false
end Wf

namespace Wf
set_option linter.unusedVariables false
set_option linter.unusedSimpArgs false
abbrev Asc (es : List (Fd × V)) : Prop:=(es.map (fun e => e.1.tag)).Pairwise (· < ·)
theorem hasRef_ref {x : Sc} {nm : Bs} (h : hasRef x (.ref nm) = true) : ∃ t,x.find nm = some t:=by
  simp only [hasRef,K.base,K.name,ne_eq,not_true_eq_false,decide_false,Bool.false_or] at h
  exact Option.isSome_iff_exists.1 h
end Wf

namespace Wf
set_option linter.unusedVariables false
set_option linter.unusedSimpArgs false
theorem parse_lt {x : Sc} {n : Nat} {k : K} {s r : Bs} {v : V} (h : parse x n k s = some (v,r)) : r.length < s.length:=by
  obtain ⟨ht,hs⟩:=parse_say n k s v r h
  obtain ⟨c,t,hc,_⟩:=print_head ht
  rw [hs,hc]
  simp
  omega
theorem items_fuel {p : Reads} (hp : ∀ s v r,p s = some (v,r) → r.length < s.length) : ∀ (m m' : Nat) (s : Bs),s.length ≤ m → s.length ≤ m' → itemsW p m s = itemsW p m' s:=by
  intro m
  induction m with
  | zero =>
    intro m' s h1 h2
    cases m' with
    | zero => rfl
    | succ m' =>
      have hs : s = []:=List.eq_nil_of_length_eq_zero (by omega)
      subst hs
      simp only [itemsW]
      cases hq : p [] with
      | none => rfl
      | some y => have:=hp [] y.1 y.2 hq;simp at this
  | succ m ih =>
    intro m' s h1 h2
    cases m' with
    | zero =>
      have hs : s = []:=List.eq_nil_of_length_eq_zero (by omega)
      subst hs
      simp only [itemsW]
      cases hq : p [] with
      | none => rfl
      | some y => have:=hp [] y.1 y.2 hq;simp at this
    | succ m' =>
      simp only [itemsW]
      cases hq : p s with
      | none => rfl
      | some y =>
        obtain ⟨v,rest⟩:=y
        have hlt:=hp s v rest hq
        dsimp only
        split
        · rename_i r
          simp only [List.length_cons] at hlt
          rw [ih m' r (by omega) (by omega)]
        · rfl
        · rfl
def items (p : Reads) (s : Bs) : Option (List V × Bs):=itemsW p s.length s
theorem items_step {p : Reads} (hp : ∀ s v r,p s = some (v,r) → r.length < s.length) (s : Bs) : items p s = match p s with
    | none => none
    | some (v,rest) =>
      match rest with
      | 44 :: r => (items p r).map fun x => (v :: x.1,x.2)
      | 93 :: r => some ([v],r)
      | _ => none:=by
  unfold items
  rw [items_fuel hp s.length (s.length + 1) s (Nat.le_refl _) (by omega)]
  simp only [itemsW]
  cases hq : p s with
  | none => rfl
  | some y =>
    obtain ⟨v,rest⟩:=y
    have hlt:=hp s v rest hq
    dsimp only
    split
    · rename_i r
      simp only [List.length_cons] at hlt
      rw [items_fuel hp s.length r.length r (by omega) (Nat.le_refl _)]
      rfl
    · rfl
    · rename_i h1 h2
      split
      · exact (h1 _ rfl).elim
      · exact (h2 _ rfl).elim
      · rfl
theorem items_ne {p : Reads} (hp : ∀ s v r,p s = some (v,r) → r.length < s.length) {s : Bs} {l : List V} {q : Bs} (h : items p s = some (l,q)) : l ≠ []:=by
  rw [items_step hp] at h
  split at h
  · cases h
  · split at h
    · rw [Option.map_eq_some_iff] at h
      obtain ⟨y,_,hy⟩:=h
      simp only [Prod.mk.injEq] at hy
      rw [← hy.1];simp
    · simp only [Option.some.injEq,Prod.mk.injEq] at h
      rw [← h.1];simp
    · cases h
theorem numTok_lt {most n : Nat} {s r : Bs} (h : numTok most s = some (n,r)) : r.length < s.length:=by
  obtain ⟨m,h1,h2⟩:=Option.map_eq_some_iff.1 h
  simp only [Prod.mk.injEq] at h2
  have hne : s.takeWhile isDig ≠ []:=by
    intro e
    rw [e] at h1
    simp [plainN] at h1
  have:=congrArg List.length (List.takeWhile_append_dropWhile (p:=isDig) (l:=s))
  rw [List.length_append] at this
  have h3:=List.length_pos_iff.2 hne
  rw [← h2.2]
  omega
theorem fieldTok_lt {t : Ty} {p : K → Reads} (hp : ∀ k s v r,p k s = some (v,r) → r.length < s.length) {s r : Bs} {f : Fd} {v : V} (h : fieldTok t p s = some (f,v,r)) : r.length + 2 < s.length:=by
  unfold fieldTok at h
  cases hn : numTok 200 s with
  | none => rw [hn] at h;cases h
  | some y =>
    obtain ⟨tag,rest⟩:=y
    have h1:=numTok_lt hn
    rw [hn] at h
    dsimp only at h
    split at h
    · rename_i q f' hf
      simp only [List.length_cons] at h1
      obtain ⟨y,hy,h2⟩:=Option.map_eq_some_iff.1 h
      simp only [Prod.mk.injEq] at h2
      have:=hp _ _ _ _ hy
      rw [← h2.2.2]
      omega
    · cases h
theorem fields_fuel {x : Sc} {t : Ty} {p : K → Reads} (hp : ∀ k s v r,p k s = some (v,r) → r.length < s.length) : ∀ (m m' last : Nat) (s : Bs),s.length ≤ m → s.length ≤ m' → fieldsW x t p m last s = fieldsW x t p m' last s:=by
  intro m
  induction m with
  | zero =>
    intro m' last s h1 h2
    cases m' with
    | zero => rfl
    | succ m' =>
      have hs : s = []:=List.eq_nil_of_length_eq_zero (by omega)
      subst hs
      simp only [fieldsW]
      cases hq : fieldTok t p [] with
      | none => rfl
      | some y => have:=fieldTok_lt hp hq;simp at this
  | succ m ih =>
    intro m' last s h1 h2
    cases m' with
    | zero =>
      have hs : s = []:=List.eq_nil_of_length_eq_zero (by omega)
      subst hs
      simp only [fieldsW]
      cases hq : fieldTok t p [] with
      | none => rfl
      | some y => have:=fieldTok_lt hp hq;simp at this
    | succ m' =>
      simp only [fieldsW]
      cases hq : fieldTok t p s with
      | none => rfl
      | some y =>
        obtain ⟨f,v,rest⟩:=y
        have hlt:=fieldTok_lt hp hq
        dsimp only
        split
        · rfl
        · split
          · rename_i r
            simp only [List.length_cons] at hlt
            rw [ih m' _ r (by omega) (by omega)]
          · rfl
          · rfl
def flds (x : Sc) (t : Ty) (p : K → Reads) (last : Nat) (s : Bs) : Option (List V × Bs):=fieldsW x t p s.length last s
theorem flds_step {x : Sc} {t : Ty} {p : K → Reads} (hp : ∀ k s v r,p k s = some (v,r) → r.length < s.length) (last : Nat) (s : Bs) : flds x t p last s = match fieldTok t p s with
    | none => none
    | some (f,v,rest) =>
      if f.tag ≤ last ∨ v.print = standF x f then none else
      match rest with
      | 44 :: r => (flds x t p f.tag r).map fun y => (.mk 61 [] f.tag [v] :: y.1,y.2)
      | 125 :: r => some ([.mk 61 [] f.tag [v]],r)
      | _ => none:=by
  unfold flds
  rw [fields_fuel hp s.length (s.length + 1) last s (Nat.le_refl _) (by omega)]
  simp only [fieldsW]
  cases hq : fieldTok t p s with
  | none => rfl
  | some y =>
    obtain ⟨f,v,rest⟩:=y
    have hlt:=fieldTok_lt hp hq
    dsimp only
    split
    · rfl
    · split
      · rename_i r
        simp only [List.length_cons] at hlt
        rw [fields_fuel hp s.length r.length _ r (by omega) (Nat.le_refl _)]
        rfl
      · rfl
      · rename_i h1 h2
        split
        · exact (h1 _ rfl).elim
        · exact (h2 _ rfl).elim
        · rfl
def valIn (x : Sc) (k : K) (s : Bs) : Option V:=if s.length ≤ 400 then (match parse x 12 k s with | some (v,[]) => some v | _ => none) else none
theorem valIn_long {x : Sc} {k : K} {s : Bs} (h : ¬ s.length ≤ 400) : valIn x k s = none:=by rw [valIn,if_neg h]
theorem valIn_deep {x : Sc} {k : K} {s : Bs} (h : s.length ≤ 400) : valIn x k s = match parse x 401 k s with
    | some (v,r) => if r = [] ∧ v.deep ≤ 12 then some v else none
    | none => none:=by
  rw [valIn,if_pos h,parse_filter 12 401 (by omega) k s]
  cases parse x 401 k s with
  | none => rfl
  | some y =>
    obtain ⟨v,r⟩:=y
    by_cases hd : v.deep ≤ 12
    · simp only [Option.filter_some,hd,decide_true,if_true]
      cases r <;> simp
    · simp only [Option.filter_some,hd,decide_false]
      simp
theorem valIn_some {x : Sc} {k : K} {s : Bs} {v : V} (h : valIn x k s = some v) : Typed x 12 k v ∧ s = v.print ∧ s.length ≤ 400:=by
  unfold valIn at h
  split at h
  · rename_i hs
    split at h
    · rename_i v' hp
      cases h
      obtain ⟨h1,h2⟩:=parse_say _ _ _ _ _ hp
      exact ⟨h1,by simpa using h2,hs⟩
    · cases h
  · cases h
end Wf

namespace Wf
set_option linter.unusedVariables false
set_option linter.unusedSimpArgs false
theorem parse_num (x : Sc) (n : Nat) (s : Bs) : parse x (n + 1) .num s = (numTok 999999 s).map fun y => (.mk 110 (dec y.1) 0 [],y.2):=by simp only [parse]
theorem parse_txt_yes (x : Sc) (n : Nat) {s r q : Bs} (h1 : s = 39 :: r) (h2 : r.dropWhile isTxt = 39 :: q) (h3 : (r.takeWhile isTxt).length ≤ 12) : parse x (n + 1) .txt s = some (.mk 116 (r.takeWhile isTxt) 0 [],q):=by
  subst h1
  simp only [parse,h2,h3,if_true]
theorem parse_txt_no1 (x : Sc) (n : Nat) {s : Bs} (h : s.head? ≠ some 39) : parse x (n + 1) .txt s = none:=by
  simp only [parse]
  split
  · simp at h
  · rfl
theorem parse_txt_no2 (x : Sc) (n : Nat) {s r : Bs} (h1 : s = 39 :: r) (h2 : (r.dropWhile isTxt).head? ≠ some 39) : parse x (n + 1) .txt s = none:=by
  subst h1
  simp only [parse]
  split
  · rename_i q hq
    rw [hq] at h2
    simp at h2
  · rfl
theorem parse_txt_no3 (x : Sc) (n : Nat) {s r : Bs} (h1 : s = 39 :: r) (h3 : ¬ (r.takeWhile isTxt).length ≤ 12) : parse x (n + 1) .txt s = none:=by
  subst h1
  simp only [parse,h3,if_false]
  split <;> rfl
theorem parse_list (x : Sc) (n : Nat) (k : K) (s : Bs) : parse x (n + 1) (.list k) s = match s with
    | 91 :: r => (match r with
      | 93 :: q => some (.mk 91 [] 0 [],q)
      | _ => match items (parse x n k) r with
        | none => none
        | some (l,q) => if l.length ≤ 20 then some (.mk 91 [] 0 l,q) else none)
    | _ => none:=by
  simp only [parse,items]
  rfl
theorem parse_opt (x : Sc) (n : Nat) (k : K) (s : Bs) : parse x (n + 1) (.opt k) s = match s with
    | 45 :: q => some (.mk 63 [] 0 [],q)
    | 43 :: r => (parse x n k r).map fun y => (.mk 63 [] 0 [y.1],y.2)
    | _ => none:=by
  simp only [parse]
  rfl
theorem parse_ref (x : Sc) (n : Nat) (nm : Bs) (t : Ty) (h : x.find nm = some t) (s : Bs) : parse x (n + 1) (.ref nm) s = parseTy x (fun k' s' => parse x n k' s') t s:=by
  simp only [parse]
  rw [h]
theorem parseTy_rec (x : Sc) (p : K → Reads) (t : Ty) (s : Bs) (h : t.sort = 82) : parseTy x p t s = match s with
    | 123 :: r => (match r with
      | 125 :: q => some (.mk 82 [] 0 [],q)
      | _ => (flds x t p 0 r).map fun y => (.mk 82 [] 0 y.1,y.2))
    | _ => none:=by
  unfold parseTy flds
  rw [if_neg (by rw [h];decide),if_neg (by rw [h];decide)]
  rfl
theorem parseTy_uni (x : Sc) (p : K → Reads) (t : Ty) (s : Bs) (h : t.sort = 85) : parseTy x p t s = match s with
    | 60 :: r => (match fieldTok t p r with
      | some (f,v,rest) => closeU f.tag v rest
      | none => none)
    | _ => none:=by
  unfold parseTy
  rw [if_neg (by rw [h];decide),if_pos h]
  rfl
theorem parseTy_enm (x : Sc) (p : K → Reads) (t : Ty) (s : Bs) (h : t.sort = 69) : parseTy x p t s = match s with
    | 35 :: r => (match numTok 200 r with
      | none => none
      | some (tag,rest) => if (t.field tag).isSome then some (.mk 69 [] tag [],rest) else none)
    | _ => none:=by
  unfold parseTy
  rw [if_pos h]
  rfl
def Badv (s r : Bs) (v : V) : Prop:=v.print.length + 8 * r.length ≤ 8 * s.length + 8 ∧ r.length ≤ s.length
theorem print_zero : (V.mk 0 [] 0 []).print = []:=by simp [V.print,form]
theorem bad_num {s r : Bs} {m : Nat} (hm : m ≤ 999999) (h : r.length ≤ s.length) : Badv s r (.mk 110 (dec m) 0 []):=by
  refine ⟨?_,h⟩
  rw [print_num]
  have:=dec_len6 hm
  omega
theorem bad_txt {s r t : Bs} (h : t.length + r.length ≤ s.length) : Badv s r (.mk 116 t 0 []):=by
  refine ⟨?_,by omega⟩
  rw [print_txt]
  simp
  omega
theorem bad_flag {s r t : Bs} (ht : t.length ≤ 3) (h : r.length ≤ s.length) : Badv s r (.mk 102 t 0 []):=by
  refine ⟨?_,h⟩
  rw [print_flag]
  omega
theorem bad_enm {s r : Bs} {g : Nat} (hg : g ≤ 999999) (h : r.length ≤ s.length) : Badv s r (.mk 69 [] g []):=by
  refine ⟨?_,h⟩
  rw [print_enm]
  have:=dec_len6 hg
  simp
  omega
theorem bad_opt {s r q : Bs} {c : UInt8} {v : V} (hs : s = c :: q) (h : Badv q r v) : Badv s r (.mk 63 [] 0 [v]):=by
  obtain ⟨h1,h2⟩:=h
  subst hs
  refine ⟨?_,by simp;omega⟩
  rw [print_some]
  simp
  omega
theorem bad_opt0 {s : Bs} : Badv s s (.mk 63 [] 0 [.mk 0 [] 0 []]):=by
  refine ⟨?_,Nat.le_refl _⟩
  rw [print_some,print_zero]
  simp
  omega
theorem bad_uni0 {s r : Bs} (h : r.length ≤ s.length) : Badv s r (.mk 85 [] 0 []):=by
  refine ⟨?_,h⟩
  have : (V.mk 85 [] 0 []).print = [60,48,61,62]:=by
    simp [V.print,form,V.prints,commas]
    rw [dec_lt (by omega)]
    decide
  rw [this]
  simp
  omega
def pl (l : List V) : Nat:=(l.map V.print).flatten.length + l.length
theorem pl_nil : pl [] = 0:=rfl
theorem pl_snoc (l : List V) (v : V) : pl (l ++ [v]) = pl l + v.print.length + 1:=by
  unfold pl
  simp
  omega
theorem commas_pl {l : List V} (h : l ≠ []) : (commas (l.map V.print)).length + 1 = pl l:=by
  rw [commas_length _ (by simpa using h),pl,List.length_map]
theorem print_listlen {w : UInt8} (hw : w = 91 ∨ w = 82) (l : List V) : (V.mk w [] 0 l).print.length = (commas (l.map V.print)).length + 2:=by
  rcases hw with rfl | rfl
  · rw [print_list];simp
  · rw [print_rec];simp
theorem bad_row {w : UInt8} (hw : w = 91 ∨ w = 82) {s s0 s1 r : Bs} {l : List V} {u : V} (h0 : s.length = s0.length + 1) (h1 : pl l + s1.length = s0.length) (h : Badv s1 r u) : Badv s r (.mk w [] 0 (l ++ [u])):=by
  obtain ⟨h2,h3⟩:=h
  refine ⟨?_,by omega⟩
  rw [print_listlen hw]
  have:=commas_pl (l:=l ++ [u]) (by simp)
  rw [pl_snoc] at this
  omega
theorem bad_row_end {w : UInt8} (hw : w = 91 ∨ w = 82) {s s0 r : Bs} {l : List V} (h0 : s.length = s0.length + 1) (hl : l ≠ []) (h1 : pl l + r.length ≤ s0.length + 1) : Badv s r (.mk w [] 0 l):=by
  have h2:=commas_pl hl
  have h3 : 1 ≤ pl l:=by unfold pl;have:=List.length_pos_iff.2 hl;omega
  refine ⟨?_,by omega⟩
  rw [print_listlen hw]
  omega
theorem bad_row0 {w : UInt8} (hw : w = 91 ∨ w = 82) {s r : Bs} (h : r.length ≤ s.length) : Badv s r (.mk w [] 0 []):=by
  refine ⟨?_,h⟩
  rw [print_listlen hw]
  simp [commas]
  omega
theorem bad_field {s q r : Bs} {g : Nat} {u : V} (hg : g ≤ 200) (hq : q.length + 2 ≤ s.length) (h : Badv q r u) : Badv s r (.mk 61 [] g [u]):=by
  obtain ⟨h1,h2⟩:=h
  refine ⟨?_,by omega⟩
  rw [print_tag]
  have:=dec_len g 2 (by omega)
  simp
  omega
theorem bad_uni {s q r : Bs} {c : UInt8} {g : Nat} {u : V} (hs : s = c :: q) (h : Badv q r (.mk 61 [] g [u])) : Badv s r (.mk 85 [] g [u]):=by
  obtain ⟨h1,h2⟩:=h
  subst hs
  refine ⟨?_,by simp;omega⟩
  rw [print_tag] at h1
  rw [print_uni]
  simp at h1 ⊢
  omega
end Wf
