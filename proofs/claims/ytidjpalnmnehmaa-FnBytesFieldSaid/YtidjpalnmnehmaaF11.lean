/- Packed by pack.py: Lj. -/
import Derived.Test.YtidjpalnmnehmaaF9
import Derived.Test.YtidjpalnmnehmaaF10
namespace Go.Proofs.Ytidjpalnmnehmaa
open Go.ChangeShapes Go.WideShapes Go.ChangeAt Go.RowKit Go.Lib
set_option linter.unusedVariables false
theorem cutAt_mem {c : UInt8} {p : List UInt8} : ∀ {l : List UInt8},p ∈ Wf.cutAt c l → p.length ≤ l.length:=by
  intro l
  induction l generalizing p with
  | nil => intro h;simp [Wf.cutAt] at h;subst h;simp
  | cons a r ih =>
    intro h
    simp only [Wf.cutAt] at h
    by_cases ha : a = c
    · rw [if_pos ha] at h
      rcases List.mem_cons.1 h with h | h
      · subst h;simp
      · have:=ih h;simp;omega
    · rw [if_neg ha] at h
      cases hr : Wf.cutAt c r with
      | nil => rw [hr] at h;simp at h;subst h;simp
      | cons q qs =>
        rw [hr] at h
        rcases List.mem_cons.1 h with h | h
        · subst h
          have:=@ih q (by rw [hr];exact List.mem_cons_self ..)
          simp;omega
        · have:=@ih p (by rw [hr];exact List.mem_cons_of_mem _ h)
          simp;omega
def RfOut (sort : UInt8) (l : List UInt8) (e : Ending) : Prop:=match Wf.fdB sort l with
  | some f => e = .returned (.tuple #[.agg (fdS sort f).toArray, .bool true])
  | none => ∃ (t : Int) (a b c : ByteArray),e = .returned (.tuple #[.agg #[.int .i64 t, .string a, .string b, .string c], .bool false])
theorem rfOut_some {sort : UInt8} {l : List UInt8} {f : Wf.Fd} {e : Ending} (h : Wf.fdB sort l = some f) (he : e = .returned (.tuple #[.agg (fdS sort f).toArray, .bool true])) : RfOut sort l e:=by
  unfold RfOut;rw [h];exact he
theorem rfOut_none {sort : UInt8} {l : List UInt8} {e : Ending} (h : Wf.fdB sort l = none) (he : ∃ (t : Int) (a b c : ByteArray),e = .returned (.tuple #[.agg #[.int .i64 t, .string a, .string b, .string c], .bool false])) : RfOut sort l e:=by
  unfold RfOut;rw [h];exact he
theorem num_call (p : List UInt8) (hp : p.length ≤ 2000000) : (Wf.plainN p 200 = none ∧ ∀ w,Calls Try.prog 32 #[tx p, .int .i64 200] w fun e w' => (∃ m : Int,e = .returned (.tuple #[.int .i64 m, .bool false])) ∧ Below w.heap.size w w') ∨ ∃ t : Nat,Wf.plainN p 200 = some t ∧ ∀ w,Calls Try.prog 32 #[tx p, .int .i64 200] w fun e w' => e = .returned (.tuple #[.int .i64 t, .bool true]) ∧ Below w.heap.size w w':=by
  have H:=fun w => l3Num ⟨p.toArray⟩ 200 (by decide) w (by rw [tx_size];omega)
  cases h : Wf.plainN p 200 with
  | none => exact .inl ⟨rfl,fun w => (H w).mono fun e w' ⟨ho,hb⟩ => ⟨by unfold NumOut at ho;rw [show (⟨p.toArray⟩ : ByteArray).data.toList = p from rfl,h] at ho;exact ho,hb⟩⟩
  | some t => exact .inr ⟨t,rfl,fun w => (H w).mono fun e w' ⟨ho,hb⟩ => ⟨by unfold NumOut at ho;rw [show (⟨p.toArray⟩ : ByteArray).data.toList = p from rfl,h] at ho;exact ho,hb⟩⟩
theorem l3ReadField (s : ByteArray) (sort : UInt8) (w : World) (hs : s.size ≤ 1000000) : Calls Try.prog 58 #[.string s, .int .u8 sort.toNat] w fun e w' => RfOut sort s.data.toList e ∧ Below w.heap.size w w':=by
  have hl:=size_list s
  have hcut : ∀ w,Calls Try.prog 48 #[.string s, .int .u8 58] w fun e w' => CutOut w (Wf.cutAt 58 s.data.toList) e w':=fun w => l3Cut s 58 (by omega) w
  have hmem : ∀ p,p ∈ Wf.cutAt 58 s.data.toList → p.length ≤ 1000000:=fun p hp => by have:=cutAt_mem hp;omega
  have hsn : sort = 69 ∨ (sort ≠ 69 ∧ (((sort.toNat : Int) == 69) = false) ∧ (((sort.toNat : Int) != 69) = true)):=by
    by_cases h : sort = 69
    · exact .inl h
    · have : sort.toNat ≠ 69:=fun e => h (UInt8.toNat_inj.1 (by rw [e];rfl))
      exact .inr ⟨h,by rw [beq_eq_false_iff_ne];omega,by rw [bne_iff_ne];omega⟩
  have bad : ∀ n,(Wf.cutAt 58 s.data.toList).length = n → (sort ≠ 69 ∧ n ≠ 3 ∨ sort = 69 ∧ n ≠ 2) → Wf.fdB sort s.data.toList = none → Calls Try.prog 58 #[.string s, .int .u8 sort.toNat] w fun e w' => RfOut sort s.data.toList e ∧ Below w.heap.size w w':=by
    intro n hn hc hf
    refine (rf_len s sort.toNat n _ hn ?_ w hcut).mono fun e w' ⟨he,hb⟩ => ⟨rfOut_none hf ⟨_,_,_,_,he⟩,hb⟩
    rcases hc with ⟨h1,h2⟩ | ⟨h1,h2⟩
    · rcases hsn with h | ⟨_,_,h⟩
      · exact absurd h h1
      · exact .inl ⟨by rw [bne_iff_ne];omega,h⟩
    · exact .inr ⟨by rw [bne_iff_ne];omega,by rw [h1];rfl⟩
  have hf0 : Wf.fdB sort s.data.toList = Wf.fdB sort s.data.toList:=rfl
  match hps : Wf.cutAt 58 s.data.toList with
  | [] => exact absurd hps (Wf.cutAt_ne _ _)
  | [p] => exact bad 1 (by rw [hps];rfl) (hsn.elim (fun h => .inr ⟨h,by decide⟩) (fun h => .inl ⟨h.1,by decide⟩)) (by unfold Wf.fdB;rw [hps])
  | p :: q :: r :: u :: us => exact bad _ (by rw [hps]) (hsn.elim (fun h => .inr ⟨h,by simp⟩) (fun h => .inl ⟨h.1,by simp⟩)) (by unfold Wf.fdB;rw [hps])
  | [p,q] =>
    rw [hps] at hcut hmem
    rcases hsn with h69 | ⟨h69,_,_⟩
    · subst h69
      have hf : Wf.fdB 69 s.data.toList = match Wf.plainN p 200 with | none => none | some tag => if tag < 1 ∨ Wf.isName q = false then none else some ⟨tag,q, .num,[]⟩:=by
        unfold Wf.fdB;rw [hps];rfl
      rcases num_call p (by have:=hmem p (by simp);omega) with ⟨hn,HN⟩ | ⟨t,hn,HN⟩
      · rw [hn] at hf
        exact (rf_nonum2 s p q w hcut HN).mono fun e w' ⟨⟨m,he⟩,hb⟩ => ⟨rfOut_none hf ⟨_,_,_,_,he⟩,hb⟩
      · rw [hn] at hf
        dsimp only at hf
        by_cases ht : t < 1
        · rw [if_pos (.inl ht)] at hf
          exact (rf_low2 s p q w hcut t HN ht).mono fun e w' ⟨he,hb⟩ => ⟨rfOut_none hf ⟨_,_,_,_,he⟩,hb⟩
        · have HM:=fun w => l2Name ⟨q.toArray⟩ w (by rw [tx_size];have:=hmem q (by simp);omega)
          cases hq : Wf.isName q with
          | false =>
            rw [if_pos (.inr hq)] at hf
            rw [show (⟨q.toArray⟩ : ByteArray).data.toList = q from rfl,hq] at HM
            exact (rf_noname2 s p q w hcut t HN (by omega) HM).mono fun e w' ⟨he,hb⟩ => ⟨rfOut_none hf ⟨_,_,_,_,he⟩,hb⟩
          | true =>
            rw [if_neg (by rw [hq];simp;omega)] at hf
            rw [show (⟨q.toArray⟩ : ByteArray).data.toList = q from rfl,hq] at HM
            exact (rf_enum s p q w hcut t HN (by omega) HM).mono fun e w' ⟨he,hb⟩ => ⟨rfOut_some hf he,hb⟩
    · exact bad 2 (by rw [hps];rfl) (.inl ⟨h69,by decide⟩) (by unfold Wf.fdB;rw [hps];exact if_pos h69)
  | [p,q,r] =>
    rw [hps] at hcut hmem
    rcases hsn with h69 | ⟨h69,g1,g2⟩
    · exact bad 3 (by rw [hps];rfl) (.inr ⟨h69,by decide⟩) (by unfold Wf.fdB;rw [hps];exact if_pos h69)
    · have hf : Wf.fdB sort s.data.toList = match Wf.plainN p 200 with
        | none => none
        | some tag =>
          if tag < 1 ∨ Wf.isName q = false then none else
          match Wf.cutAt 61 r with
          | [e] => (Wf.parseK e).map fun k => ⟨tag,q,k,[]⟩
          | [e,g] => (match Wf.parseK e with | none => none | some k => if sort = 82 ∧ Wf.stOk k g = true then some ⟨tag,q,k,g⟩ else none)
          | _ => none:=by
        unfold Wf.fdB;rw [hps];exact if_neg h69
      rcases num_call p (by have:=hmem p (by simp);omega) with ⟨hn,HN⟩ | ⟨t,hn,HN⟩
      · rw [hn] at hf
        exact (rf_nonum3 s _ g1 g2 p q r w hcut HN).mono fun e w' ⟨⟨m,he⟩,hb⟩ => ⟨rfOut_none hf ⟨_,_,_,_,he⟩,hb⟩
      · rw [hn] at hf
        dsimp only at hf
        by_cases ht : t < 1
        · rw [if_pos (.inl ht)] at hf
          exact (rf_low3 s _ g1 g2 p q r w hcut t HN ht).mono fun e w' ⟨he,hb⟩ => ⟨rfOut_none hf ⟨_,_,_,_,he⟩,hb⟩
        · have HM:=fun w => l2Name ⟨q.toArray⟩ w (by rw [tx_size];have:=hmem q (by simp);omega)
          cases hq : Wf.isName q with
          | false =>
            rw [if_pos (.inr hq)] at hf
            rw [show (⟨q.toArray⟩ : ByteArray).data.toList = q from rfl,hq] at HM
            exact (rf_noname3 s _ g1 g2 p q r w hcut t HN (by omega) HM).mono fun e w' ⟨he,hb⟩ => ⟨rfOut_none hf ⟨_,_,_,_,he⟩,hb⟩
          | true =>
            rw [if_neg (by rw [hq];simp;omega)] at hf
            rw [show (⟨q.toArray⟩ : ByteArray).data.toList = q from rfl,hq] at HM
            have hr6 : r.length ≤ 1000000:=hmem r (by simp)
            have hcut2 : ∀ w,Calls Try.prog 48 #[tx r, .int .u8 61] w fun e w' => CutOut w (Wf.cutAt 61 r) e w':=fun w => l3Cut ⟨r.toArray⟩ 61 (by rw [tx_size];omega) w
            have hmem2 : ∀ p,p ∈ Wf.cutAt 61 r → p.length ≤ 1000000:=fun p hp => by have:=cutAt_mem hp;omega
            have txt : ∀ k : Wf.K,∀ a : List UInt8,Wf.parseK a = some k → ∀ g,(fdS sort ⟨t,q,k,g⟩) = [.int .i64 t,tx q,tx a,tx g]:=by
              intro k a hk g
              rw [fdS,if_neg h69,parse_text hk]
            match hqs : Wf.cutAt 61 r with
            | [] => exact absurd hqs (Wf.cutAt_ne _ _)
            | [a] =>
              rw [hqs] at hf hcut2
              dsimp only at hf
              have HK : ∀ w,Calls Try.prog 37 #[tx a] w fun e w' => e = .returned (.bool (okB a)) ∧ w = w':=fun w => kindOk_spec a.length ⟨a.toArray⟩ w (by rw [tx_size];exact Nat.le_refl _)
              refine (rf_one s _ g1 g2 p q r w hcut t HN (by omega) HM a [] 1 rfl hcut2 (by decide) (by decide) (okB a) HK).mono fun e w' ⟨he,hb⟩ => ⟨?_,hb⟩
              cases hk : Wf.parseK a with
              | none => rw [hk] at hf;rw [ok_none hk] at he;exact rfOut_none hf ⟨_,_,_,_,he⟩
              | some k => rw [hk] at hf;rw [ok_some hk] at he;exact rfOut_some hf (by rw [txt k a hk];exact he)
            | [a,b] =>
              rw [hqs] at hf hcut2
              dsimp only at hf
              have hb6 : b.length ≤ 1000000:=hmem2 b (by rw [hqs];simp)
              have HS : ∀ w,Calls Try.prog 62 #[tx a,tx b] w fun e w' => e = .returned (.bool (stT a b)) ∧ Below w.heap.size w w':=fun w => l3Stand ⟨a.toArray⟩ ⟨b.toArray⟩ w (by rw [tx_size];omega)
              by_cases h82 : sort = 82
              · have g3 : ((sort.toNat : Int) == 82) = true:=by rw [h82];rfl
                refine (rf_two_rec s _ g1 g2 p q r w hcut t HN (by omega) HM a b hcut2 g3 (stT a b) HS).mono fun e w' ⟨he,hb⟩ => ⟨?_,hb⟩
                rw [stT_eq] at he
                cases hk : Wf.parseK a with
                | none => rw [hk] at hf he;exact rfOut_none hf ⟨_,_,_,_,he⟩
                | some k =>
                  rw [hk] at hf he
                  dsimp only at hf
                  cases hst : Wf.stOk k b with
                  | false =>
                    rw [if_neg (by rw [hst];simp)] at hf
                    exact rfOut_none hf ⟨t,⟨q.toArray⟩,⟨a.toArray⟩,⟨b.toArray⟩,by rw [he];simp only [hst]⟩
                  | true =>
                    rw [if_pos ⟨h82,hst⟩] at hf
                    exact rfOut_some hf (by rw [txt k a hk,he];simp only [hst])
              · have g3 : ((sort.toNat : Int) == 82) = false:=by
                  have : sort.toNat ≠ 82:=fun e => h82 (UInt8.toNat_inj.1 (by rw [e];rfl))
                  rw [beq_eq_false_iff_ne];omega
                refine (rf_two_no s _ g1 g2 p q r w hcut t HN (by omega) HM a b hcut2 g3).mono fun e w' ⟨he,hb⟩ => ⟨rfOut_none ?_ ⟨_,_,_,_,he⟩,hb⟩
                rw [hf]
                cases hk : Wf.parseK a with
                | none => rfl
                | some k => exact if_neg (fun h => h82 h.1)
            | a :: b :: c :: cs =>
              rw [hqs] at hf hcut2
              dsimp only at hf
              exact (rf_many s _ g1 g2 p q r w hcut t HN (by omega) HM a (b :: c :: cs) _ rfl hcut2 (by rw [beq_eq_false_iff_ne];simp;omega) (by rw [beq_eq_false_iff_ne];simp;omega)).mono fun e w' ⟨he,hb⟩ => ⟨rfOut_none hf ⟨_,_,_,_,he⟩,hb⟩
end Go.Proofs.Ytidjpalnmnehmaa
