/- Packed by pack.py: Ig It Iu. -/
import Derived.Test.YtmdacedmjbiekaaGreatDoorR18
import Derived.Test.YtmdacedmjbiekaaGreatDoorR9
import Derived.Test.YtmdacedmjbiekaaGreatDoorR0
import Derived.Test.YtmdacedmjbiekaaGreatDoorR16
import Derived.Deep.AppendLies
import Derived.Deep.RegionLaw
namespace Go.Proofs.YtmdacedmjbiekaaGreatDoor
open Go.ChangeShapes Go.WideShapes Go.ChangeAt Go.RowKit Go.Lib
set_option linter.unusedVariables false
def ML (m : Int) (w : World) : Prop:=w.cell? ⟨0,0,none⟩ = some (.int .i64 m)
theorem ML.lt {m : Int} {w : World} (h : ML m w) : 0 < w.heap.size:=cell_lt h
theorem ML.below {m : Int} {w w' : World} (h : ML m w) (hb : Below w.heap.size w w') : ML m w':=(hb.cell (p:=⟨0,0,none⟩) h.lt).trans h
theorem cut_at (s : ByteArray) (c : UInt8) (m : Int) (w : World) (hs : s.size ≤ 1000000) (hm : ML m w) : Calls Tryz.prog 90 #[.string s, .string ⟨#[c]⟩] w fun e w' => e = .returned (.tuple #[tx (Wf.cut1 c s.data.toList).1,tx (Wf.cut1 c s.data.toList).2.1, .bool (Wf.cut1 c s.data.toList).2.2]) ∧ ∃ k,w' = w.drewN k:=by
  have h:=Tryz.strings_Cut s ⟨#[c]⟩ m w (by omega) hm
  rw [show (⟨#[c]⟩ : ByteArray).data.toList = [c] from rfl,cut_one] at h
  exact h
theorem split_at (s : ByteArray) (c : UInt8) (m : Int) (w : World) (hs : s.size ≤ 1000000) (hm : ML m w) : Calls Tryz.prog 127 #[.string s, .string ⟨#[c]⟩] w fun e w' => e = .returned (.slice (some ⟨w.heap.size,0,none⟩) (Wf.cutAt c s.data.toList).length (Wf.cutAt c s.data.toList).length) ∧ w' = w.alloc (.cells ((Wf.cutAt c s.data.toList).map tx).toArray 9):=by
  have h:=Tryz.strings_Split s ⟨#[c]⟩ m w (by omega) hm (show 1 ≤ 1 from Nat.le_refl _)
  rw [count_one,split_one] at h
  exact h
theorem cut1_len (c : UInt8) (l : List UInt8) : (Wf.cut1 c l).1.length ≤ l.length ∧ (Wf.cut1 c l).2.1.length ≤ l.length:=by
  cases h : (Wf.cut1 c l).2.2 with
  | false => obtain ⟨h1,h2,_⟩:=Wf.cut1_false h;rw [h1,h2];simp
  | true =>
    have h1:=congrArg List.length (Wf.cut1_true h).1
    rw [List.length_append,List.length_cons] at h1
    omega
def IfOut (sort : UInt8) (l : List UInt8) (e : Ending) : Prop:=match Wf.fdA sort l with
  | some f => e = .returned (.tuple #[.agg (fdC sort f).toArray, .bool true])
  | none => e = .returned (.tuple #[.agg #[.int .i64 0,tx [],tx [],tx [],tx [],tx []], .bool false])
theorem ifOut_some {sort : UInt8} {l : List UInt8} {f : Wf.Fd} {e : Ending} (h : Wf.fdA sort l = some f) (he : e = .returned (.tuple #[.agg (fdC sort f).toArray, .bool true])) : IfOut sort l e:=by
  unfold IfOut;rw [h];exact he
theorem ifOut_none {sort : UInt8} {l : List UInt8} {e : Ending} (h : Wf.fdA sort l = none) (he : e = .returned (.tuple #[.agg #[.int .i64 0,tx [],tx [],tx [],tx [],tx []], .bool false])) : IfOut sort l e:=by
  unfold IfOut;rw [h];exact he
theorem num_impl (p : List UInt8) : (Wf.plainN p 200 = none ∧ ∀ w,Calls Tryz.prog 165 #[tx p, .int .i64 200] w fun e w' => (∃ q : Int,e = .returned (.tuple #[.int .i64 q, .bool false])) ∧ w = w') ∨ ∃ t : Nat,Wf.plainN p 200 = some t ∧ ∀ w,Calls Tryz.prog 165 #[tx p, .int .i64 200] w fun e w' => e = .returned (.tuple #[.int .i64 t, .bool true]) ∧ w = w':=by
  have H:=fun w => plainNumber ⟨p.toArray⟩ 200 (by decide) w
  cases h : Wf.plainN p 200 with
  | none => exact .inl ⟨rfl,fun w => (H w).mono fun e w' ⟨ho,hb⟩ => ⟨by unfold NumOut at ho;rw [show (⟨p.toArray⟩ : ByteArray).data.toList = p from rfl,h] at ho;exact ho,hb⟩⟩
  | some t => exact .inr ⟨t,rfl,fun w => (H w).mono fun e w' ⟨ho,hb⟩ => ⟨by unfold NumOut at ho;rw [show (⟨p.toArray⟩ : ByteArray).data.toList = p from rfl,h] at ho;exact ho,hb⟩⟩
theorem readField (s : ByteArray) (sort : UInt8) (m : Int) (w : World) (hm : ML m w) (hs : s.size ≤ 1000000) : Calls Tryz.prog 128 #[.string s, .int .u8 sort.toNat] w fun e w' => IfOut sort s.data.toList e ∧ Below w.heap.size w w':=by
  have hl:=size_list s
  obtain ⟨H,V,told,hcut⟩ : ∃ (H V : List UInt8) (told : Bool),Wf.cut1 61 s.data.toList = (H,V,told):=⟨_,_,_,rfl⟩
  have hlen:=cut1_len 61 s.data.toList
  rw [hcut] at hlen
  dsimp only at hlen
  have HCUT : ∀ wz,ML m wz → Calls Tryz.prog 90 #[.string s, .string ⟨#[61]⟩] wz fun e w' => e = .returned (.tuple #[tx H,tx V, .bool told]) ∧ ∃ k,w' = wz.drewN k:=fun wz hz => by
    have h:=cut_at s 61 m wz hs hz
    rw [hcut] at h;exact h
  have HSP : ∀ wz,ML m wz → Calls Tryz.prog 127 #[tx H, .string ⟨#[58]⟩] wz fun e w' => e = .returned (.slice (some ⟨wz.heap.size,0,none⟩) (Wf.cutAt 58 H).length (Wf.cutAt 58 H).length) ∧ w' = wz.alloc (.cells ((Wf.cutAt 58 H).map tx).toArray 9):=fun wz hz => split_at ⟨H.toArray⟩ 58 m wz (by rw [tx_size];omega) hz
  have hmem : ∀ p,p ∈ Wf.cutAt 58 H → p.length ≤ 1000000:=fun p hp => by have:=cutAt_mem hp;omega
  have hsn : (sort = 69 ∧ (((sort.toNat : Int) == 69) = true) ∧ (((sort.toNat : Int) != 69) = false)) ∨ (sort ≠ 69 ∧ (((sort.toNat : Int) == 69) = false) ∧ (((sort.toNat : Int) != 69) = true)):=by
    by_cases h : sort = 69
    · exact .inl ⟨h,by rw [h];rfl,by rw [h];rfl⟩
    · have : sort.toNat ≠ 69:=fun e => h (UInt8.toNat_inj.1 (by rw [e];rfl))
      exact .inr ⟨h,by rw [beq_eq_false_iff_ne];omega,by rw [bne_iff_ne];omega⟩
  have bad : ∀ n,(Wf.cutAt 58 H).length = n → (sort ≠ 69 ∧ n ≠ 3 ∨ sort = 69 ∧ n ≠ 2) → Wf.fdA sort s.data.toList = none → Calls Tryz.prog 128 #[.string s, .int .u8 sort.toNat] w fun e w' => IfOut sort s.data.toList e ∧ Below w.heap.size w w':=by
    intro n hn hc hf
    refine (rfi_len s sort.toNat w m hm ⟨H.toArray⟩ ⟨V.toArray⟩ told n _ HCUT (by rw [← hn];exact HSP) ?_).mono fun e w' ⟨he,hb⟩ => ⟨ifOut_none hf he,hb⟩
    rcases hc with ⟨h1,h2⟩ | ⟨h1,h2⟩
    · rcases hsn with h | ⟨_,h,_⟩
      · exact absurd h.1 h1
      · exact .inl ⟨h,by rw [bne_iff_ne];omega⟩
    · rcases hsn with ⟨_,h,_⟩ | h
      · exact .inr ⟨h,by rw [bne_iff_ne];omega⟩
      · exact absurd h1 h.1
  match hps : Wf.cutAt 58 H with
  | [] => exact absurd hps (Wf.cutAt_ne _ _)
  | [p] => exact bad 1 (by rw [hps];rfl) (hsn.elim (fun h => .inr ⟨h.1,by decide⟩) (fun h => .inl ⟨h.1,by decide⟩)) (by unfold Wf.fdA;rw [hcut];dsimp only;rw [hps])
  | p :: q :: r :: u :: us => exact bad _ (by rw [hps]) (hsn.elim (fun h => .inr ⟨h.1,by simp⟩) (fun h => .inl ⟨h.1,by simp⟩)) (by unfold Wf.fdA;rw [hcut];dsimp only;rw [hps])
  | [p,q] =>
    rw [hps] at HSP hmem
    rcases hsn with ⟨h69,g1,g2⟩ | ⟨h69,_,_⟩
    · subst h69
      have hf : Wf.fdA 69 s.data.toList = match Wf.plainN p 200 with | none => none | some tag => if tag < 1 ∨ Wf.isName q = false ∨ told = true then none else some ⟨tag,q, .num,[]⟩:=by
        unfold Wf.fdA;rw [hcut];dsimp only;rw [hps];rfl
      rcases num_impl p with ⟨hn,HN⟩ | ⟨t,hn,HN⟩
      · rw [hn] at hf
        exact (rfi_nonum2 s _ w m hm _ _ told _ _ HCUT HSP g1 g2 HN).mono fun e w' ⟨he,hb⟩ => ⟨ifOut_none hf he,hb⟩
      · rw [hn] at hf
        dsimp only at hf
        by_cases ht : t < 1
        · rw [if_pos (.inl ht)] at hf
          exact (rfi_low2 s _ w m hm _ _ told _ _ HCUT HSP g1 g2 t ht HN).mono fun e w' ⟨he,hb⟩ => ⟨ifOut_none hf he,hb⟩
        · have HM:=fun w => isName_impl ⟨q.toArray⟩ w (by rw [tx_size];have:=hmem q (by simp);omega)
          cases hq : Wf.isName q with
          | false =>
            rw [if_pos (.inr (.inl hq))] at hf
            rw [show (⟨q.toArray⟩ : ByteArray).data.toList = q from rfl,hq] at HM
            exact (rfi_noname2 s _ w m hm _ _ told _ _ HCUT HSP g1 g2 t (by omega) HN HM).mono fun e w' ⟨he,hb⟩ => ⟨ifOut_none hf he,hb⟩
          | true =>
            rw [show (⟨q.toArray⟩ : ByteArray).data.toList = q from rfl,hq] at HM
            cases told with
            | true =>
              rw [if_pos (.inr (.inr rfl))] at hf
              exact (rfi_enum_told s _ w m hm _ _ true _ _ HCUT HSP g1 g2 rfl t (by omega) HN HM rfl).mono fun e w' ⟨he,hb⟩ => ⟨ifOut_none hf he,hb⟩
            | false =>
              rw [if_neg (by rw [hq];simp;omega)] at hf
              have hV : V = []:=by
                have:=(Wf.cut1_false (c:=61) (s:=s.data.toList) (by rw [hcut])).2.1
                rw [hcut] at this;exact this
              subst hV
              exact (rfi_enum s _ w m hm _ _ false _ _ HCUT HSP g1 g2 t (by omega) HN HM rfl).mono fun e w' ⟨he,hb⟩ => ⟨ifOut_some hf he,hb⟩
    · exact bad 2 (by rw [hps];rfl) (.inl ⟨h69,by decide⟩) (by unfold Wf.fdA;rw [hcut];dsimp only;rw [hps];exact if_pos h69)
  | [p,q,r] =>
    rw [hps] at HSP hmem
    rcases hsn with ⟨h69,_,_⟩ | ⟨h69,g1,g2⟩
    · exact bad 3 (by rw [hps];rfl) (.inr ⟨h69,by decide⟩) (by unfold Wf.fdA;rw [hcut];dsimp only;rw [hps];exact if_pos h69)
    · have hf : Wf.fdA sort s.data.toList = match Wf.plainN p 200 with
        | none => none
        | some tag =>
          if tag < 1 ∨ Wf.isName q = false then none else
          match Wf.parseK r with
          | none => none
          | some k => if told = true ∧ (sort ≠ 82 ∨ Wf.stOk k V = false) then none else some ⟨tag,q,k,V⟩:=by
        unfold Wf.fdA;rw [hcut];dsimp only;rw [hps];exact if_neg h69
      rcases num_impl p with ⟨hn,HN⟩ | ⟨t,hn,HN⟩
      · rw [hn] at hf
        exact (rfi_nonum3 s _ w m hm _ _ told _ _ _ HCUT HSP g1 g2 HN).mono fun e w' ⟨he,hb⟩ => ⟨ifOut_none hf he,hb⟩
      · rw [hn] at hf
        dsimp only at hf
        by_cases ht : t < 1
        · rw [if_pos (.inl ht)] at hf
          exact (rfi_low3 s _ w m hm _ _ told _ _ _ HCUT HSP g1 g2 t ht HN).mono fun e w' ⟨he,hb⟩ => ⟨ifOut_none hf he,hb⟩
        · have HM:=fun w => isName_impl ⟨q.toArray⟩ w (by rw [tx_size];have:=hmem q (by simp);omega)
          cases hq : Wf.isName q with
          | false =>
            rw [if_pos (.inr hq)] at hf
            rw [show (⟨q.toArray⟩ : ByteArray).data.toList = q from rfl,hq] at HM
            exact (rfi_noname3 s _ w m hm _ _ told _ _ _ HCUT HSP g1 g2 t (by omega) HN HM).mono fun e w' ⟨he,hb⟩ => ⟨ifOut_none hf he,hb⟩
          | true =>
            rw [if_neg (by rw [hq];simp;omega)] at hf
            rw [show (⟨q.toArray⟩ : ByteArray).data.toList = q from rfl,hq] at HM
            have hr6 : r.length ≤ 1000000:=hmem r (by simp)
            have hrs : (⟨r.toArray⟩ : ByteArray).size ≤ 9223372036854775807:=by rw [tx_size];omega
            cases hk : Wf.parseK r with
            | none =>
              rw [hk] at hf
              have HK:=fun wz => readKind_no ⟨r.toArray⟩ hk wz hrs
              exact (rfi_nokind s _ w m hm _ _ told _ _ _ HCUT HSP g1 g2 t (by omega) HN HM HK).mono fun e w' ⟨he,hb⟩ => ⟨ifOut_none hf he,hb⟩
            | some k =>
              rw [hk] at hf
              dsimp only at hf
              have HK:=fun wz => readKind_yes ⟨r.toArray⟩ k hk wz hrs
              rw [kV] at HK
              have hfd : ∀ g,(fdC sort ⟨t,q,k,g⟩).toArray = #[.int .i64 t,tx q,tx k.signs,tx k.base,tx k.name,tx g]:=fun g => by
                unfold fdC;rw [if_neg h69]
              cases told with
              | false =>
                rw [if_neg (by simp)] at hf
                exact (rfi_kind s _ w m hm _ _ false _ _ _ HCUT HSP g1 g2 t (by omega) HN HM _ _ _ HK rfl).mono fun e w' ⟨he,hb⟩ => ⟨ifOut_some hf (by rw [hfd];exact he),hb⟩
              | true =>
                by_cases h82 : sort = 82
                · have g3 : ((sort.toNat : Int) != 82) = false:=by rw [h82];rfl
                  by_cases hsg : k.signs = []
                  · have HS:=fun wz => standing k hsg ⟨V.toArray⟩ wz (by rw [tx_size];omega)
                    have hSe : (⟨k.signs.toArray⟩ : ByteArray).toList.isEmpty = true:=by rw [ByteArray.toList_eq,hsg];rfl
                    rw [show (⟨V.toArray⟩ : ByteArray).data.toList = V from rfl] at HS
                    cases hst : Wf.stOk k V with
                    | true =>
                      rw [if_neg (by rw [hst];simp [h82])] at hf
                      rw [hst] at HS
                      exact (rfi_told s _ w m hm _ _ true _ _ _ HCUT HSP g1 g2 t (by omega) HN HM _ _ _ HK rfl g3 hSe HS).mono fun e w' ⟨he,hb⟩ => ⟨ifOut_some hf (by rw [hfd];exact he),hb⟩
                    | false =>
                      rw [if_pos ⟨rfl, .inr hst⟩] at hf
                      rw [hst] at HS
                      exact (rfi_told_no s _ w m hm _ _ true _ _ _ HCUT HSP g1 g2 t (by omega) HN HM _ _ _ HK rfl g3 hSe HS).mono fun e w' ⟨he,hb⟩ => ⟨ifOut_none hf he,hb⟩
                  · have hst : Wf.stOk k V = false:=by
                      cases k <;> first | exact absurd rfl hsg | rfl
                    rw [if_pos ⟨rfl, .inr hst⟩] at hf
                    exact (rfi_told_signs s _ w m hm _ _ true _ _ _ HCUT HSP g1 g2 t (by omega) HN HM _ _ _ HK rfl g3 (by rw [ByteArray.toList_eq];cases hh : k.signs with | nil => exact absurd hh hsg | cons a l => rfl)).mono fun e w' ⟨he,hb⟩ => ⟨ifOut_none hf he,hb⟩
                · have g3 : ((sort.toNat : Int) != 82) = true:=by
                    have : sort.toNat ≠ 82:=fun e => h82 (UInt8.toNat_inj.1 (by rw [e];rfl))
                    rw [bne_iff_ne];omega
                  rw [if_pos ⟨rfl, .inl h82⟩] at hf
                  exact (rfi_told_sort s _ w m hm _ _ true _ _ _ HCUT HSP g1 g2 t (by omega) HN HM _ _ _ HK rfl g3).mono fun e w' ⟨he,hb⟩ => ⟨ifOut_none hf he,hb⟩

def TyL (w : World) (lo b : Nat) (t : Wf.Ty) : Prop:=∃ fb a c line,lo ≤ b ∧ lo ≤ fb ∧ b < w.heap.size ∧ w.cell? ⟨b,0,none⟩ = some (.int .u8 t.sort.toNat) ∧ w.cell? ⟨b,1,none⟩ = some (tx t.name) ∧ w.cell? ⟨b,2,none⟩ = some (.slice a t.fields.length c) ∧ w.heap[b]? = some (.cells line 65 (0,0)) ∧ RowK w fb (.slice a t.fields.length c) 6 (t.fields.map (fdC t.sort))
theorem TyL.keep {w w' : World} {lo b : Nat} {t : Wf.Ty} (h : TyL w lo b t) (hs : w.heap.size ≤ w'.heap.size) (hk : ∀ x,lo ≤ x → x < w.heap.size → w'.heap[x]? = w.heap[x]?) : TyL w' lo b t:=by
  obtain ⟨fb,a,c,line,h1,h2,h3,c0,c1,c2,c3,hr⟩:=h
  have hb:=hk b h1 h3
  have cc:=fun o => World.cell?_of_block (w:=w) (w':=w') (a:=⟨b,o,none⟩) hb
  exact ⟨fb,a,c,line,h1,h2,Nat.lt_of_lt_of_le h3 hs,(cc 0).trans c0,(cc 1).trans c1,(cc 2).trans c2,hb.trans c3,hr.keep hs fun hx => hk fb h2 hx⟩
theorem TyL.below {w w' : World} {lo b : Nat} {t : Wf.Ty} (h : TyL w lo b t) (hb : Below w.heap.size w w') : TyL w' lo b t:=h.keep hb.size fun x _ hx => hb.block x hx
theorem TyL.lt {w : World} {lo b : Nat} {t : Wf.Ty} (h : TyL w lo b t) : b < w.heap.size:=by obtain ⟨_,_,_,_,_,_,h3,_⟩:=h;exact h3
theorem TyL.le {w : World} {lo b : Nat} {t : Wf.Ty} (h : TyL w lo b t) : lo ≤ b:=by obtain ⟨_,_,_,_,h1,_⟩:=h;exact h1
theorem TyL.mono {w : World} {lo lo' b : Nat} {t : Wf.Ty} (h : TyL w lo b t) (hl : lo' ≤ lo) : TyL w lo' b t:=by
  obtain ⟨fb,a,c,line,h1,h2,h3⟩:=h
  exact ⟨fb,a,c,line,Nat.le_trans hl h1,Nat.le_trans hl h2,h3⟩
def ItOut (l : List UInt8) (lo : Nat) (e : Ending) (w' : World) : Prop:=match Wf.lineTy l with
  | some t => ∃ b,e = .returned (.tuple #[ptr b, .bool true]) ∧ TyL w' lo b t
  | none => ∃ p,e = .returned (.tuple #[.pointer p, .bool false])
theorem itOut_none {l : List UInt8} {lo : Nat} {w' : World} {e : Ending} (h : Wf.lineTy l = none) (he : ∃ p,e = .returned (.tuple #[.pointer p, .bool false])) : ItOut l lo e w':=by
  unfold ItOut;rw [h];exact he
theorem itOut_some {l : List UInt8} {lo : Nat} {w' : World} {e : Ending} {t : Wf.Ty} (h : Wf.lineTy l = some t) (he : ∃ b,e = .returned (.tuple #[ptr b, .bool true]) ∧ TyL w' lo b t) : ItOut l lo e w':=by
  unfold ItOut;rw [h];exact he
structure TSi (w wr : World) (q : Nat) (name line : ByteArray) (lv : Value) (a : Option Addr) (c : Nat) (ps : List (List UInt8)) (es : List (List Value)) : Prop where
  below : Below w.heap.size w wr
  size : w.heap.size + 2 ≤ wr.heap.size
  c0 : wr.cell? ⟨w.heap.size,0,none⟩ = some (.int .u8 q)
  c1 : wr.cell? ⟨w.heap.size,1,none⟩ = some (.string name)
  c2 : wr.cell? ⟨w.heap.size,2,none⟩ = some (.slice a es.length c)
  c3 : ∃ cs,wr.heap[w.heap.size]? = some (.cells cs 65 (0,0))
  f2 : wr.frozen? ⟨w.heap.size,2,none⟩ = false
  row : RowAt wr (w.heap.size + 1) lv (ps.map tx)
  own : wr.ownsRow (w.heap.size + 2) 77 6 (.slice a es.length c) es.length es.flatten
  he : ∀ e ∈ es,e.length = 6
section
variable {w wr : World} {q : Nat} {name line : ByteArray} {lv : Value} {a : Option Addr} {c : Nat} {ps : List (List UInt8)} {es : List (List Value)}
theorem TSi.step (h : TSi w wr q name line lv a c ps es) {w2 : World} (hb : Below wr.heap.size wr w2) : TSi w w2 q name line lv a c ps es:=by
  have hs:=h.size
  have ht : w.heap.size < wr.heap.size:=by omega
  refine ⟨h.below.trans (hb.mono (by omega)),Nat.le_trans hs hb.size, ?_, ?_, ?_, ?_, ?_,h.row.below hb id,owns_below h.own hb,h.he⟩
  · exact (hb.cell (p:=⟨w.heap.size,0,none⟩) ht).trans h.c0
  · exact (hb.cell (p:=⟨w.heap.size,1,none⟩) ht).trans h.c1
  · exact (hb.cell (p:=⟨w.heap.size,2,none⟩) ht).trans h.c2
  · exact h.c3.imp fun cs hc => (hb.block _ ht).trans hc
  · exact (hb.frozen (p:=⟨w.heap.size,2,none⟩) ht).trans h.f2
theorem TSi.put (h : TSi w wr q name line lv a c ps es) {wx w' : World} (hx : Below wr.heap.size wr wx) (hg : wx.grownBy w' (Value.slice a es.length c).ownBlock) {a' : Option Addr} {c' : Nat} {e : List Value} (hl : e.length = 6) (ho : w'.ownsRow (w.heap.size + 2) 77 6 (.slice a' (es.length + 1) c') (es.length + 1) (es.flatten ++ e)) :
    TSi w (w'.setCell ⟨w.heap.size,2,none⟩ (.slice a' (es.length + 1) c')) q name line lv a' c' ps (es ++ [e]):=by
  have hs:=h.step hx
  have hsz:=h.size
  have hsx:=hs.size
  have hb : Below (w.heap.size + 2) wx w':=below_grown2 hg (fun g hgk => (owns_lt h.own g hgk).1) hsx
  have hs2 : (w'.setCell ⟨w.heap.size,2,none⟩ (.slice a' (es.length + 1) c')).heap.size = w'.heap.size:=by simp
  have hlen : (es ++ [e]).length = es.length + 1:=by simp
  have htB : w.heap.size < w.heap.size + 2:=by omega
  have c2' : w'.cell? ⟨w.heap.size,2,none⟩ = some (.slice a es.length c):=(hb.cell (p:=⟨w.heap.size,2,none⟩) htB).trans hs.c2
  refine ⟨?_, ?_, ?_, ?_, ?_, ?_, ?_, ?_, ?_, ?_⟩
  · exact (hs.below.trans (hb.mono (by omega))).setCell (Nat.le_refl _) _
  · rw [hs2];exact Nat.le_trans hs.size hb.size
  · exact (World.cell?_setCell_other w' _ _ _ (by simp)).trans ((hb.cell (p:=⟨w.heap.size,0,none⟩) htB).trans hs.c0)
  · exact (World.cell?_setCell_other w' _ _ _ (by simp)).trans ((hb.cell (p:=⟨w.heap.size,1,none⟩) htB).trans hs.c1)
  · rw [hlen];exact World.cell?_setCell_same w' _ _ c2'
  · obtain ⟨cs,hc⟩:=hs.c3
    exact ⟨_,by unfold World.setCell;simp only [Array.getElem?_modify,if_true,(hb.block _ htB).trans hc];rfl⟩
  · have:=(hb.frozen (p:=⟨w.heap.size,2,none⟩) htB).trans hs.f2
    simpa using this
  · refine RowAt.keep hs.row ?_ fun hlt => ?_
    · rw [hs2];exact hb.size
    · rw [Below.heap_setCell w' ⟨w.heap.size,2,none⟩ _ _ (Nat.ne_of_gt (Nat.lt_succ_self _))];exact hb.block _ (Nat.lt_succ_self _)
  · rw [hlen,List.flatten_append,List.flatten_cons,List.flatten_nil,List.append_nil]
    exact ownsRow_setCell_below ho htB _
  · intro x hx
    rcases List.mem_append.1 hx with hx | hx
    · exact h.he x hx
    · rw [List.mem_singleton.1 hx];exact hl
theorem info_fdi : (Tryz.prog.info? 77).map (fun i => (i.zero,i.size,i.bytes)) = some (some (.agg #[.int .i64 0,tx [],tx [],tx [],tx [],tx []]),6,88):=by kernel_rfl
theorem one6 (n : Int) (a b c d e : ByteArray) : ∀ u ∈ [Value.int .i64 n,Value.string a,Value.string b,Value.string c,Value.string d,Value.string e],u.oneCell' = true:=by
  intro u hu
  simp only [List.mem_cons,List.not_mem_nil,or_false] at hu
  rcases hu with rfl | rfl | rfl | rfl | rfl | rfl <;> rfl
end
end Go.Proofs.YtmdacedmjbiekaaGreatDoor

namespace Go.Proofs.YtmdacedmjbiekaaGreatDoor
open Go.ChangeShapes Go.WideShapes Go.ChangeAt Go.RowKit Go.Lib
set_option linter.unusedVariables false
set_option linter.unusedSimpArgs false
set_option maxRecDepth 20000 in
theorem it_empty (s : ByteArray) (w : World) (h0 : s.toList.isEmpty = true) : Calls Tryz.prog 91 #[.string s] w fun e w' => (∃ p,e = .returned (.tuple #[.pointer p, .bool false])) ∧ Below w.heap.size w w':=by
  go_enter Tryz.func91,Tryz.ntmps91
  go_wp2_with fail
  go_ret2
  exact ⟨⟨_,rfl⟩,Below.refl _ _⟩
set_option maxRecDepth 20000 in
theorem it_nosort (s : ByteArray) (w : World) (h0 : s.toList.isEmpty = false) (h1 : 1 ≤ s.size) (hk : ∀ wz,Calls Tryz.prog 126 #[.string ⟨#[82,85,69]⟩, .string (s.extract 0 1)] wz fun e w' => e = .returned (.bool false) ∧ wz = w') :
    Calls Tryz.prog 91 #[.string s] w fun e w' => (∃ p,e = .returned (.tuple #[.pointer p, .bool false])) ∧ Below w.heap.size w w':=by
  have HK:=hid hk
  clear hk
  go_enter Tryz.func91,Tryz.ntmps91
  go_wp2_with (go_at_call 126;refine (HK.out _).mono ?_;rintro e w1 ⟨rfl,rfl⟩)
  go_ret2
  exact ⟨⟨_,rfl⟩,Below.refl _ _⟩
section
variable (s : ByteArray) (w : World) (m : Int) (hm : ML m w) (h0 : s.toList.isEmpty = false) (h1 : 1 ≤ s.size) (hk : ∀ wz,Calls Tryz.prog 126 #[.string ⟨#[82,85,69]⟩, .string (s.extract 0 1)] wz fun e w' => e = .returned (.bool true) ∧ wz = w')
  (NM RS : ByteArray) (told : Bool) (hc : ∀ wz,ML m wz → Calls Tryz.prog 90 #[.string (s.extract 1 s.size), .string ⟨#[61]⟩] wz fun e w' => e = .returned (.tuple #[.string NM, .string RS, .bool told]) ∧ ∃ k,w' = wz.drewN k)
include hm h0 h1 hk hc
set_option maxRecDepth 20000 in
theorem it_nocut (ht : told = false) : Calls Tryz.prog 91 #[.string s] w fun e w' => (∃ p,e = .returned (.tuple #[.pointer p, .bool false])) ∧ Below w.heap.size w w':=by
  have HK:=hid hk
  have HC:=hid (hc _ hm)
  subst ht
  clear hk hc hm
  go_enter Tryz.func91,Tryz.ntmps91
  go_wp2_with (first | (go_at_call 90;refine HC.out.mono ?_;rintro e w1 ⟨rfl,dk,rfl⟩) | (go_at_call 126;refine (HK.out _).mono ?_;rintro e w1 ⟨rfl,rfl⟩))
  go_ret2
  exact ⟨⟨_,rfl⟩,bel_drewN (Below.refl _ _) _⟩
set_option maxRecDepth 20000 in
theorem it_noname (ht : told = true) (hn : ∀ wz,Calls Tryz.prog 108 #[.string NM] wz fun e w' => e = .returned (.bool false) ∧ Below wz.heap.size wz w') : Calls Tryz.prog 91 #[.string s] w fun e w' => (∃ p,e = .returned (.tuple #[.pointer p, .bool false])) ∧ Below w.heap.size w w':=by
  have HK:=hid hk
  have HC:=hid (hc _ hm)
  have HN:=hid hn
  subst ht
  clear hk hc hm hn
  go_enter Tryz.func91,Tryz.ntmps91
  go_wp2_with (first | (go_at_call 108;refine (HN.out _).mono ?_;rintro e w2 ⟨rfl,hb2⟩;have HB2:=hid hb2;clear hb2) | (go_at_call 90;refine HC.out.mono ?_;rintro e w1 ⟨rfl,dk,rfl⟩) | (go_at_call 126;refine (HK.out _).mono ?_;rintro e w1 ⟨rfl,rfl⟩))
  go_ret2
  exact ⟨⟨_,rfl⟩,(bel_drewN (Below.refl _ _) _).trans HB2.out⟩
set_option maxRecDepth 20000 in
set_option maxHeartbeats 1000000 in
theorem it_bare (ht : told = true) (hn : ∀ wz,Calls Tryz.prog 108 #[.string NM] wz fun e w' => e = .returned (.bool true) ∧ Below wz.heap.size wz w') (hr : RS.toList.isEmpty = true) (q : Nat) (e0 : ∀ h,(s[0]'h).toNat = q) :
    Calls Tryz.prog 91 #[.string s] w fun e w' => (∃ b,e = .returned (.tuple #[ptr b, .bool ((q : Int) == 82)]) ∧ w.heap.size ≤ b ∧ b < w'.heap.size ∧ w'.cell? ⟨b,0,none⟩ = some (.int .u8 q) ∧ w'.cell? ⟨b,1,none⟩ = some (.string NM) ∧ w'.cell? ⟨b,2,none⟩ = some (.slice none 0 0) ∧ ∃ cs,w'.heap[b]? = some (.cells cs 65 (0,0))) ∧ Below w.heap.size w w':=by
  have HK:=hid hk
  have HC:=hid (hc _ hm)
  have HN:=hid hn
  subst ht
  clear hk hc hm hn
  go_enter Tryz.func91,Tryz.ntmps91
  go_wp2_with (first | (go_at_call 108;refine (HN.out _).mono ?_;rintro e w2 ⟨rfl,hb2⟩;have HB2:=hid hb2;clear hb2) | (go_at_call 90;refine HC.out.mono ?_;rintro e w1 ⟨rfl,dk,rfl⟩) | (go_at_call 126;refine (HK.out _).mono ?_;rintro e w1 ⟨rfl,rfl⟩))
  go_region
  all_goals go_wp2_with fail
  all_goals go_ret2
  all_goals exact ⟨⟨_,rfl,HB2.out.size,by simp,by simp,by simp,by simp,⟨_,(MapKept.heap_alloc w2 _).1⟩⟩,by have B:=(bel_drewN (Below.refl w.heap.size w) dk).trans HB2.out;repeat (first | with_reducible exact B | with_reducible refine Below.drew ?_ | with_reducible refine Below.alloc ?_ (by first | exact B.size | (simp;done) | (simp;omega) | omega) _)⟩
end
end Go.Proofs.YtmdacedmjbiekaaGreatDoor
