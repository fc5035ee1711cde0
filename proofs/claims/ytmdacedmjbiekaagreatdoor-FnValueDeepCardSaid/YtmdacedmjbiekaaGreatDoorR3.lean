/- Packed by pack.py: Kc Kq Rj Kw PlainD Nm Dr. -/
import Derived.Test.YtmdacedmjbiekaaGreatDoorR1
import Derived.Test.YtmdacedmjbiekaaGreatDoorR2
import Derived.Test.YtmdacedmjbiekaaGreatDoorR0
import Derived.Deep.RegionWith
import Derived.IntWalk
namespace Go.Proofs.YtmdacedmjbiekaaGreatDoor
open Go.ChangeShapes Go.WideShapes Go.ChangeAt Go.RowKit Go.Lib
set_option linter.unusedVariables false
theorem sgn_of {c : UInt8} (h : c.toNat = 91 ∨ c.toNat = 63) : Wf.isSgn c = true:=by
  rcases h with h | h
  · have : c = 91:=UInt8.toNat_inj.1 (by rw [h];rfl)
    rw [this];rfl
  · have : c = 63:=UInt8.toNat_inj.1 (by rw [h];rfl)
    rw [this];rfl
theorem sgn_not {c : UInt8} (h : ¬ (c.toNat = 91 ∨ c.toNat = 63)) : Wf.isSgn c = false:=by
  cases hc : Wf.isSgn c with
  | false => rfl
  | true =>
    simp only [Wf.isSgn,Bool.or_eq_true,beq_iff_eq] at hc
    rcases hc with rfl | rfl
    · exact absurd (.inl rfl) h
    · exact absurd (.inr rfl) h
theorem core_drop {t : ByteArray} {c : UInt8} (hc : t.data.toList[0]? = some c) (h : c.toNat = 91 ∨ c.toNat = 63) : (t.extract 1 t.size).data.toList.dropWhile Wf.isSgn = t.data.toList.dropWhile Wf.isSgn:=by
  have hl:=size_list t
  rw [ext_list]
  cases hd : t.data.toList with
  | nil => rw [hd] at hc;simp at hc
  | cons x r =>
    rw [hd] at hc hl
    have hx : x = c:=by simpa using hc
    subst hx
    rw [List.drop_one,List.tail_cons,List.take_of_length_le (by simp at hl;omega),List.dropWhile_cons_of_pos (sgn_of h)]
theorem core_end {t : ByteArray} {c : UInt8} (hc : t.data.toList[0]? = some c) (h : ¬ (c.toNat = 91 ∨ c.toNat = 63)) : t = ⟨(t.data.toList.dropWhile Wf.isSgn).toArray⟩:=by
  rw [eq_list]
  cases hd : t.data.toList with
  | nil => rfl
  | cons x r =>
    rw [hd] at hc
    have hx : x = c:=by simpa using hc
    subst hx
    rw [List.dropWhile_cons_of_neg (by rw [sgn_not h];decide)]
set_option maxRecDepth 20000 in
theorem core_spec (s : ByteArray) (w : World) (hs : s.size ≤ 1048576) (hd : s.data.toList.dropWhile Wf.isSgn ≠ []) : Calls Tryz.prog 74 #[.string s] w fun e w' => e = .returned (.string ⟨(s.data.toList.dropWhile Wf.isSgn).toArray⟩) ∧ w = w':=by
  have HD:=hid hd
  clear hd
  go_enter Tryz.func74,Tryz.ntmps74
  go_wp2
  go_loopw [0] (fun v wr => ∃ t : ByteArray,v = .string t ∧ t.size ≤ 1048576 ∧ Hid (t.data.toList.dropWhile Wf.isSgn = s.data.toList.dropWhile Wf.isSgn) ∧ w = wr)
    (fun v _ => match v with | .string t => t.size | _ => 0)
  case atStart => exact ⟨s,rfl,hs,hid (show _ = _ from rfl),rfl⟩
  case round =>
    obtain ⟨t,rfl,ht,hx,rfl⟩:=hrel
    have h1 : 1 ≤ t.size:=by
      rcases Nat.eq_zero_or_pos t.size with h | h
      · have hl:=size_list t
        have h0 : t.data.toList = []:=List.eq_nil_of_length_eq_zero (by omega)
        have:=hx.out
        rw [h0] at this
        exact absurd this.symm HD.out
      · exact h
    obtain ⟨c,hc,e0⟩:=byte_at t 0 (by omega)
    have HC:=hid hc
    clear hc
    obtain ⟨a,ha⟩ : ∃ a,c.toNat = a:=⟨_,rfl⟩
    have HA:=hid ha
    rw [ha] at e0
    clear ha
    by_cases h91 : a = 91 ∨ a = 63
    · have HN:=hid (show (t.extract 1 t.size).data.toList.dropWhile Wf.isSgn = s.data.toList.dropWhile Wf.isSgn by rw [← hx.out];exact core_drop HC.out (by rw [HA.out];exact h91))
      have hsz : (t.extract 1 t.size).size = t.size - 1:=by rw [ByteArray.size_extract];omega
      rcases h91 with h | h
      · subst h
        go_wp2
        go_roundw
        case rel => exact ⟨_,rfl,by omega,HN.out,trivial⟩
        case measure => show (t.extract 1 t.size).size < t.size;omega
      · subst h
        go_wp2
        go_roundw
        case rel => exact ⟨_,rfl,by omega,HN.out,trivial⟩
        case measure => show (t.extract 1 t.size).size < t.size;omega
    · have t1 : ((a : Int) == 91) = false:=by rw [beq_eq_false_iff_ne];omega
      have t2 : ((a : Int) == 63) = false:=by rw [beq_eq_false_iff_ne];omega
      have HE:=hid (show t = ⟨(s.data.toList.dropWhile Wf.isSgn).toArray⟩ by rw [← hx.out];exact core_end HC.out (by rw [HA.out];exact h91))
      clear h91
      go_wp2
      go_ret
      exact ⟨by rw [← HE.out];rfl,rfl⟩

theorem len_core (l : List UInt8) : (l.takeWhile Wf.isSgn).length + (l.dropWhile Wf.isSgn).length = l.length:=by
  rw [← List.length_append,List.takeWhile_append_dropWhile]
theorem ret_v {a b : Value} (h1 : a = b) : Ending.returned a = .returned b:=by rw [h1]
def refV (l : List UInt8) : Value :=
  match l with
  | [] => .tuple #[.string ⟨#[]⟩, .bool false]
  | c :: r => if c = 64 then .tuple #[.string ⟨r.dropLast.toArray⟩, .bool true] else .tuple #[.string ⟨#[]⟩, .bool false]
set_option maxRecDepth 20000 in
theorem ref_spec (s : ByteArray) (w : World) (hs : s.size ≤ 1048576) (h1 : 1 ≤ s.size) (h2 : s.data.toList.head? = some 64 → 2 ≤ s.size) : Calls Tryz.prog 73 #[.string s] w fun e w' => e = .returned (refV s.data.toList) ∧ w = w':=by
  have hl:=size_list s
  obtain ⟨c,hc,e0⟩:=byte_at s 0 (by omega)
  obtain ⟨a,ha⟩ : ∃ a,c.toNat = a:=⟨_,rfl⟩
  rw [ha] at e0
  cases hd : s.data.toList with
  | nil => rw [hd] at hl;simp at hl;omega
  | cons x r =>
    rw [hd] at hc hl h2
    have hx : x = c:=by simpa using hc
    subst hx
    by_cases h64 : a = 64
    · have hx : x = 64:=UInt8.toNat_inj.1 (by rw [ha,h64];rfl)
      subst hx
      have h22:=h2 rfl
      have HV:=hid (show refV (64 :: r) = .tuple #[.string (s.extract 1 (s.size - 1)), .bool true] by
        rw [refV,if_pos rfl]
        have he : s.extract 1 (s.size - 1) = ⟨r.dropLast.toArray⟩:=by
          rw [eq_list,ext_list,hd,List.drop_one,List.tail_cons,List.dropLast_eq_take]
          congr 1
          simp at hl;omega
        rw [he])
      subst h64
      clear hc ha hl h2 hd
      go_enter Tryz.func73,Tryz.ntmps73
      go_wp2
      go_ret2
      exact ⟨ret_v HV.out.symm,rfl⟩
    · have HV:=hid (show refV (x :: r) = .tuple #[.string ⟨#[]⟩, .bool false] by
        rw [refV,if_neg (fun h => h64 (by rw [← ha,h];rfl))])
      have t1 : ((a : Int) == 64) = false:=by rw [beq_eq_false_iff_ne];omega
      have t3 : ((a : Int) != 64) = true:=by unfold bne;rw [t1];rfl
      clear hc ha hl h2 hd h64
      go_enter Tryz.func73,Tryz.ntmps73
      go_wp2
      go_ret2
      exact ⟨ret_v HV.out.symm,rfl⟩
theorem parse_text {l : List UInt8} {k : Wf.K} (h : Wf.parseK l = some k) : k.text = l:=by
  unfold Wf.parseK at h
  by_cases h1 : l.length ≤ 12
  · rw [if_pos h1] at h;exact Wf.kindIn_text h
  · rw [if_neg h1] at h;cases h
theorem ok_some {l : List UInt8} {k : Wf.K} (h : Wf.parseK l = some k) : okB l = true:=by rw [okB,h];rfl
theorem ok_none {l : List UInt8} (h : Wf.parseK l = none) : okB l = false:=by rw [okB,h];rfl
theorem tx_size (l : List UInt8) : (⟨l.toArray⟩ : ByteArray).size = l.length:=rfl
theorem drop_core (k : Wf.K) : k.text.dropWhile Wf.isSgn = k.core.text:=by
  induction k with
  | list k ih => rw [Wf.K.text,List.dropWhile_cons_of_pos (by decide),ih];rfl
  | opt k ih => rw [Wf.K.text,List.dropWhile_cons_of_pos (by decide),ih];rfl
  | _ => rfl
theorem core_base (k : Wf.K) : k.core.base = k.base ∧ k.core.name = k.name:=by
  induction k with
  | list k ih => exact ih
  | opt k ih => exact ih
  | _ => exact ⟨rfl,rfl⟩
theorem core_plain (k : Wf.K) : (∃ n,k.core = .ref n) ∨ k.core.text.head? ≠ some 64 ∧ k.core.base ≠ [64]:=by
  induction k with
  | list k ih => exact ih
  | opt k ih => exact ih
  | ref n => exact .inl ⟨n,rfl⟩
  | _ => exact .inr ⟨by decide,by decide⟩

theorem signs_drop (l : List UInt8) : Lib.trimLeftS l [91,63] = l.dropWhile Wf.isSgn:=by
  unfold Lib.trimLeftS
  congr 1
  funext c
  simp [Wf.isSgn,Bool.beq_eq_decide_eq]
theorem pre_one (r : List UInt8) (c : UInt8) : Lib.hasPrefix r [c] = decide (r.head? = some c):=by
  cases r with
  | nil => rfl
  | cons a q => simp [Lib.hasPrefix,List.isPrefixOf,Bool.beq_eq_decide_eq,eq_comm]
theorem suf_one (r : List UInt8) (c : UInt8) : Lib.hasSuffix r [c] = decide (r.getLast? = some c):=by
  unfold Lib.hasSuffix List.isSuffixOf
  rw [← List.head?_reverse]
  exact pre_one r.reverse c
theorem eq_arr (s : ByteArray) (l : List UInt8) (h : s.data.toList = l) : s = ⟨l.toArray⟩:=by rw [← h]
theorem kV_eq (l : List UInt8) (k : Wf.K) (h : k.signs = []) (hb : k.core = k) : kV (Wf.wrap (l.takeWhile Wf.isSgn) k) = .agg #[tx (l.takeWhile Wf.isSgn),tx k.base,tx k.name]:=by
  have ha : (l.takeWhile Wf.isSgn).all Wf.isSgn = true:=List.all_takeWhile
  rw [kV,Wf.wrap_signs ha,Wf.wrap_base,Wf.wrap_name,h,List.append_nil]
theorem beq_no {t : ByteArray} {l : List UInt8} (h : t.data.toList ≠ l) : (t.toList == l) = false:=by
  rw [ByteArray.toList_eq,beq_eq_false_iff_ne];exact h
theorem core_cases (r : List UInt8) : (r = [110] ∧ Wf.coreIn r = some .num) ∨ (r = [116] ∧ Wf.coreIn r = some .txt) ∨ (r = [102] ∧ Wf.coreIn r = some .flag) ∨
    (r ≠ [110] ∧ r ≠ [116] ∧ r ≠ [102] ∧ ((r.head? = some 64 ∧ r.getLast? = some 59 ∧ Wf.coreIn r = (if Wf.isName r.tail.dropLast = true then some (.ref r.tail.dropLast) else none)) ∨ (¬ (r.head? = some 64 ∧ r.getLast? = some 59) ∧ Wf.coreIn r = none))):=by
  by_cases h1 : r = [110]
  · exact .inl ⟨h1,by rw [h1];rfl⟩
  by_cases h2 : r = [116]
  · exact .inr (.inl ⟨h2,by rw [h2];rfl⟩)
  by_cases h3 : r = [102]
  · exact .inr (.inr (.inl ⟨h3,by rw [h3];rfl⟩))
  refine .inr (.inr (.inr ⟨h1,h2,h3, ?_⟩))
  have e : Wf.coreIn r = if r.head? = some 64 ∧ r.getLast? = some 59 ∧ Wf.isName (r.tail.dropLast) = true then some (.ref r.tail.dropLast) else none:=by
    rw [Wf.coreIn,if_neg h1,if_neg h2,if_neg h3]
  by_cases h4 : r.head? = some 64 ∧ r.getLast? = some 59
  · refine .inl ⟨h4.1,h4.2, ?_⟩
    rw [e]
    by_cases h5 : Wf.isName r.tail.dropLast = true
    · rw [if_pos ⟨h4.1,h4.2,h5⟩,if_pos h5]
    · rw [if_neg (fun h => h5 h.2.2),if_neg h5]
  · exact .inr ⟨h4,by rw [e,if_neg (fun h => h4 ⟨h.1,h.2.1⟩)]⟩
theorem two_of {r : List UInt8} (h1 : r.head? = some 64) (h2 : r.getLast? = some 59) : 2 ≤ r.length:=by
  match r,h1,h2 with
  | [a],h1,h2 =>
    have e1 : a = 64:=by simpa using h1
    have e2 : a = 59:=by simpa using h2
    rw [e1] at e2;exact absurd e2 (by decide)
  | a :: b :: q,_,_ => simp
def KindOut (l : List UInt8) (e : Ending) : Prop :=
  match Wf.parseK l with
  | some k => e = .returned (.tuple #[kV k, .bool true])
  | none => ∃ a b c : ByteArray,e = .returned (.tuple #[.agg #[.string a, .string b, .string c], .bool false])
theorem kindOut_some {l : List UInt8} {k : Wf.K} {e : Ending} (h : Wf.parseK l = some k) (he : e = .returned (.tuple #[kV k, .bool true])) : KindOut l e:=by
  rw [KindOut,h];exact he
theorem kindOut_none {l : List UInt8} {e : Ending} (h : Wf.parseK l = none) (he : ∃ a b c : ByteArray,e = .returned (.tuple #[.agg #[.string a, .string b, .string c], .bool false])) : KindOut l e:=by
  rw [KindOut,h];exact he
theorem readKind_any (s : ByteArray) (w : World) (hs2 : s.size ≤ 9223372036854775807) : Calls Tryz.prog 76 #[.string s] w fun e w' => KindOut s.data.toList e ∧ Below w.heap.size w w':=by
  have hl:=size_list s
  by_cases hs : s.size ≤ 12
  · have hp : Wf.parseK s.data.toList = (Wf.coreIn (s.data.toList.dropWhile Wf.isSgn)).map (Wf.wrap (s.data.toList.takeWhile Wf.isSgn)):=by
      rw [Wf.parseK,if_pos (by omega),Wf.kindIn_split]
    obtain ⟨t,ht⟩ : ∃ t : ByteArray,(⟨(s.data.toList.dropWhile Wf.isSgn).toArray⟩ : ByteArray) = t:=⟨_,rfl⟩
    have htl : t.data.toList = s.data.toList.dropWhile Wf.isSgn:=by rw [← ht]
    have hlc:=len_core s.data.toList
    have hts : t.size = (s.data.toList.dropWhile Wf.isSgn).length:=by rw [← size_list,htl]
    have hts' : t.size ≤ s.size:=by omega
    have hc : ∀ w,Calls Tryz.prog 105 #[.string s, .string ⟨#[91,63]⟩] w fun e w' => e = .returned (.string t) ∧ Below w.heap.size w w':=by
      intro w
      have:=signs_left s w
      rw [signs_drop,ht] at this
      exact this
    have hx : s.extract 0 (s.size - t.size) = ⟨(s.data.toList.takeWhile Wf.isSgn).toArray⟩:=by
      refine eq_arr _ _ ?_
      rw [ext_list,List.drop_zero,Nat.sub_zero]
      have : s.size - t.size = (s.data.toList.takeWhile Wf.isSgn).length:=by omega
      rw [this]
      exact (List.prefix_iff_eq_take.1 (List.takeWhile_prefix _)).symm
    have plain : ∀ c (k : Wf.K),t.data.toList = [c] → (t.toList == [110] || t.toList == [116] || t.toList == [102]) = true → Wf.coreIn t.data.toList = some k → k.signs = [] → k.core = k → k.base = [c] → k.name = [] →
        Calls Tryz.prog 76 #[.string s] w fun e w' => KindOut s.data.toList e ∧ Below w.heap.size w w':=by
      intro c k h1 h2 h3 h4 h5 h6 h7
      refine (readKind_plain s t w hs hts' h2 hc).mono fun e w' ⟨he,hb⟩ => ⟨?_,hb⟩
      refine kindOut_some (k:=Wf.wrap (s.data.toList.takeWhile Wf.isSgn) k) (by rw [hp,← htl,h3,Option.map_some]) ?_
      rw [he,kV_eq _ _ h4 h5,hx,h6,h7,eq_arr t _ h1]
    rcases core_cases t.data.toList with ⟨h1,h2⟩ | ⟨h1,h2⟩ | ⟨h1,h2⟩ | ⟨h1,h2,h3,h⟩
    · exact plain 110 .num h1 (by rw [ByteArray.toList_eq,h1];rfl) h2 rfl rfl rfl rfl
    · exact plain 116 .txt h1 (by rw [ByteArray.toList_eq,h1];rfl) h2 rfl rfl rfl rfl
    · exact plain 102 .flag h1 (by rw [ByteArray.toList_eq,h1];rfl) h2 rfl rfl rfl rfl
    · rcases h with ⟨h4,h5,h6⟩ | ⟨h4,h6⟩
      · have h2t : 2 ≤ t.size:=by rw [← size_list];exact two_of h4 h5
        have hn : (t.extract 1 (t.size - 1)).data.toList = t.data.toList.tail.dropLast:=by
          rw [ext_list,List.drop_one,List.dropLast_eq_take,List.length_tail,size_list]
        refine (readKind_at s t w hs hts' h2t (beq_no h1) (beq_no h2) (beq_no h3) (by rw [pre_one,h4];rfl) (by rw [suf_one,h5];rfl) (Wf.isName t.data.toList.tail.dropLast) (fun w => ?_) hc).mono fun e w' ⟨he,hb⟩ => ⟨?_,hb⟩
        · have:=isName_impl (t.extract 1 (t.size - 1)) w (by rw [ByteArray.size_extract];omega)
          rw [hn] at this
          exact this
        · cases hb : Wf.isName t.data.toList.tail.dropLast with
          | true =>
            rw [hb,if_pos rfl] at h6
            refine kindOut_some (k:=Wf.wrap (s.data.toList.takeWhile Wf.isSgn) (.ref t.data.toList.tail.dropLast)) (by rw [hp,← htl,h6,Option.map_some]) ?_
            rw [he,kV_eq _ _ rfl rfl,hx,hb,eq_arr _ _ hn]
            rfl
          | false =>
            rw [hb,if_neg (by decide)] at h6
            refine kindOut_none (by rw [hp,← htl,h6,Option.map_none]) ?_
            rw [he,hb]
            exact ⟨_,_,_,rfl⟩
      · refine (readKind_none s t w hs hts' (beq_no h1) (beq_no h2) (beq_no h3) _ _ (pre_one _ _) (suf_one _ _) ?_ hc).mono fun e w' ⟨he,hb⟩ => ⟨?_,hb⟩
        · by_cases h7 : t.data.toList.head? = some 64
          · by_cases h8 : t.data.toList.getLast? = some 59
            · exact absurd ⟨h7,h8⟩ h4
            · rw [decide_eq_false h8,Bool.and_false]
          · rw [decide_eq_false h7,Bool.false_and]
        · refine kindOut_none (by rw [hp,← htl,h6,Option.map_none]) ?_
          rw [he]
          exact ⟨_,_,_,rfl⟩
  · refine (readKind_long s w (by omega) hs2).mono fun e w' ⟨he,hb⟩ => ⟨?_,hb⟩
    exact kindOut_none (by rw [Wf.parseK,if_neg (by omega)]) ⟨_,_,_,he⟩
theorem readKind_yes (s : ByteArray) (k : Wf.K) (hk : Wf.parseK s.data.toList = some k) (w : World) (hs2 : s.size ≤ 9223372036854775807) : Calls Tryz.prog 76 #[.string s] w fun e w' => e = .returned (.tuple #[kV k, .bool true]) ∧ Below w.heap.size w w' :=
  (readKind_any s w hs2).mono fun e w' ⟨h,hb⟩ => ⟨by unfold KindOut at h;rw [hk] at h;exact h,hb⟩
theorem readKind_no (s : ByteArray) (hk : Wf.parseK s.data.toList = none) (w : World) (hs2 : s.size ≤ 9223372036854775807) : Calls Tryz.prog 76 #[.string s] w fun e w' => (∃ a b c : ByteArray,e = .returned (.tuple #[.agg #[.string a, .string b, .string c], .bool false])) ∧ Below w.heap.size w w' :=
  (readKind_any s w hs2).mono fun e w' ⟨h,hb⟩ => ⟨by unfold KindOut at h;rw [hk] at h;exact h,hb⟩

theorem cell_pick (c : List Value) {w1 w2 : World} {rb et : Nat} (hb : Beside rb (w1.alloc (.cells c.toArray et)) w2) (hr : rb < w1.heap.size) (v : Int) (h0 : 0 ≤ v) (h1 : v < c.length) : ∃ x ∈ c,w2.cell? ⟨w1.heap.size,v.toNat,none⟩ = some x:=by
  refine ⟨c[v.toNat]'(by omega),List.getElem_mem _, ?_⟩
  refine hb.cell_some ?_ (by omega)
  simp [List.getElem?_eq_getElem (show v.toNat < c.length by omega)]
theorem cell_picks (m : Nat) (l : List (List UInt8)) {w1 w2 : World} {rb et : Nat} (hb : Beside rb (w1.alloc (.cells (l.map tx).toArray et)) w2) (hr : rb < w1.heap.size) (v : Int) (h0 : 0 ≤ v) (h1 : v < l.length) (hl : (l.all fun n => decide (n.length ≤ m)) = true) : ∃ x : ByteArray,x.size ≤ m ∧ x.data.toList ∈ l ∧ w2.cell? ⟨w1.heap.size,v.toNat,none⟩ = some (.string x):=by
  obtain ⟨x,hx,hc⟩:=cell_pick _ hb hr v h0 (by simpa using h1)
  obtain ⟨n,hn,rfl⟩:=List.mem_map.1 hx
  have:=List.all_eq_true.1 hl n hn
  exact ⟨⟨n.toArray⟩,by simpa [tx_size] using this,hn,hc⟩
set_option maxRecDepth 20000 in
set_option maxHeartbeats 1000000 in
theorem l91Kind (rb k : Nat) (w : World) (H : Rd w rb k) (hk : k ≤ 900000) :
    Calls Tryz.prog 86 #[.pointer (some ⟨rb,0,none⟩)] w fun e w' => ∃ s : ByteArray,e = .returned (.string s) ∧ s.size ≤ 100 ∧ Rd w' rb (k + 7) ∧ Beside rb w w':=by
  have R0:=H.lt
  go_enter Tryz.func86,Tryz.ntmps86
  go_wp2_with (first | (go_at_call 44;refine (pick rb (k + 1) 4 _ hR2 (by omega) (by omega)).mono ?_;rintro e w3 ⟨n,rfl,hn,_,hR3,hBs3⟩;obtain ⟨hn0,hn1⟩:=hn (by omega);have B3:=Lib.hid (B2.out.trans hBs3);clear hBs3) | (go_at_call 44;refine (pick rb k 8 _ (H.alloc _) (by omega) (by omega)).mono ?_;rintro e w2 ⟨v,rfl,hv,_,hR2,hBs⟩;obtain ⟨hv0,hv1⟩:=hv (by omega);obtain ⟨x,hx0,hx1,hxc⟩:=cell_picks 3 [[110],[116],[102],[110],[116],[64,97,59],[64,98,59],[64,99,59]] hBs H.lt v hv0 hv1 (by decide);have B2:=Lib.hid (((Beside.refl rb w).alloc _).trans hBs);clear hBs))
  go_loopw [3,4] (fun v3 v4 wr => ∃ (t : ByteArray) (i : Int) (m : Nat),v3 = .string t ∧ v4 = .int .i64 i ∧ 0 ≤ i ∧ i ≤ 3 ∧ m + i.toNat ≤ 5 ∧ t.size ≤ 10 * m ∧ m ≤ 5 ∧ Rd wr rb (k + m) ∧ Hid (Beside rb w wr)) (fun _ v _ => (RowKit.intOf v).toNat)
  case atStart => exact ⟨x,n,2,rfl,rfl,hn0,by omega,by omega,by omega,by omega,hR3,B3⟩
  case round =>
    obtain ⟨t,i,m,rfl,rfl,hi0,hi1,hm,ht,hm5,hR,hBB⟩:=hrel
    by_cases hi : 1 < i
    · go_wp2_with (go_at_call 44;refine (pick rb (k + m) 3 _ (hR.alloc _) (by omega) (by omega)).mono ?_;rintro e w4 ⟨u,rfl,hu,_,hR4,hBs4⟩;obtain ⟨hu0,hu1⟩:=hu (by omega);obtain ⟨y,hy0,hy1,hyc⟩:=cell_picks 1 [[91],[63],[91]] hBs4 hR.lt u hu0 hu1 (by decide);have B4:=Lib.hid ((hBB.out.alloc _).trans hBs4);clear hBs4)
      go_roundw
      case rel => exact ⟨_,_,m + 1,rfl,rfl,by omega,by omega,by omega,by simp [ByteArray.size_append];omega,by omega,hR4,B4⟩
      case measure => simp [RowKit.intOf];omega
    · go_wp2_with (first | (go_at_call 44;refine (pick rb (k + m + 1) 8 _ (hR5.alloc _) (by omega) (by omega)).mono ?_;rintro e w6 ⟨v6,rfl,hv6,_,hR6,hBs6⟩;obtain ⟨hv60,hv61⟩:=hv6 (by omega);obtain ⟨z,hz0,hz1,hzc⟩:=cell_picks 20 [[],[120],[64,59],[64,65,59],[91],[63,63,63,63,63,63,63,63,63,63,63,63,63,63,110],[64,97],[110,110]] hBs6 hR5.lt v6 hv60 hv61 (by decide);have B6:=Lib.hid ((B5.out.alloc _).trans hBs6);clear hBs6) | (go_at_call 44;refine (pick rb (k + m) 30 _ hR (by omega) (by omega)).mono ?_;rintro e w5 ⟨v5,rfl,hv5,_,hR5,hBs5⟩;have B5:=Lib.hid (hBB.out.trans hBs5);clear hBs5 hv5))
      all_goals go_ret
      · exact ⟨z,rfl,by omega,hR6.mono (by omega),B6.out⟩
      · exact ⟨t,rfl,by omega,hR5.mono (by omega),B5.out⟩
end Go.Proofs.YtmdacedmjbiekaaGreatDoor

namespace Wf
set_option linter.unusedVariables false
set_option linter.unusedSimpArgs false
def dec (n : Nat) : Bs:=if n < 10 then [UInt8.ofNat (48 + n)] else dec (n / 10) ++ [UInt8.ofNat (48 + n % 10)]
termination_by n
decreasing_by omega
def isDig (c : UInt8) : Bool:=decide (48 ≤ c.toNat) && decide (c.toNat ≤ 57)
def val (s : Bs) : Nat:=s.foldl (fun n c => 10 * n + (c.toNat - 48)) 0
def plainN (s : Bs) (most : Nat) : Option Nat :=
  if s ≠ [] ∧ s.length ≤ 6 ∧ s.all isDig = true ∧ (s.head? = some 48 → s.length = 1) ∧ val s ≤ most then some (val s) else none
theorem u8 {n : Nat} (h : n < 256) : (UInt8.ofNat n).toNat = n:=by simp [UInt8.toNat_ofNat'];omega
theorem snoc_ind {P : Bs → Prop} (h0 : P []) (h1 : ∀ s c,P s → P (s ++ [c])) (s : Bs) : P s:=by
  have h : ∀ t : Bs,P t.reverse:=by
    intro t
    induction t with
    | nil => exact h0
    | cons c t ih => rw [List.reverse_cons];exact h1 _ _ ih
  have:=h s.reverse
  rwa [List.reverse_reverse] at this
theorem head_app {s t : Bs} (h : s ≠ []) : (s ++ t).head? = s.head?:=by cases s with | nil => exact absurd rfl h | cons a s => rfl
theorem dec_lt {n : Nat} (h : n < 10) : dec n = [UInt8.ofNat (48 + n)]:=by rw [dec,if_pos h]
theorem dec_ge {n : Nat} (h : 10 ≤ n) : dec n = dec (n / 10) ++ [UInt8.ofNat (48 + n % 10)]:=by rw [dec,if_neg (by omega)]
theorem dec_ind {P : Nat → Prop} (h0 : ∀ n,n < 10 → P n) (h1 : ∀ n,10 ≤ n → P (n / 10) → P n) (n : Nat) : P n:=by
  induction n using Nat.strongRecOn with
  | ind n ih =>
    by_cases h : n < 10
    · exact h0 n h
    · exact h1 n (by omega) (ih (n / 10) (by omega))
theorem isDig_ofNat {n : Nat} (h : n < 10) : isDig (UInt8.ofNat (48 + n)) = true:=by
  have:=u8 (show 48 + n < 256 by omega)
  simp only [isDig,this,Bool.and_eq_true,decide_eq_true_eq];omega
theorem dec_all (n : Nat) : (dec n).all isDig = true:=by
  induction n using dec_ind with
  | h0 n h => rw [dec_lt h];simp only [List.all_cons,List.all_nil,Bool.and_true];exact isDig_ofNat h
  | h1 n h ih =>
    rw [dec_ge h,List.all_append,ih]
    simp only [List.all_cons,List.all_nil,Bool.and_true,Bool.true_and];exact isDig_ofNat (by omega)
theorem dec_ne (n : Nat) : dec n ≠ []:=by
  by_cases h : n < 10
  · rw [dec_lt h];simp
  · rw [dec_ge (by omega)];simp
theorem val_snoc (s : Bs) (c : UInt8) : val (s ++ [c]) = 10 * val s + (c.toNat - 48):=by simp [val,List.foldl_append]
theorem val_dec (n : Nat) : val (dec n) = n:=by
  induction n using dec_ind with
  | h0 n h =>
    rw [dec_lt h]
    have:=u8 (show 48 + n < 256 by omega)
    simp only [val,List.foldl_cons,List.foldl_nil,this];omega
  | h1 n h ih =>
    rw [dec_ge h,val_snoc,ih,u8 (by omega)];omega
theorem dec_head (n : Nat) (h : (dec n).head? = some 48) : n = 0:=by
  induction n using dec_ind with
  | h0 n h' =>
    rw [dec_lt h'] at h
    simp only [List.head?_cons,Option.some.injEq] at h
    have:=congrArg UInt8.toNat h
    rw [u8 (by omega)] at this
    simp at this;exact this
  | h1 n h' ih =>
    rw [dec_ge h'] at h
    have hn:=dec_ne (n / 10)
    rw [head_app hn] at h
    have:=ih h
    omega
theorem dec_len (n k : Nat) (h : n < 10 ^ (k + 1)) : (dec n).length ≤ k + 1:=by
  induction k generalizing n with
  | zero => rw [dec_lt (by simpa using h)];simp
  | succ k ih =>
    by_cases h1 : n < 10
    · rw [dec_lt h1];simp
    · rw [dec_ge (by omega)]
      have:=ih (n / 10) (by have : (10:Nat) ^ (k + 1 + 1) = 10 ^ (k+1) * 10:=rfl;omega)
      simp;omega
theorem dec_len6 {n : Nat} (h : n ≤ 999999) : (dec n).length ≤ 6:=dec_len n 5 (by have : (10:Nat)^6 = 1000000:=rfl;omega)
theorem dec_len_lo (n k : Nat) (h : 10 ^ k ≤ n) : k + 1 ≤ (dec n).length:=by
  induction k generalizing n with
  | zero => have:=List.length_pos_iff.2 (dec_ne n);omega
  | succ k ih =>
    have e : (10:Nat) ^ (k + 1) = 10 ^ k * 10:=rfl
    have hp : 0 < (10:Nat)^k:=Nat.pow_pos (by omega)
    rw [dec_ge (by omega)]
    have:=ih (n / 10) (by omega)
    simp;omega
theorem plainN_dec {n most : Nat} (h : n ≤ most) (h6 : n ≤ 999999) : plainN (dec n) most = some n:=by
  rw [plainN,if_pos,val_dec]
  refine ⟨dec_ne n,dec_len6 h6,dec_all n,fun h0 => ?_,by rw [val_dec];exact h⟩
  rw [dec_head n h0,dec_lt (by omega)];rfl
theorem dec_val {s : Bs} (hs : s ≠ []) (hd : s.all isDig = true) (h0 : s.head? = some 48 → s.length = 1) : dec (val s) = s:=by
  induction s using snoc_ind with
  | h0 => exact absurd rfl hs
  | h1 s c ih =>
    simp only [List.all_append,List.all_cons,List.all_nil,Bool.and_true,Bool.and_eq_true,isDig,decide_eq_true_eq] at hd
    obtain ⟨hd1,hc1,hc2⟩:=hd
    have hcc : UInt8.ofNat (48 + (c.toNat - 48)) = c:=by
      rw [show 48 + (c.toNat - 48) = c.toNat by omega];simp
    by_cases hn : s = []
    · subst hn
      simp only [List.nil_append,val,List.foldl_cons,List.foldl_nil]
      rw [dec_lt (by omega)];simp only [Nat.mul_zero,Nat.zero_add];rw [hcc]
    · have h0' : s.head? = some 48 → s.length = 1:=by
        intro hh
        rw [head_app hn] at h0
        have:=h0 hh
        simp at this;exact absurd this hn
      have ih':=ih hn hd1 h0'
      have hz : val s ≠ 0:=by
        intro hz
        rw [hz,dec_lt (by omega)] at ih'
        rw [head_app hn,← ih'] at h0
        have:=h0 (by decide)
        simp at this
      rw [val_snoc,dec_ge (by omega)]
      rw [show (10 * val s + (c.toNat - 48)) / 10 = val s by omega,show (10 * val s + (c.toNat - 48)) % 10 = c.toNat - 48 by omega,ih',hcc]
theorem plainN_some {s : Bs} {most n : Nat} (h : plainN s most = some n) : s = dec n ∧ n ≤ most ∧ n ≤ 999999:=by
  rw [plainN] at h
  split at h
  · rename_i hx
    obtain ⟨h1,h2,h3,h4,h5⟩:=hx
    simp only [Option.some.injEq] at h
    subst h
    refine ⟨(dec_val h1 h3 h4).symm,h5, ?_⟩
    have e:=dec_val h1 h3 h4
    by_cases hb : val s ≤ 999999
    · exact hb
    · have:=dec_len_lo (val s) 6 (by have : (10:Nat)^6 = 1000000:=rfl;omega)
      rw [e] at this;omega
  · simp at h
end Wf

namespace Go.Proofs.YtmdacedmjbiekaaGreatDoor
open Go.ChangeShapes Go.WideShapes Go.ChangeAt Go.RowKit Go.Lib
set_option linter.unusedVariables false
theorem dec_step {n : Nat} (h : 10 ≤ n) : Wf.dec n = Wf.dec (n / 10) ++ Wf.dec (n % 10):=by
  rw [Wf.dec_ge h,Wf.dec_lt (show n % 10 < 10 by omega)]
theorem tx_app (a b : List UInt8) : (⟨a.toArray⟩ : ByteArray) ++ ⟨b.toArray⟩ = ⟨(a ++ b).toArray⟩:=by rw [eq_list];simp
theorem ret_str {a b : ByteArray} (h : a = b) : Ending.returned (.string a) = .returned (.string b):=by rw [h]
set_option maxRecDepth 20000 in
theorem decimal (m : Nat) : ∀ (n : Nat) (w : World),n ≤ m → n ≤ 999999 → Calls Tryz.prog 94 #[.int .i64 n] w fun e w' => e = .returned (tx (Wf.dec n)) ∧ Below w.heap.size w w':=by
  have kc:=run_convert_lit (P:=Tryz.prog) 28 9 5 Tryz.underlying28 Tryz.underlying5 Tryz.underlying9
  induction m with
  | zero =>
    intro n w hm hn
    have : n = 0:=by omega
    subst this
    go_enter Tryz.func94,Tryz.ntmps94
    go_wp2_with fail
    go_ret
    exact ⟨by rw [Wf.dec_lt (by omega)];rfl,(Below.refl _ _).alloc (Nat.le_refl _) _⟩
  | succ m ih =>
    intro n w hm hn
    by_cases h : n < 10
    · have HD:=hid (Wf.dec_lt h)
      go_enter Tryz.func94,Tryz.ntmps94
      go_wp2_with fail
      go_ret
      exact ⟨by rw [HD.out];simp [UInt8.ofNat_add],(Below.refl _ _).alloc (Nat.le_refl _) _⟩
    · have HD:=hid (dec_step (n:=n) (by omega))
      have H1:=hid fun w => ih (n / 10) w (by omega) (by omega)
      have H2:=hid fun w => ih (n % 10) w (by omega) (by omega)
      obtain ⟨a,ha⟩ : ∃ a,Wf.dec (n / 10) = a:=⟨_,rfl⟩
      obtain ⟨b,hb⟩ : ∃ b,Wf.dec (n % 10) = b:=⟨_,rfl⟩
      have la : (⟨a.toArray⟩ : ByteArray).size ≤ 6:=by rw [← ha];exact Wf.dec_len6 (by omega)
      have lb : (⟨b.toArray⟩ : ByteArray).size ≤ 6:=by rw [← hb];exact Wf.dec_len6 (by omega)
      rw [ha] at H1
      rw [hb] at H2
      rw [ha,hb] at HD
      have HA:=hid (tx_app a b)
      obtain ⟨A,hA⟩ : ∃ A : ByteArray,(⟨a.toArray⟩ : ByteArray) = A:=⟨_,rfl⟩
      obtain ⟨B,hB⟩ : ∃ B : ByteArray,(⟨b.toArray⟩ : ByteArray) = B:=⟨_,rfl⟩
      rw [tx,hA] at H1
      rw [tx,hB] at H2
      rw [hA,hB] at HA
      rw [hA] at la
      rw [hB] at lb
      clear ih ha hb hA hB
      go_enter Tryz.func94,Tryz.ntmps94
      go_wp2_with (first | (go_at_call 94;have _u:=hb1;refine (H2.out _).mono ?_;rintro e w2 ⟨rfl,hb2⟩) | (go_at_call 94;refine (H1.out _).mono ?_;rintro e w1 ⟨rfl,hb1⟩))
      go_ret
      exact ⟨by rw [HD.out,tx,← HA.out];rfl,hb1.trans (hb2.mono hb1.size)⟩
set_option maxRecDepth 20000 in
set_option maxHeartbeats 1000000 in
theorem l6Dec (m : Nat) : ∀ (n : Nat) (w : World),n ≤ m → n ≤ 1000000000 → Calls Tryz.prog 124 #[.int .i64 n] w fun e w' => e = .returned (tx (Wf.dec n)) ∧ Below w.heap.size w w':=by
  have kc:=run_convert_lit (P:=Tryz.prog) 28 9 5 Tryz.underlying28 Tryz.underlying5 Tryz.underlying9
  induction m with
  | zero =>
    intro n w hm hn
    have : n = 0:=by omega
    subst this
    go_enter Tryz.func124,Tryz.ntmps124
    go_wp2_with fail
    go_ret
    exact ⟨by rw [Wf.dec_lt (by omega)];rfl,(Below.refl _ _).alloc (Nat.le_refl _) _⟩
  | succ m ih =>
    intro n w hm hn
    by_cases h : n < 10
    · have HD:=hid (Wf.dec_lt h)
      go_enter Tryz.func124,Tryz.ntmps124
      go_wp2_with fail
      go_ret
      exact ⟨by rw [HD.out];simp [UInt8.ofNat_add],(Below.refl _ _).alloc (Nat.le_refl _) _⟩
    · obtain ⟨q,hq⟩ : ∃ q,n / 10 = q:=⟨_,rfl⟩
      obtain ⟨r,hr⟩ : ∃ r,n % 10 = r:=⟨_,rfl⟩
      have hr9 : r < 10:=by omega
      have HD:=Wf.dec_ge (n:=n) (by omega)
      have H1:=hid fun w => ih q w (by omega) (by omega)
      rw [hq,hr] at HD
      obtain ⟨a,ha⟩ : ∃ a,Wf.dec q = a:=⟨_,rfl⟩
      have la : (⟨a.toArray⟩ : ByteArray).size ≤ 10:=by rw [← ha];exact Wf.dec_len q 9 (by have : (10:Nat)^10 = 10000000000:=rfl;omega)
      rw [ha] at H1 HD
      obtain ⟨A,hA⟩ : ∃ A : ByteArray,(⟨a.toArray⟩ : ByteArray) = A:=⟨_,rfl⟩
      have HA : A ++ (⟨#[48 + UInt8.ofNat r]⟩ : ByteArray) = ⟨(Wf.dec n).toArray⟩:=by
        rw [HD,← hA,← tx_app,UInt8.ofNat_add];rfl
      rw [tx,hA] at H1
      rw [hA] at la
      have kc1:=fun W a c h => run_convert_one (P:=Tryz.prog) 28 9 5 Tryz.underlying28 Tryz.underlying5 Tryz.underlying9 W a c (48 + (r : Int)) h
      have e1 : IntKind.i64.wrap ((n : Int) / 10) = (q : Int):=by rw [IntWalk.i64_in _ (by omega)];omega
      have e2 : (n : Int).tmod 10 = (r : Int):=by rw [Int.tmod_eq_emod_of_nonneg (by omega)];omega
      have e3 : IntKind.i64.wrap (48 + (r : Int)) = 48 + (r : Int):=IntWalk.i64_in _ (by omega)
      have e4 : IntKind.u8.wrap (48 + (r : Int)) = 48 + (r : Int):=by simp [IntKind.wrap,IntKind.bits,IntKind.signed];omega
      have HAA:=hid HA
      clear ih ha hA hq hr HD HA
      go_enter Tryz.func124,Tryz.ntmps124
      go_wp2_with fail
      go_region_with (go_at_call 124;refine (H1.out _).mono ?_;rintro e w1 ⟨rfl,hb1⟩;obtain ⟨hc1,hc2⟩:=bcell hb1;have hz : w.heap.size < w1.heap.size + 1:=(by have:=hb1.size;simp at this;omega);have B1 : Below w.heap.size w w1:=(by first | exact below_join ((Below.refl _ _).drew) hb1 | exact below_join (((Below.refl _ _).alloc (Nat.le_refl _) _).drew) hb1))
      all_goals go_wp2
      all_goals go_ret
      all_goals exact ⟨ret_str HAA.out,by first | exact B1 | exact B1.alloc B1.size _⟩
end Go.Proofs.YtmdacedmjbiekaaGreatDoor

namespace Go.Proofs.YtmdacedmjbiekaaGreatDoor
open Go.ChangeShapes Go.WideShapes Go.ChangeAt Go.RowKit Go.Lib
set_option linter.unusedVariables false
set_option linter.unusedSimpArgs false
def Drew (n : Nat) (rb k : Nat) (w : World) (e : Ending) (w' : World) : Prop:=∃ s : ByteArray,e = .returned (.string s) ∧ s.size ≤ n ∧ Rd w' rb k ∧ Beside rb w w'
set_option maxRecDepth 20000 in
set_option maxHeartbeats 2000000 in
theorem l91Field (rb k : Nat) (T NM : ByteArray) (g : Nat) (hg : g ≤ 999999) (hn : NM.size ≤ 10) (w : World) (H : Rd w rb k) (hk : k ≤ 900000) :
    Calls Tryz.prog 121 #[.pointer (some ⟨rb,0,none⟩), .string T, .int .i64 g, .string NM] w fun e w' => Drew 130 rb (k + 9) w e w':=by
  have R0:=H.lt
  have HD:=hid fun wz => l6Dec g g wz (Nat.le_refl _) (by omega)
  have ld:=Wf.dec_len6 hg
  obtain ⟨D,hD⟩ : ∃ D : ByteArray,(⟨(Wf.dec g).toArray⟩ : ByteArray) = D:=⟨_,rfl⟩
  simp only [tx,hD] at HD
  have hds : D.size ≤ 6:=by rw [← hD,tx_size];exact ld
  have HH:=hid H
  clear hD ld H
  go_enter Tryz.func121,Tryz.ntmps121
  go_wp2_with (first | (go_at_call 44;have _u:=hR4;have _t : (K.toList == [110]) = true:=(by assumption);refine (pick rb (k + 8) 8 _ (hR4.alloc _) (by omega) (by omega)).mono ?_;rintro e w5 ⟨u,rfl,hu,_,hR5,hBs5⟩;obtain ⟨hu0,hu1⟩:=hu (by omega);obtain ⟨x,hx0,hx1,hxc⟩:=cell_picks 6 [[53],[55,55],[57,57,57,57,57,57],[48]] hBs5 hR4.lt (u / 2 % 4) (by omega) (by simp;omega) (by decide);have B5:=Lib.hid ((B4.out.alloc _).trans hBs5);clear hBs5) | (go_at_call 44;have _u:=hR4;have _t : (K.toList == [116]) = true:=(by assumption);refine (pick rb (k + 8) 7 _ (hR4.alloc _) (by omega) (by omega)).mono ?_;rintro e w5 ⟨u,rfl,hu,_,hR5,hBs5⟩;obtain ⟨hu0,hu1⟩:=hu (by omega);obtain ⟨x,hx0,hx1,hxc⟩:=cell_picks 3 [[104,105],[97,32,98],[]] hBs5 hR4.lt (u / 3) (by omega) (by simp;omega) (by decide);have B5:=Lib.hid ((B4.out.alloc _).trans hBs5);clear hBs5) | (go_at_call 44;have _u:=hR4;have _t : (K.toList == [102]) = true:=(by assumption);refine (pick rb (k + 8) 7 _ (hR4.alloc _) (by omega) (by omega)).mono ?_;rintro e w5 ⟨u,rfl,hu,_,hR5,hBs5⟩;obtain ⟨hu0,hu1⟩:=hu (by omega);obtain ⟨x,hx0,hx1,hxc⟩:=cell_picks 3 [[121,101,115],[121,101,115],[110,111]] hBs5 hR4.lt (u / 3) (by omega) (by simp;omega) (by decide);have B5:=Lib.hid ((B4.out.alloc _).trans hBs5);clear hBs5) | (go_at_call 44;refine (pick rb (k + 7) 3 _ R3.out (by omega) (by omega)).mono ?_;rintro e w4 ⟨v,rfl,hv,_,hR4,hBs⟩;obtain ⟨hv0,hv1⟩:=hv (by omega);have B4:=Lib.hid (B3.out.trans hBs);clear hBs) | (go_at_call 86;refine (l91Kind rb k _ R1.out (by omega)).mono ?_;rintro e w3 ⟨K,rfl,hK,hR3,hBs3⟩;have B3:=Lib.hid (B1.out.trans hBs3);have R3:=Lib.hid hR3;clear hBs3 hR3) | (go_at_call 124;refine (HD.out _).mono ?_;rintro e w1 ⟨rfl,hb1⟩;have R1:=Lib.hid (HH.out.below hb1 R0);have B1:=Lib.hid (Beside.of_below (rb:=rb) hb1 (Nat.le_refl _));clear hb1))
  all_goals go_ret
  all_goals have c58 : (⟨#[58]⟩ : ByteArray).size = 1:=rfl
  all_goals have c61 : (⟨#[61]⟩ : ByteArray).size = 1:=rfl
  all_goals have c62 : (⟨#[61,39]⟩ : ByteArray).size = 2:=rfl
  all_goals have c39 : (⟨#[39]⟩ : ByteArray).size = 1:=rfl
  all_goals first | exact ⟨_,rfl,by simp [ByteArray.size_append];omega,hR5.mono (by omega),B5.out⟩ | exact ⟨_,rfl,by simp [ByteArray.size_append];omega,hR4.mono (by omega),B4.out⟩ | exact ⟨_,rfl,by simp [ByteArray.size_append];omega,R3.out.mono (by omega),B3.out⟩ | exact ⟨_,rfl,by simp [ByteArray.size_append];omega,R1.out.mono (by omega),B1.out⟩
theorem l91FieldI (rb k : Nat) (T NM : ByteArray) (g : Int) (hg0 : 0 ≤ g) (hg : g ≤ 999999) (hn : NM.size ≤ 10) (w : World) (H : Rd w rb k) (hk : k ≤ 900000) :
    Calls Tryz.prog 121 #[.pointer (some ⟨rb,0,none⟩), .string T, .int .i64 g, .string NM] w fun e w' => Drew 130 rb (k + 9) w e w':=by
  obtain ⟨n,rfl⟩:=Int.eq_ofNat_of_zero_le hg0
  exact l91Field rb k T NM n (by omega) hn w H hk
set_option maxRecDepth 20000 in
set_option maxHeartbeats 2000000 in
theorem l91Type (rb k : Nat) (T NM : ByteArray) (hT : T.size ≤ 1) (hT1 : 1 ≤ T.size) (hn : NM.size ≤ 1) (w : World) (H : Rd w rb k) (hk : k ≤ 800000) :
    Calls Tryz.prog 82 #[.pointer (some ⟨rb,0,none⟩), .string T, .string NM] w fun e w' => ∃ s : ByteArray,e = .returned (.string s) ∧ 1 ≤ s.size ∧ s.size ≤ 600 ∧ Rd w' rb (k + 50) ∧ Beside rb w w':=by
  have R0:=H.lt
  have HH:=hid H
  have kc1:=fun W a c (q : Int) h => run_convert_one (P:=Tryz.prog) 28 9 5 Tryz.underlying28 Tryz.underlying5 Tryz.underlying9 W a c q h
  have c61 : (⟨#[61]⟩ : ByteArray).size = 1:=rfl
  have c44 : (⟨#[44]⟩ : ByteArray).size = 1:=rfl
  have c10 : (⟨#[10]⟩ : ByteArray).size = 1:=rfl
  clear H
  go_enter Tryz.func82,Tryz.ntmps82
  go_wp2_with (first | (go_at_call 44;have _u:=hR1;refine (pick rb (k + 1) 8 _ hR1 (by omega) (by omega)).mono ?_;rintro e w2 ⟨v2,rfl,hv2,_,hR2,hBs2⟩;have B2:=Lib.hid (B1.out.trans hBs2);clear hBs2 hv2;rcases (Bool.eq_false_or_eq_true (v2 == (0 : Int))) with hq | hq) | (go_at_call 44;refine (pick rb k 4 _ HH.out (by omega) (by omega)).mono ?_;rintro e w1 ⟨v1,rfl,hv1,_,hR1,hBs⟩;obtain ⟨hv10,hv11⟩:=hv1 (by omega);have B1:=Lib.hid hBs;clear hBs))
  all_goals
    go_loopw [7,8,10] (fun s tg iv wr => ∃ (S : ByteArray) (t : Int) (i : Nat),s = .string S ∧ tg = .int .i64 t ∧ iv = .int .i64 i ∧ i ≤ 4 ∧ 0 ≤ t ∧ t ≤ 3 * i ∧ S.size ≤ 3 + 140 * i ∧ 1 ≤ S.size ∧ Rd wr rb (k + 2 + 11 * i) ∧ Hid (Beside rb w wr)) (fun _ _ v _ => 4 - (RowKit.intOf v).toNat)
    case atStart => exact ⟨_,_,0,rfl,rfl,rfl,by omega,by omega,by omega,by simp [ByteArray.size_append];omega,by simp [ByteArray.size_append];omega,by first | exact hR2 | exact hR1.mono (by omega),by first | exact B2 | exact B1⟩
    case round =>
      obtain ⟨S,t,i,rfl,rfl,rfl,hi4,ht0,ht1,hS,hS1,hR,hB⟩:=hrel
      go_wp2_with (first | (go_at_call 121;have _u:=hR7;refine (l91FieldI rb (k + 2 + 11 * i + 2) T ⟨#[112 + UInt8.ofNat i]⟩ _ (by omega) (by omega) (show (1 : Nat) ≤ 10 by omega) _ (hR7.alloc _) (by omega)).mono ?_;rintro e w8 ⟨F,rfl,hF,hR8,hBs8⟩;have B8:=Lib.hid ((B7.out.alloc _).trans hBs8);clear hBs8) | (go_at_call 44;have _u:=hR6;refine (pick rb (k + 2 + 11 * i + 1) 2 _ hR6 (by omega) (by omega)).mono ?_;rintro e w7 ⟨v7,rfl,hv7,_,hR7,hBs7⟩;obtain ⟨hv70,hv71⟩:=hv7 (by omega);have B7:=Lib.hid (B6.out.trans hBs7);clear hBs7;rcases (show v7 = 0 ∨ v7 = 1 by omega) with rfl | rfl) | (go_at_call 44;refine (pick rb (k + 2 + 11 * i) 3 _ hR (by omega) (by omega)).mono ?_;rintro e w6 ⟨v6,rfl,hv6,_,hR6,hBs6⟩;obtain ⟨hv60,hv61⟩:=hv6 (by omega);have B6:=Lib.hid (hB.out.trans hBs6);clear hBs6))
      all_goals first | (go_roundw;(case rel => exact ⟨_,_,i + 1,rfl,rfl,by go_num,by omega,by omega,by omega,by simp [ByteArray.size_append];omega,by simp [ByteArray.size_append];omega,hR8.mono (by omega),B8⟩);(case measure => simp [RowKit.intOf];omega)) | (go_ret;exact ⟨_,rfl,by simp [ByteArray.size_append];omega,by simp [ByteArray.size_append];omega,hR.mono (by omega),hB.out⟩)
end Go.Proofs.YtmdacedmjbiekaaGreatDoor
