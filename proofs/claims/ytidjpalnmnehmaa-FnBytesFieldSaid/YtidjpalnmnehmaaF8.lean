/- Packed by pack.py: Kc Kq Ls Lc Lf Lg. -/
import Derived.Test.YtidjpalnmnehmaaF3
import Derived.Test.YtidjpalnmnehmaaF4
import Derived.Test.YtidjpalnmnehmaaF7
import Derived.Test.YtidjpalnmnehmaaF0
import Derived.Test.YtidjpalnmnehmaaF5
import Derived.Deep.RegionWith
namespace Go.Proofs.Ytidjpalnmnehmaa
open Go.ChangeShapes Go.WideShapes Go.ChangeAt Go.RowKit Go.Lib
set_option linter.unusedVariables false
theorem sgn_of {c : UInt8} (h : c.toNat = 91 ∨ c.toNat = 63) : Wf.isSgn c = true:=by
  rcases h with h | h
  · have : c = 91:=UInt8.toNat_inj.1 (by rw [h];rfl)
    rw [this];rfl
  · have : c = 63:=UInt8.toNat_inj.1 (by rw [h];rfl)
    rw [this];rfl
theorem sgn_not {c : UInt8} (h : ¬ (c.toNat = 91 ∨ c.toNat = 63)) : Wf.isSgn c = false:=by
  cases hc : Wf.isSgn c with
  | false => rfl
  | true =>
    simp only [Wf.isSgn,Bool.or_eq_true,beq_iff_eq] at hc
    rcases hc with rfl | rfl
    · exact absurd (.inl rfl) h
    · exact absurd (.inr rfl) h
theorem core_drop {t : ByteArray} {c : UInt8} (hc : t.data.toList[0]? = some c) (h : c.toNat = 91 ∨ c.toNat = 63) : (t.extract 1 t.size).data.toList.dropWhile Wf.isSgn = t.data.toList.dropWhile Wf.isSgn:=by
  have hl:=size_list t
  rw [ext_list]
  cases hd : t.data.toList with
  | nil => rw [hd] at hc;simp at hc
  | cons x r =>
    rw [hd] at hc hl
    have hx : x = c:=by simpa using hc
    subst hx
    rw [List.drop_one,List.tail_cons,List.take_of_length_le (by simp at hl;omega),List.dropWhile_cons_of_pos (sgn_of h)]
theorem core_end {t : ByteArray} {c : UInt8} (hc : t.data.toList[0]? = some c) (h : ¬ (c.toNat = 91 ∨ c.toNat = 63)) : t = ⟨(t.data.toList.dropWhile Wf.isSgn).toArray⟩:=by
  rw [eq_list]
  cases hd : t.data.toList with
  | nil => rfl
  | cons x r =>
    rw [hd] at hc
    have hx : x = c:=by simpa using hc
    subst hx
    rw [List.dropWhile_cons_of_neg (by rw [sgn_not h];decide)]
set_option maxRecDepth 20000 in
theorem core_spec (s : ByteArray) (w : World) (hs : s.size ≤ 1048576) (hd : s.data.toList.dropWhile Wf.isSgn ≠ []) : Calls Try.prog 39 #[.string s] w fun e w' => e = .returned (.string ⟨(s.data.toList.dropWhile Wf.isSgn).toArray⟩) ∧ w = w':=by
  have HD:=hid hd
  clear hd
  go_enter Try.func39,Try.ntmps39
  go_wp2
  go_loopw [0] (fun v wr => ∃ t : ByteArray,v = .string t ∧ t.size ≤ 1048576 ∧ Hid (t.data.toList.dropWhile Wf.isSgn = s.data.toList.dropWhile Wf.isSgn) ∧ w = wr)
    (fun v _ => match v with | .string t => t.size | _ => 0)
  case atStart => exact ⟨s,rfl,hs,hid (show _ = _ from rfl),rfl⟩
  case round =>
    obtain ⟨t,rfl,ht,hx,rfl⟩:=hrel
    have h1 : 1 ≤ t.size:=by
      rcases Nat.eq_zero_or_pos t.size with h | h
      · have hl:=size_list t
        have h0 : t.data.toList = []:=List.eq_nil_of_length_eq_zero (by omega)
        have:=hx.out
        rw [h0] at this
        exact absurd this.symm HD.out
      · exact h
    obtain ⟨c,hc,e0⟩:=byte_at t 0 (by omega)
    have HC:=hid hc
    clear hc
    obtain ⟨a,ha⟩ : ∃ a,c.toNat = a:=⟨_,rfl⟩
    have HA:=hid ha
    rw [ha] at e0
    clear ha
    by_cases h91 : a = 91 ∨ a = 63
    · have HN:=hid (show (t.extract 1 t.size).data.toList.dropWhile Wf.isSgn = s.data.toList.dropWhile Wf.isSgn by rw [← hx.out];exact core_drop HC.out (by rw [HA.out];exact h91))
      have hsz : (t.extract 1 t.size).size = t.size - 1:=by rw [ByteArray.size_extract];omega
      rcases h91 with h | h
      · subst h
        go_wp2
        go_roundw
        case rel => exact ⟨_,rfl,by omega,HN.out,trivial⟩
        case measure => show (t.extract 1 t.size).size < t.size;omega
      · subst h
        go_wp2
        go_roundw
        case rel => exact ⟨_,rfl,by omega,HN.out,trivial⟩
        case measure => show (t.extract 1 t.size).size < t.size;omega
    · have t1 : ((a : Int) == 91) = false:=by rw [beq_eq_false_iff_ne];omega
      have t2 : ((a : Int) == 63) = false:=by rw [beq_eq_false_iff_ne];omega
      have HE:=hid (show t = ⟨(s.data.toList.dropWhile Wf.isSgn).toArray⟩ by rw [← hx.out];exact core_end HC.out (by rw [HA.out];exact h91))
      clear h91
      go_wp2
      go_ret
      exact ⟨by rw [← HE.out];rfl,rfl⟩

theorem ret_v {a b : Value} (h1 : a = b) : Ending.returned a = .returned b:=by rw [h1]
def refV (l : List UInt8) : Value :=
  match l with
  | [] => .tuple #[.string ⟨#[]⟩, .bool false]
  | c :: r => if c = 64 then .tuple #[.string ⟨r.dropLast.toArray⟩, .bool true] else .tuple #[.string ⟨#[]⟩, .bool false]
set_option maxRecDepth 20000 in
theorem ref_spec (s : ByteArray) (w : World) (hs : s.size ≤ 1048576) (h1 : 1 ≤ s.size) (h2 : s.data.toList.head? = some 64 → 2 ≤ s.size) : Calls Try.prog 38 #[.string s] w fun e w' => e = .returned (refV s.data.toList) ∧ w = w':=by
  have hl:=size_list s
  obtain ⟨c,hc,e0⟩:=byte_at s 0 (by omega)
  obtain ⟨a,ha⟩ : ∃ a,c.toNat = a:=⟨_,rfl⟩
  rw [ha] at e0
  cases hd : s.data.toList with
  | nil => rw [hd] at hl;simp at hl;omega
  | cons x r =>
    rw [hd] at hc hl h2
    have hx : x = c:=by simpa using hc
    subst hx
    by_cases h64 : a = 64
    · have hx : x = 64:=UInt8.toNat_inj.1 (by rw [ha,h64];rfl)
      subst hx
      have h22:=h2 rfl
      have HV:=hid (show refV (64 :: r) = .tuple #[.string (s.extract 1 (s.size - 1)), .bool true] by
        rw [refV,if_pos rfl]
        have he : s.extract 1 (s.size - 1) = ⟨r.dropLast.toArray⟩:=by
          rw [eq_list,ext_list,hd,List.drop_one,List.tail_cons,List.dropLast_eq_take]
          congr 1
          simp at hl;omega
        rw [he])
      subst h64
      clear hc ha hl h2 hd
      go_enter Try.func38,Try.ntmps38
      go_wp2
      go_ret2
      exact ⟨ret_v HV.out.symm,rfl⟩
    · have HV:=hid (show refV (x :: r) = .tuple #[.string ⟨#[]⟩, .bool false] by
        rw [refV,if_neg (fun h => h64 (by rw [← ha,h];rfl))])
      have t1 : ((a : Int) == 64) = false:=by rw [beq_eq_false_iff_ne];omega
      have t3 : ((a : Int) != 64) = true:=by unfold bne;rw [t1];rfl
      clear hc ha hl h2 hd h64
      go_enter Try.func38,Try.ntmps38
      go_wp2
      go_ret2
      exact ⟨ret_v HV.out.symm,rfl⟩
theorem parse_text {l : List UInt8} {k : Wf.K} (h : Wf.parseK l = some k) : k.text = l:=by
  unfold Wf.parseK at h
  by_cases h1 : l.length ≤ 12
  · rw [if_pos h1] at h;exact Wf.kindIn_text h
  · rw [if_neg h1] at h;cases h
theorem ok_some {l : List UInt8} {k : Wf.K} (h : Wf.parseK l = some k) : okB l = true:=by rw [okB,h];rfl
theorem ok_none {l : List UInt8} (h : Wf.parseK l = none) : okB l = false:=by rw [okB,h];rfl
theorem tx_size (l : List UInt8) : (⟨l.toArray⟩ : ByteArray).size = l.length:=rfl
theorem drop_core (k : Wf.K) : k.text.dropWhile Wf.isSgn = k.core.text:=by
  induction k with
  | list k ih => rw [Wf.K.text,List.dropWhile_cons_of_pos (by decide),ih];rfl
  | opt k ih => rw [Wf.K.text,List.dropWhile_cons_of_pos (by decide),ih];rfl
  | _ => rfl
theorem core_base (k : Wf.K) : k.core.base = k.base ∧ k.core.name = k.name:=by
  induction k with
  | list k ih => exact ih
  | opt k ih => exact ih
  | _ => exact ⟨rfl,rfl⟩
theorem core_plain (k : Wf.K) : (∃ n,k.core = .ref n) ∨ k.core.text.head? ≠ some 64 ∧ k.core.base ≠ [64]:=by
  induction k with
  | list k ih => exact ih
  | opt k ih => exact ih
  | ref n => exact .inl ⟨n,rfl⟩
  | _ => exact .inr ⟨by decide,by decide⟩

theorem q_mk {l : List UInt8} (h2 : 2 ≤ l.length) : ∃ a m z,l = a :: (m ++ [z]):=by
  cases l with
  | nil => simp at h2
  | cons a r =>
    have hr : r ≠ []:=by intro e;subst e;simp at h2
    exact ⟨a,r.dropLast,r.getLast hr,by rw [List.dropLast_concat_getLast hr]⟩
theorem q_eq (a z : UInt8) (m : List UInt8) : Wf.quoted (a :: (m ++ [z])) = (decide (a = 39) && decide (z = 39) && m.all Wf.isTxt && decide (m.length ≤ 12)):=by
  unfold Wf.quoted
  rw [List.head?_cons,List.tail_cons,List.getLast?_concat,List.dropLast_concat,List.length_cons,List.length_append,List.length_singleton]
  have e1 : decide (some a = some 39) = decide (a = 39):=by simp
  have e2 : decide (some z = some 39) = decide (z = 39):=by simp
  have e3 : decide (m.length + 1 + 1 ≤ 14) = decide (m.length ≤ 12):=by rw [decide_eq_decide];omega
  rw [e1,e2,e3]
theorem q_short {l : List UInt8} (h : l.length < 2) : Wf.quoted l = false:=by
  match l,h with
  | [],_ => rfl
  | [a],_ => unfold Wf.quoted;simp
theorem q_long {l : List UInt8} (h : 14 < l.length) : Wf.quoted l = false:=by
  unfold Wf.quoted;rw [decide_eq_false (p:=l.length ≤ 14) (by omega),Bool.and_false]
theorem q_first {l : List UInt8} {c : UInt8} (h : l[0]? = some c) (hc : c ≠ 39) : Wf.quoted l = false:=by
  unfold Wf.quoted
  rw [List.head?_eq_getElem?,h,decide_eq_false (by simpa using hc)];rfl
theorem q_last {l : List UInt8} {c : UInt8} (h2 : 2 ≤ l.length) (h : l[l.length - 1]? = some c) (hc : c ≠ 39) : Wf.quoted l = false:=by
  obtain ⟨a,m,z,rfl⟩:=q_mk h2
  have hz : z = c:=by
    rw [← List.cons_append,List.length_append,List.length_singleton,Nat.add_sub_cancel,List.getElem?_append_right (Nat.le_refl _),Nat.sub_self] at h
    simpa using h
  rw [q_eq,decide_eq_false (p:=z = 39) (by rw [hz];exact hc),Bool.and_false,Bool.false_and,Bool.false_and]
theorem q_mid {l : List UInt8} {i : Nat} {c : UInt8} (h2 : 2 ≤ l.length) (h : l[i]? = some c) (h1 : 1 ≤ i) (hi : i < l.length - 1) (hc : Wf.isTxt c = false) : Wf.quoted l = false:=by
  obtain ⟨a,m,z,rfl⟩:=q_mk h2
  have hm : c ∈ m:=by
    simp only [List.length_cons,List.length_append,List.length_nil] at hi
    obtain ⟨j,rfl⟩ : ∃ j,i = j + 1:=⟨i - 1,by omega⟩
    rw [List.getElem?_cons_succ,List.getElem?_append_left (by omega)] at h
    exact List.mem_of_getElem? h
  have : m.all Wf.isTxt = false:=by rw [List.all_eq_false];exact ⟨c,hm,by rw [hc];decide⟩
  rw [q_eq,this,Bool.and_false,Bool.false_and]
theorem q_yes {l : List UInt8} (h2 : 2 ≤ l.length) (h14 : l.length ≤ 14) (h0 : l[0]? = some 39) (hl : l[l.length - 1]? = some 39) (hm : ((l.drop 1).take (l.length - 2)).all Wf.isTxt = true) : Wf.quoted l = true:=by
  obtain ⟨a,m,z,rfl⟩:=q_mk h2
  have hz : z = 39:=by
    rw [← List.cons_append,List.length_append,List.length_singleton,Nat.add_sub_cancel,List.getElem?_append_right (Nat.le_refl _),Nat.sub_self] at hl
    simpa using hl
  have ha : a = 39:=by simpa using h0
  simp only [List.length_cons,List.length_append,List.length_nil] at h14 hm
  rw [List.drop_one,List.tail_cons,show m.length + (0 + 1) + 1 - 2 = m.length by omega,List.take_left' rfl] at hm
  rw [q_eq,hm,decide_eq_true ha,decide_eq_true hz,decide_eq_true (by omega)];rfl
theorem txt_no {c : UInt8} (h1 : c.toNat ≠ 32) (h2 : c.toNat < 48 ∨ 57 < c.toNat) (h3 : c.toNat < 97 ∨ 122 < c.toNat) : Wf.isTxt c = false:=by
  unfold Wf.isTxt
  have e1 : (c == 32) = false:=by rw [beq_eq_false_iff_ne];intro h;apply h1;rw [h];rfl
  have e2 : (decide (97 ≤ c.toNat) && decide (c.toNat ≤ 122)) = false:=by
    rcases h3 with h | h
    · rw [decide_eq_false (by omega),Bool.false_and]
    · rw [decide_eq_false (p:=c.toNat ≤ 122) (by omega),Bool.and_false]
  have e3 : (decide (48 ≤ c.toNat) && decide (c.toNat ≤ 57)) = false:=by
    rcases h2 with h | h
    · rw [decide_eq_false (by omega),Bool.false_and]
    · rw [decide_eq_false (p:=c.toNat ≤ 57) (by omega),Bool.and_false]
  rw [e1,e2,e3];rfl
theorem txt_yes {c : UInt8} (h : c.toNat = 32 ∨ (48 ≤ c.toNat ∧ c.toNat ≤ 57) ∨ (97 ≤ c.toNat ∧ c.toNat ≤ 122)) : Wf.isTxt c = true:=by
  unfold Wf.isTxt
  rcases h with h | ⟨h1,h2⟩ | ⟨h1,h2⟩
  · have : c = 32:=UInt8.toNat_inj.1 (by rw [h];rfl)
    rw [this];rfl
  · rw [decide_eq_true h1,decide_eq_true h2];simp
  · rw [decide_eq_true h1,decide_eq_true h2];simp
theorem all_step {p : UInt8 → Bool} {l : List UInt8} {k : Nat} {c : UInt8} (h : (l.take k).all p = true) (hc : l[k]? = some c) (hp : p c = true) : (l.take (k + 1)).all p = true:=by
  rw [List.take_add_one,hc,List.all_append,h];simp [hp]
set_option maxRecDepth 20000 in
set_option maxHeartbeats 1000000 in
theorem l3Text (s : ByteArray) (w : World) (hs : s.size ≤ 9223372036854775807) : Calls Try.prog 57 #[.string s] w fun e w' => e = .returned (.bool (Wf.quoted s.data.toList)) ∧ w = w':=by
  have hl:=size_list s
  by_cases h2 : s.size < 2
  · have HQ:=hid (q_short (l:=s.data.toList) (by omega))
    clear hl
    go_enter Try.func57,Try.ntmps57
    go_wp2
    go_ret
    exact ⟨ret_b HQ.out.symm,rfl⟩
  · by_cases h14 : 14 < s.size
    · have HQ:=hid (q_long (l:=s.data.toList) (by omega))
      clear hl
      go_enter Try.func57,Try.ntmps57
      go_wp2
      go_ret
      exact ⟨ret_b HQ.out.symm,rfl⟩
    · obtain ⟨c0,hc0,e0⟩:=byte_at s 0 (by omega)
      obtain ⟨a,ha⟩ : ∃ a,c0.toNat = a:=⟨_,rfl⟩
      obtain ⟨c9,hc9,e9⟩:=byte_at s (s.size - 1) (by omega)
      obtain ⟨z,hz⟩ : ∃ z,c9.toNat = z:=⟨_,rfl⟩
      rw [ha] at e0
      rw [hz] at e9
      by_cases ha39 : a = 39
      · by_cases hz39 : z = 39
        · subst ha39 hz39
          have H0:=hid (show s.data.toList[0]? = some 39 by rw [hc0];exact congrArg some (UInt8.toNat_inj.1 (by rw [ha];rfl)))
          have H9:=hid (show s.data.toList[s.data.toList.length - 1]? = some 39 by rw [hl,hc9];exact congrArg some (UInt8.toNat_inj.1 (by rw [hz];rfl)))
          have HL:=hid hl
          clear hl hc0 hc9 ha hz
          go_enter Try.func57,Try.ntmps57
          go_wp2
          go_loop [3,4] (fun i x => ∃ k : Nat,k + 1 < s.size ∧ i = .int .i64 ((k : Int) + 1) ∧ Hid (((s.data.toList.drop 1).take k).all Wf.isTxt = true)) (fun i _ => s.size - (RowKit.intOf i).toNat)
          case atStart => exact ⟨0,by omega,rfl,hid (show _ = true by simp)⟩
          case round =>
            obtain ⟨k,hk,rfl,hd⟩:=hrel
            by_cases hlt : k + 2 < s.size
            · obtain ⟨c,hc,e1⟩:=byte_at s (k + 1) (by omega)
              obtain ⟨b,hb⟩ : ∃ b,c.toNat = b:=⟨_,rfl⟩
              rw [hb] at e1
              have HC:=hid hc
              have HB:=hid hb
              have HC2:=hid (show (s.data.toList.drop 1)[k]? = some c by rw [List.getElem?_drop,Nat.add_comm];exact hc)
              clear hc hb
              have bad : b ≠ 32 → (b < 48 ∨ 57 < b) → (b < 97 ∨ 122 < b) → Hid (false = Wf.quoted s.data.toList):=fun g1 g2 g3 => hid (show _ = _ from (q_mid (by rw [HL.out];omega) HC.out (by omega) (by rw [HL.out];omega) (txt_no (by rw [HB.out];exact g1) (by rw [HB.out];exact g2) (by rw [HB.out];exact g3))).symm)
              have good : (b = 32 ∨ (48 ≤ b ∧ b ≤ 57) ∨ (97 ≤ b ∧ b ≤ 122)) → Hid (((s.data.toList.drop 1).take (k + 1)).all Wf.isTxt = true):=fun g => hid (show _ = _ from all_step hd.out HC2.out (txt_yes (by rw [HB.out];exact g)))
              by_cases h32 : b = 32
              · have G:=good (.inl h32)
                clear good bad
                subst h32
                go_wp2
                go_round
                case rel => exact ⟨k + 1,by omega,by go_num,G⟩
                case measure => simp [RowKit.intOf];omega
              · have t32 : ((b : Int) != 32) = true:=by rw [bne_iff_ne];omega
                by_cases h48 : b < 48
                · have G:=bad h32 (.inl h48) (.inl (by omega))
                  clear good bad h32
                  go_wp2
                  go_ret
                  exact ⟨ret_b G.out,rfl⟩
                · by_cases h57 : 57 < b
                  · by_cases h97 : b < 97
                    · have G:=bad h32 (.inr h57) (.inl h97)
                      clear good bad h32
                      go_wp2
                      go_ret
                      exact ⟨ret_b G.out,rfl⟩
                    · by_cases h122 : 122 < b
                      · have G:=bad h32 (.inr h57) (.inr h122)
                        clear good bad h32
                        go_wp2
                        go_ret
                        exact ⟨ret_b G.out,rfl⟩
                      · have G:=good (.inr (.inr ⟨by omega,by omega⟩))
                        clear good bad h32
                        go_wp2
                        go_round
                        case rel => exact ⟨k + 1,by omega,by go_num,G⟩
                        case measure => simp [RowKit.intOf];omega
                  · have G:=good (.inr (.inl ⟨by omega,by omega⟩))
                    clear good bad h32
                    go_wp2
                    go_round
                    case rel => exact ⟨k + 1,by omega,by go_num,G⟩
                    case measure => simp [RowKit.intOf];omega
            · have hks : k + 2 = s.size:=by omega
              have HF:=hid (show true = Wf.quoted s.data.toList from (q_yes (by rw [HL.out];omega) (by rw [HL.out];omega) H0.out H9.out (by rw [HL.out,show s.size - 2 = k by omega];exact hd.out)).symm)
              clear hks
              go_wp2
              go_ret
              exact ⟨ret_b HF.out,rfl⟩
        · have HQ:=hid (show false = Wf.quoted s.data.toList from (q_last (by omega) (by rw [hl];exact hc9) (fun h => hz39 (by rw [← hz,h];rfl))).symm)
          have tz : ((z : Int) != 39) = true:=by rw [bne_iff_ne];omega
          subst ha39
          clear hl hc0 hc9 ha hz hz39
          go_enter Try.func57,Try.ntmps57
          go_wp2
          go_ret
          exact ⟨ret_b HQ.out,rfl⟩
      · have HQ:=hid (show false = Wf.quoted s.data.toList from (q_first hc0 (fun h => ha39 (by rw [← ha,h];rfl))).symm)
        have ta : ((a : Int) != 39) = true:=by rw [bne_iff_ne];omega
        clear hl hc0 hc9 ha hz ha39
        go_enter Try.func57,Try.ntmps57
        go_wp2
        go_ret
        exact ⟨ret_b HQ.out,rfl⟩
def stT (kt s : List UInt8) : Bool :=
  if kt = [110] then (match Wf.plainN s 999999 with | some m => decide (0 < m) | none => false)
  else if kt = [116] then Wf.quoted s && decide (s ≠ [39,39])
  else if kt = [102] then decide (s = [121,101,115]) else false
theorem stT_eq (kt s : List UInt8) : stT kt s = match Wf.parseK kt with | some k => Wf.stOk k s | none => false:=by
  unfold stT
  by_cases h1 : kt = [110]
  · subst h1;rfl
  · by_cases h2 : kt = [116]
    · subst h2;rfl
    · by_cases h3 : kt = [102]
      · subst h3;rfl
      · rw [if_neg h1,if_neg h2,if_neg h3]
        cases hp : Wf.parseK kt with
        | none => rfl
        | some k =>
          have ht:=parse_text hp
          cases k with
          | num => exact absurd ht.symm h1
          | txt => exact absurd ht.symm h2
          | flag => exact absurd ht.symm h3
          | ref n => rfl
          | list k => rfl
          | opt k => rfl
theorem toList_eq_iff (s : ByteArray) (l : List UInt8) : (s.toList == l) = decide (s.data.toList = l):=by rw [ByteArray.toList_eq,Bool.beq_eq_decide_eq]
set_option maxRecDepth 20000 in
set_option maxHeartbeats 1000000 in
theorem l3Stand (k s : ByteArray) (w : World) (hs : s.size ≤ 9223372036854775807) : Calls Try.prog 62 #[.string k, .string s] w fun e w' => e = .returned (.bool (stT k.data.toList s.data.toList)) ∧ Below w.heap.size w w':=by
  cases g1 : (k.toList == [110])
  · cases g2 : (k.toList == [116])
    · cases g3 : (k.toList == [102])
      · have HR:=hid (show false = stT k.data.toList s.data.toList by
          rw [toList_eq_iff] at g1 g2 g3
          unfold stT
          rw [if_neg (of_decide_eq_false g1),if_neg (of_decide_eq_false g2),if_neg (of_decide_eq_false g3)])
        go_enter Try.func62,Try.ntmps62
        go_wp2_with fail
        go_ret
        exact ⟨ret_b HR.out,Below.refl _ _⟩
      · have HR:=hid (show (s.toList == [121,101,115]) = stT k.data.toList s.data.toList by
          rw [toList_eq_iff] at g1 g2 g3 ⊢
          unfold stT
          rw [if_neg (of_decide_eq_false g1),if_neg (of_decide_eq_false g2),if_pos (of_decide_eq_true g3)])
        go_enter Try.func62,Try.ntmps62
        go_wp2_with fail
        go_ret
        exact ⟨ret_b HR.out,Below.refl _ _⟩
    · have HR:=hid (show (Wf.quoted s.data.toList && !(s.toList == [39,39])) = stT k.data.toList s.data.toList by
        rw [toList_eq_iff] at g1 g2 ⊢
        unfold stT
        rw [if_neg (of_decide_eq_false g1),if_pos (of_decide_eq_true g2),decide_not])
      have HT:=hid fun w => l3Text s w hs
      cases hq : Wf.quoted s.data.toList <;> cases h39 : (s.toList == [39,39])
      all_goals
        rw [hq] at HR HT
        rw [h39] at HR
        clear hq
        go_enter Try.func62,Try.ntmps62
        go_wp2_with (go_at_call 57;refine (HT.out _).mono ?_;rintro e w1 ⟨rfl,rfl⟩)
        go_ret
        exact ⟨ret_b HR.out,Below.refl _ _⟩
  · have HN:=hid fun w => l3Num s 999999 (Nat.le_refl _) w hs
    have HR:=hid (show (match Wf.plainN s.data.toList 999999 with | some m => decide (0 < m) | none => false) = stT k.data.toList s.data.toList by
        rw [toList_eq_iff] at g1
        unfold stT
        rw [if_pos (of_decide_eq_true g1)])
    cases hp : Wf.plainN s.data.toList 999999 with
    | none =>
      rw [hp] at HR
      have HO:=hid fun e (h : NumOut s.data.toList 999999 e) => (by unfold NumOut at h;rw [hp] at h;exact h : ∃ m : Int,e = .returned (.tuple #[.int .i64 m, .bool false]))
      clear hp
      go_enter Try.func62,Try.ntmps62
      go_wp2_with (go_at_call 32;refine (HN.out _).mono ?_;rintro e w1 ⟨ho,hb⟩;obtain ⟨m,rfl⟩:=HO.out e ho;clear ho)
      go_ret
      exact ⟨ret_b HR.out,hb⟩
    | some n =>
      rw [hp] at HR
      have HO:=hid fun e (h : NumOut s.data.toList 999999 e) => (by unfold NumOut at h;rw [hp] at h;exact h : e = .returned (.tuple #[.int .i64 n, .bool true]))
      have HS:=hid (show (!(s.toList == [48])) = decide (0 < n) by
        obtain ⟨g1,g2,g3⟩:=Wf.plainN_some hp
        rw [toList_eq_iff,g1,← decide_not,decide_eq_decide]
        constructor
        · intro h
          rcases Nat.eq_zero_or_pos n with h0 | h0
          · exact absurd (by rw [h0,Wf.dec_lt (by omega)];rfl) h
          · exact h0
        · intro h he
          have:=Wf.val_dec n
          rw [he] at this
          have h2 : Wf.val [48] = 0:=by decide
          omega)
      clear hp
      cases h48 : (s.toList == [48])
      all_goals
        rw [h48] at HS
        have HF:=hid (HS.out.trans HR.out)
        go_enter Try.func62,Try.ntmps62
        go_wp2_with (go_at_call 32;refine (HN.out _).mono ?_;rintro e w1 ⟨ho,hb⟩;obtain rfl:=HO.out e ho;clear ho)
        go_ret
        exact ⟨ret_b HF.out,hb⟩

theorem info_tx : (Try.prog.info? 9).map (fun i => (i.zero,i.size,i.bytes)) = some (some (.string ⟨#[]⟩),1,16):=by kernel_rfl
theorem cutAt_len (c : UInt8) : ∀ l : List UInt8,(Wf.cutAt c l).length ≤ l.length + 1:=by
  intro l
  induction l with
  | nil => simp [Wf.cutAt]
  | cons a r ih =>
    simp only [Wf.cutAt]
    by_cases h : a = c
    · rw [if_pos h,List.length_cons,List.length_cons];omega
    · rw [if_neg h]
      cases hr : Wf.cutAt c r with
      | nil => simp
      | cons p ps => rw [hr] at ih;simp only [List.length_cons] at ih ⊢;omega
def Cutting (c : UInt8) (l : List UInt8) (ps : List (List UInt8)) (fr i : Nat) : Prop:=Wf.cutAt c l = ps ++ Wf.cutAt c (l.drop fr) ∧ c ∉ (l.drop fr).take (i - fr) ∧ fr ≤ i ∧ ps.length ≤ i
theorem cutting_start (c : UInt8) (l : List UInt8) : Cutting c l [] 0 0:=⟨by simp,by simp,Nat.le_refl _,Nat.le_refl _⟩
theorem cutting_no {c b : UInt8} {l : List UInt8} {ps : List (List UInt8)} {fr i : Nat} (h : Cutting c l ps fr i) (hb : l[i]? = some b) (hbc : b ≠ c) : Cutting c l ps fr (i + 1):=by
  obtain ⟨h1,h2,h3,h4⟩:=h
  refine ⟨h1, ?_,by omega,by omega⟩
  have e : i + 1 - fr = (i - fr) + 1:=by omega
  have e2 : (l.drop fr)[i - fr]? = some b:=by rw [List.getElem?_drop,show fr + (i - fr) = i by omega];exact hb
  rw [e,List.take_add_one,e2,List.mem_append]
  rintro (h | h)
  · exact h2 h
  · simp at h;exact hbc h.symm
theorem cutting_yes {c : UInt8} {l : List UInt8} {ps : List (List UInt8)} {fr i : Nat} (h : Cutting c l ps fr i) (hb : l[i]? = some c) : Cutting c l (ps ++ [(l.drop fr).take (i - fr)]) (i + 1) (i + 1):=by
  obtain ⟨h1,h2,h3,h4⟩:=h
  refine ⟨?_,by simp,Nat.le_refl _,by rw [List.length_append,List.length_singleton];omega⟩
  have hlt : i < l.length:=by
    rcases Nat.lt_or_ge i l.length with h | h
    · exact h
    · rw [List.getElem?_eq_none h] at hb;cases hb
  have e2 : l.drop fr = (l.drop fr).take (i - fr) ++ c :: l.drop (i + 1):=by
    conv => lhs;rw [← List.take_append_drop (i - fr) (l.drop fr)]
    congr 1
    rw [List.drop_drop,show fr + (i - fr) = i by omega,List.drop_eq_getElem_cons hlt]
    have : l[i] = c:=by rw [List.getElem?_eq_getElem hlt] at hb;exact Option.some.inj hb
    rw [this]
  rw [h1,List.append_assoc]
  congr 1
  conv => lhs;rw [e2]
  rw [Wf.cutAt_app h2];rfl
theorem cutting_end {c : UInt8} {l : List UInt8} {ps : List (List UInt8)} {fr : Nat} (h : Cutting c l ps fr l.length) : Wf.cutAt c l = ps ++ [l.drop fr]:=by
  obtain ⟨h1,h2,h3,h4⟩:=h
  rw [List.take_of_length_le (by rw [List.length_drop];exact Nat.le_refl _)] at h2
  rw [h1,Wf.cutAt_single h2]
theorem map_snoc (ps : List (List UInt8)) (p : List UInt8) (b : ByteArray) (h : b.data.toList = p) : (ps ++ [p]).map tx = ps.map tx ++ [.string b]:=by
  rw [List.map_append,List.map_singleton,tx,← h]
set_option maxRecDepth 20000 in
set_option maxHeartbeats 1000000 in
theorem l3Cut (s : ByteArray) (c : UInt8) (hs : s.size ≤ 2000000) (w : World) : Calls Try.prog 48 #[.string s, .int .u8 c.toNat] w fun e w' => ∃ b v,e = .returned v ∧ w.heap.size ≤ b ∧ RowAt w' b v ((Wf.cutAt c s.data.toList).map tx) ∧ Below w.heap.size w w':=by
  have HL:=hid (size_list s)
  obtain ⟨cn,hcn⟩ : ∃ cn,c.toNat = cn:=⟨_,rfl⟩
  have HCN:=hid hcn
  rw [hcn]
  clear hcn
  go_enter Try.func48,Try.ntmps48
  go_wp2
  go_loopw [5,6,7] (fun v f i wr => ∃ (ps : List (List UInt8)) (fr k : Nat),f = .int .i64 fr ∧ i = .int .i64 k ∧ k ≤ s.size ∧ fr ≤ k ∧ Hid (Cutting c s.data.toList ps fr k ∧ wr.ownsRow w.heap.size 9 1 v (ps.map tx).length (ps.map tx) ∧ Below w.heap.size w wr)) (fun _ _ i _ => s.size - (RowKit.intOf i).toNat)
  case atStart => exact ⟨[],0,0,rfl,rfl,Nat.zero_le _,Nat.le_refl _,hid ⟨cutting_start _ _,World.ownsRow_made w #[] 0 (Nat.le_refl _) (by decide) rfl,(Below.refl _ _).alloc (Nat.le_refl _) _⟩⟩
  case round =>
    obtain ⟨ps,fr,k,rfl,rfl,hk,hfr,hh⟩:=hrel
    by_cases hlt : k < s.size
    · obtain ⟨b,hb,e1⟩:=byte_at s k hlt
      obtain ⟨n,hn⟩ : ∃ n,b.toNat = n:=⟨_,rfl⟩
      rw [hn] at e1
      have HB:=hid hb
      have HN:=hid hn
      clear hb hn
      by_cases hc : n = cn
      · subst hc
        have HBC:=hid (show s.data.toList[k]? = some c by rw [HB.out];exact congrArg some (UInt8.toNat_inj.1 (by rw [HN.out,HCN.out])))
        have HS:=hid (cutting_yes hh.out.1 HBC.out)
        have hps : ps.length ≤ k:=hh.out.1.2.2.2
        have HX:=hid (show (s.extract fr k).data.toList = (s.data.toList.drop fr).take (k - fr) from ext_list _ _ _)
        go_wp2_with (at_builtin;refine wpList_append_cell _ rfl (.tmp 20) (.tmp 25) 58 rfl w.heap.size 9 (.string ⟨#[]⟩) 16 Try.underlying58 info_tx rfl _ (ps.map tx) rfl (hh.out.2.1.alloc _) ⟨wr.heap.size,0,none⟩ (.string (s.extract fr k)) rfl (by simp) rfl (by rw [List.length_map];omega) (by rw [List.length_map];omega) (by have:=hh.out.2.2.size;simp;omega) ?_;intro v1 w1 ho1 hb1;have HO:=hid ho1;have HB1:=hid hb1;clear ho1 hb1)
        go_roundw
        case rel => exact ⟨ps ++ [(s.data.toList.drop fr).take (k - fr)],k + 1,k + 1,by go_num,by go_num,by omega,Nat.le_refl _,hid ⟨HS.out,by rw [map_snoc _ _ _ HX.out];exact HO.out,(hh.out.2.2.alloc hh.out.2.2.size _).trans HB1.out⟩⟩
        case measure => simp [RowKit.intOf];omega
      · have HBC:=hid (show b ≠ c by intro h;apply hc;rw [← HN.out,h,HCN.out])
        have HS:=hid (cutting_no hh.out.1 HB.out HBC.out)
        have hbeq : ((n : Int) == (cn : Int)) = false:=by rw [beq_eq_false_iff_ne];omega
        clear hc
        go_wp2
        go_roundw
        case rel => exact ⟨ps,fr,k + 1,rfl,by go_num,by omega,by omega,hid ⟨HS.out,hh.out.2.1,hh.out.2.2⟩⟩
        case measure => simp [RowKit.intOf];omega
    · have hks : k = s.size:=by omega
      subst hks
      have hps : ps.length ≤ s.size:=hh.out.1.2.2.2
      have HX:=hid (show (s.extract fr s.size).data.toList = s.data.toList.drop fr by rw [ext_list,List.take_of_length_le (by rw [List.length_drop,HL.out];exact Nat.le_refl _)])
      have HE:=hid (show Wf.cutAt c s.data.toList = ps ++ [s.data.toList.drop fr] from cutting_end (by rw [HL.out];exact hh.out.1))
      go_wp2_with (at_builtin;refine wpList_append_cell _ rfl (.tmp 29) (.tmp 33) 58 rfl w.heap.size 9 (.string ⟨#[]⟩) 16 Try.underlying58 info_tx rfl _ (ps.map tx) rfl (hh.out.2.1.alloc _) ⟨wr.heap.size,0,none⟩ (.string (s.extract fr s.size)) rfl (by simp) rfl (by rw [List.length_map];omega) (by rw [List.length_map];omega) (by have:=hh.out.2.2.size;simp;omega) ?_;intro v1 w1 ho1 hb1;have HO:=hid ho1;have HB1:=hid hb1;clear ho1 hb1)
      go_ret
      obtain ⟨b,hb,hr⟩:=RowAt.of_owns HO.out
      exact ⟨b,v1,rfl,hb,by rw [HE.out,map_snoc _ _ _ HX.out];exact hr,(hh.out.2.2.alloc hh.out.2.2.size _).trans HB1.out⟩

theorem RowAt.two {w : World} {b : Nat} {v x0 x1 : Value} (h : RowAt w b v [x0,x1]) : ∃ o cap,v = .slice (some ⟨b,o,none⟩) 2 cap ∧ 2 ≤ cap ∧ cap ≤ maxLen ∧ b < w.heap.size ∧ w.cell? ⟨b,o,none⟩ = some x0 ∧ w.cell? ⟨b,o + 1,none⟩ = some x1:=by
  obtain ⟨a,cap,h1,h2,h3,h4 | ⟨o,h5,h6,h7⟩⟩:=h
  · cases h4
  · exact ⟨o,cap,by rw [h1,h5];rfl,h2,h3,h6,(h7 0 (by simp)).1,(h7 1 (by simp)).1⟩
theorem RowAt.three {w : World} {b : Nat} {v x0 x1 x2 : Value} (h : RowAt w b v [x0,x1,x2]) : ∃ o cap,v = .slice (some ⟨b,o,none⟩) 3 cap ∧ 3 ≤ cap ∧ cap ≤ maxLen ∧ b < w.heap.size ∧ w.cell? ⟨b,o,none⟩ = some x0 ∧ w.cell? ⟨b,o + 1,none⟩ = some x1 ∧ w.cell? ⟨b,o + 2,none⟩ = some x2:=by
  obtain ⟨a,cap,h1,h2,h3,h4 | ⟨o,h5,h6,h7⟩⟩:=h
  · cases h4
  · exact ⟨o,cap,by rw [h1,h5];rfl,h2,h3,h6,(h7 0 (by simp)).1,(h7 1 (by simp)).1,(h7 2 (by simp)).1⟩
theorem RowAt.first {w : World} {b n : Nat} {v x0 : Value} {xs : List Value} (h : RowAt w b v (x0 :: xs)) (hn : (x0 :: xs).length = n) : ∃ o cap,v = .slice (some ⟨b,o,none⟩) n cap ∧ 1 ≤ n ∧ n ≤ cap ∧ cap ≤ maxLen ∧ b < w.heap.size ∧ w.cell? ⟨b,o,none⟩ = some x0:=by
  obtain ⟨a,cap,h1,h2,h3,h4 | ⟨o,h5,h6,h7⟩⟩:=h
  · cases h4
  · rw [hn] at h1 h2
    exact ⟨o,cap,by rw [h1,h5],by rw [← hn];simp,h2,h3,h6,(h7 0 (by simp)).1⟩
theorem RowAt.len {w : World} {b n : Nat} {v : Value} {xs : List Value} (h : RowAt w b v xs) (hn : xs.length = n) : ∃ a cap,v = .slice a n cap:=by
  obtain ⟨a,cap,h1,_⟩:=h
  exact ⟨a,cap,by rw [h1,hn]⟩
def fdS (sort : UInt8) (f : Wf.Fd) : List Value:=[.int .i64 f.tag,tx f.name,tx (if sort = 69 then [] else f.kind.text),tx f.given]
def CutOut (w : World) (ps : List (List UInt8)) (e : Ending) (w' : World) : Prop:=∃ b v,e = .returned v ∧ w.heap.size ≤ b ∧ RowAt w' b v (ps.map tx) ∧ Below w.heap.size w w'
set_option maxRecDepth 20000 in
set_option maxHeartbeats 1000000 in
theorem rf_len (s : ByteArray) (sort : Nat) (n : Nat) (ps : List (List UInt8)) (hn : ps.length = n) (g : ((n : Int) != 3) = true ∧ ((sort : Int) != 69) = true ∨ ((n : Int) != 2) = true ∧ sort = 69) (w : World) (hcut : ∀ w,Calls Try.prog 48 #[.string s, .int .u8 58] w fun e w' => CutOut w ps e w') :
    Calls Try.prog 58 #[.string s, .int .u8 sort] w fun e w' => e = .returned (.tuple #[.agg #[.int .i64 0,tx [],tx [],tx []], .bool false]) ∧ Below w.heap.size w w':=by
  have HC:=hid hcut
  have HN:=hid (show (ps.map tx).length = n by rw [List.length_map];exact hn)
  clear hcut hn
  rcases g with ⟨g1,g2⟩ | ⟨g1,rfl⟩
  · cases g3 : ((n : Int) != 2)
    all_goals
      go_enter Try.func58,Try.ntmps58
      go_wp2_with (go_at_call 48;refine (HC.out _).mono ?_;rintro e w1 ⟨b1,v1,rfl,hb1,hr1,hB1⟩;obtain ⟨a1,c1,rfl⟩:=hr1.len HN.out;have B1 : Below w.heap.size w w1:=below_join ((Below.refl _ _).alloc (Nat.le_refl _) _) hB1;obtain ⟨hc1,hc2⟩:=bcell hB1;have hz : w.heap.size < w1.heap.size:=(by have:=hB1.size;simp at this;omega);clear hr1)
      exact bodyPost_ret (v:=.tuple #[.agg #[.int .i64 0,tx [],tx [],tx []], .bool false]) (by simp [results,Try.results58,go_sem,hc1]) rfl ⟨rfl,(by repeat (first | exact B1 | refine Below.alloc ?_ (by first | (simp;done) | (simp;omega) | omega) _ | refine Below.setCell ?_ (by first | (simp;done) | (simp;omega) | omega) _ | refine Below.drew ?_))⟩
  · cases g3 : ((n : Int) != 3)
    all_goals
      go_enter Try.func58,Try.ntmps58
      go_wp2_with (go_at_call 48;refine (HC.out _).mono ?_;rintro e w1 ⟨b1,v1,rfl,hb1,hr1,hB1⟩;obtain ⟨a1,c1,rfl⟩:=hr1.len HN.out;have B1 : Below w.heap.size w w1:=below_join ((Below.refl _ _).alloc (Nat.le_refl _) _) hB1;obtain ⟨hc1,hc2⟩:=bcell hB1;have hz : w.heap.size < w1.heap.size:=(by have:=hB1.size;simp at this;omega);clear hr1)
      exact bodyPost_ret (v:=.tuple #[.agg #[.int .i64 0,tx [],tx [],tx []], .bool false]) (by simp [results,Try.results58,go_sem,hc1]) rfl ⟨rfl,(by repeat (first | exact B1 | refine Below.alloc ?_ (by first | (simp;done) | (simp;omega) | omega) _ | refine Below.setCell ?_ (by first | (simp;done) | (simp;omega) | omega) _ | refine Below.drew ?_))⟩

set_option maxRecDepth 20000 in
set_option maxHeartbeats 1000000 in
theorem rf_nonum3 (s : ByteArray) (sort : Nat) (g : ((sort : Int) == 69) = false) (g2 : ((sort : Int) != 69) = true) (p q r : List UInt8) (w : World) (hcut : ∀ w,Calls Try.prog 48 #[.string s, .int .u8 58] w fun e w' => CutOut w [p,q,r] e w')
    (HN0 : ∀ w,Calls Try.prog 32 #[tx p, .int .i64 200] w fun e w' => (∃ m : Int,e = .returned (.tuple #[.int .i64 m, .bool false])) ∧ Below w.heap.size w w') : Calls Try.prog 58 #[.string s, .int .u8 sort] w fun e w' => (∃ m : Int,e = .returned (.tuple #[.agg #[.int .i64 m,tx q,tx [],tx []], .bool false])) ∧ Below w.heap.size w w':=by
  have HC:=hid hcut
  clear hcut
  have HNUM:=hid HN0
  clear HN0
  go_enter Try.func58,Try.ntmps58
  go_wp2_with (first | (go_at_call 32;refine (HNUM.out _).mono ?_;rintro e w2 ⟨⟨m,rfl⟩,hB2⟩;have B2 : Below w.heap.size w w2:=below_join B1 hB2;obtain ⟨hc3,hc4⟩:=bcell hB2;have hz2 : w.heap.size < w2.heap.size:=Nat.lt_of_lt_of_le hz hB2.size;have hbb : b1 < w2.heap.size:=Nat.lt_of_lt_of_le hb1w hB2.size) | (go_at_call 48;refine (HC.out _).mono ?_;rintro e w1 ⟨b1,v1,rfl,hb1,hr1,hB1⟩;obtain ⟨o1,c1,rfl,hcc,hcm,hb1w,p0,p1,p2⟩:=hr1.three;have B1 : Below w.heap.size w w1:=below_join ((Below.refl _ _).alloc (Nat.le_refl _) _) hB1;obtain ⟨hc1,hc2⟩:=bcell hB1;have hz : w.heap.size < w1.heap.size:=(by have:=hB1.size;simp at this;omega);clear hr1))
  exact bodyPost_ret (v:=.tuple #[.agg #[.int .i64 m,tx q,tx [],tx []], .bool false]) (by simp [results,Try.results58,go_sem,hc1,hc3,hz,hz2]) rfl ⟨⟨m,rfl⟩,(by repeat (first | with_reducible exact B2 | with_reducible refine Below.drew ?_ | with_reducible refine Below.setCell ?_ (by first | (simp;done) | (simp;omega) | omega) _ | with_reducible refine Below.alloc ?_ (by first | exact (B2).size | (simp;done) | (simp;omega) | omega) _))⟩
set_option maxRecDepth 20000 in
set_option maxHeartbeats 1000000 in
theorem rf_low3 (s : ByteArray) (sort : Nat) (g : ((sort : Int) == 69) = false) (g2 : ((sort : Int) != 69) = true) (p q r : List UInt8) (w : World) (hcut : ∀ w,Calls Try.prog 48 #[.string s, .int .u8 58] w fun e w' => CutOut w [p,q,r] e w')
    (t : Nat) (HN0 : ∀ w,Calls Try.prog 32 #[tx p, .int .i64 200] w fun e w' => e = .returned (.tuple #[.int .i64 t, .bool true]) ∧ Below w.heap.size w w') (ht : t < 1) : Calls Try.prog 58 #[.string s, .int .u8 sort] w fun e w' => e = .returned (.tuple #[.agg #[.int .i64 t,tx q,tx [],tx []], .bool false]) ∧ Below w.heap.size w w':=by
  have HC:=hid hcut
  clear hcut
  have HNUM:=hid HN0
  clear HN0
  go_enter Try.func58,Try.ntmps58
  go_wp2_with (first | (go_at_call 32;refine (HNUM.out _).mono ?_;rintro e w2 ⟨rfl,hB2⟩;have B2 : Below w.heap.size w w2:=below_join B1 hB2;obtain ⟨hc3,hc4⟩:=bcell hB2;have hz2 : w.heap.size < w2.heap.size:=Nat.lt_of_lt_of_le hz hB2.size;have hbb : b1 < w2.heap.size:=Nat.lt_of_lt_of_le hb1w hB2.size) | (go_at_call 48;refine (HC.out _).mono ?_;rintro e w1 ⟨b1,v1,rfl,hb1,hr1,hB1⟩;obtain ⟨o1,c1,rfl,hcc,hcm,hb1w,p0,p1,p2⟩:=hr1.three;have B1 : Below w.heap.size w w1:=below_join ((Below.refl _ _).alloc (Nat.le_refl _) _) hB1;obtain ⟨hc1,hc2⟩:=bcell hB1;have hz : w.heap.size < w1.heap.size:=(by have:=hB1.size;simp at this;omega);clear hr1))
  exact bodyPost_ret (v:=.tuple #[.agg #[.int .i64 t,tx q,tx [],tx []], .bool false]) (by simp [results,Try.results58,go_sem,hc1,hc3,hz,hz2]) rfl ⟨rfl,(by repeat (first | with_reducible exact B2 | with_reducible refine Below.drew ?_ | with_reducible refine Below.setCell ?_ (by first | (simp;done) | (simp;omega) | omega) _ | with_reducible refine Below.alloc ?_ (by first | exact (B2).size | (simp;done) | (simp;omega) | omega) _))⟩
set_option maxRecDepth 20000 in
set_option maxHeartbeats 1000000 in
theorem rf_noname3 (s : ByteArray) (sort : Nat) (g : ((sort : Int) == 69) = false) (g2 : ((sort : Int) != 69) = true) (p q r : List UInt8) (w : World) (hcut : ∀ w,Calls Try.prog 48 #[.string s, .int .u8 58] w fun e w' => CutOut w [p,q,r] e w')
    (t : Nat) (HN0 : ∀ w,Calls Try.prog 32 #[tx p, .int .i64 200] w fun e w' => e = .returned (.tuple #[.int .i64 t, .bool true]) ∧ Below w.heap.size w w') (ht : 1 ≤ t) (HM0 : ∀ w,Calls Try.prog 51 #[tx q] w fun e w' => e = .returned (.bool false) ∧ w = w') : Calls Try.prog 58 #[.string s, .int .u8 sort] w fun e w' => e = .returned (.tuple #[.agg #[.int .i64 t,tx q,tx [],tx []], .bool false]) ∧ Below w.heap.size w w':=by
  have HC:=hid hcut
  clear hcut
  have HNUM:=hid HN0
  have HNAME:=hid HM0
  clear HN0 HM0
  go_enter Try.func58,Try.ntmps58
  go_wp2_with (first | (go_at_call 51;refine (HNAME.out _).mono ?_;rintro e wn ⟨rfl,rfl⟩) | (go_at_call 32;refine (HNUM.out _).mono ?_;rintro e w2 ⟨rfl,hB2⟩;have B2 : Below w.heap.size w w2:=below_join B1 hB2;obtain ⟨hc3,hc4⟩:=bcell hB2;have hz2 : w.heap.size < w2.heap.size:=Nat.lt_of_lt_of_le hz hB2.size;have hbb : b1 < w2.heap.size:=Nat.lt_of_lt_of_le hb1w hB2.size) | (go_at_call 48;refine (HC.out _).mono ?_;rintro e w1 ⟨b1,v1,rfl,hb1,hr1,hB1⟩;obtain ⟨o1,c1,rfl,hcc,hcm,hb1w,p0,p1,p2⟩:=hr1.three;have B1 : Below w.heap.size w w1:=below_join ((Below.refl _ _).alloc (Nat.le_refl _) _) hB1;obtain ⟨hc1,hc2⟩:=bcell hB1;have hz : w.heap.size < w1.heap.size:=(by have:=hB1.size;simp at this;omega);clear hr1))
  exact bodyPost_ret (v:=.tuple #[.agg #[.int .i64 t,tx q,tx [],tx []], .bool false]) (by simp [results,Try.results58,go_sem,hc1,hc3,hz,hz2]) rfl ⟨rfl,(by repeat (first | with_reducible exact B2 | with_reducible refine Below.drew ?_ | with_reducible refine Below.setCell ?_ (by first | (simp;done) | (simp;omega) | omega) _ | with_reducible refine Below.alloc ?_ (by first | exact (B2).size | (simp;done) | (simp;omega) | omega) _))⟩
set_option maxRecDepth 20000 in
set_option maxHeartbeats 1000000 in
theorem rf_nonum2 (s : ByteArray)  (p q : List UInt8) (w : World) (hcut : ∀ w,Calls Try.prog 48 #[.string s, .int .u8 58] w fun e w' => CutOut w [p,q] e w')
    (HN0 : ∀ w,Calls Try.prog 32 #[tx p, .int .i64 200] w fun e w' => (∃ m : Int,e = .returned (.tuple #[.int .i64 m, .bool false])) ∧ Below w.heap.size w w') : Calls Try.prog 58 #[.string s, .int .u8 69] w fun e w' => (∃ m : Int,e = .returned (.tuple #[.agg #[.int .i64 m,tx q,tx [],tx []], .bool false])) ∧ Below w.heap.size w w':=by
  have HC:=hid hcut
  clear hcut
  have HNUM:=hid HN0
  clear HN0
  go_enter Try.func58,Try.ntmps58
  go_wp2_with (first | (go_at_call 32;refine (HNUM.out _).mono ?_;rintro e w2 ⟨⟨m,rfl⟩,hB2⟩;have B2 : Below w.heap.size w w2:=below_join B1 hB2;obtain ⟨hc3,hc4⟩:=bcell hB2;have hz2 : w.heap.size < w2.heap.size:=Nat.lt_of_lt_of_le hz hB2.size;have hbb : b1 < w2.heap.size:=Nat.lt_of_lt_of_le hb1w hB2.size) | (go_at_call 48;refine (HC.out _).mono ?_;rintro e w1 ⟨b1,v1,rfl,hb1,hr1,hB1⟩;obtain ⟨o1,c1,rfl,hcc,hcm,hb1w,p0,p1⟩:=hr1.two;have B1 : Below w.heap.size w w1:=below_join ((Below.refl _ _).alloc (Nat.le_refl _) _) hB1;obtain ⟨hc1,hc2⟩:=bcell hB1;have hz : w.heap.size < w1.heap.size:=(by have:=hB1.size;simp at this;omega);clear hr1))
  exact bodyPost_ret (v:=.tuple #[.agg #[.int .i64 m,tx q,tx [],tx []], .bool false]) (by simp [results,Try.results58,go_sem,hc1,hc3,hz,hz2]) rfl ⟨⟨m,rfl⟩,(by repeat (first | with_reducible exact B2 | with_reducible refine Below.drew ?_ | with_reducible refine Below.setCell ?_ (by first | (simp;done) | (simp;omega) | omega) _ | with_reducible refine Below.alloc ?_ (by first | exact (B2).size | (simp;done) | (simp;omega) | omega) _))⟩
set_option maxRecDepth 20000 in
set_option maxHeartbeats 1000000 in
theorem rf_low2 (s : ByteArray)  (p q : List UInt8) (w : World) (hcut : ∀ w,Calls Try.prog 48 #[.string s, .int .u8 58] w fun e w' => CutOut w [p,q] e w')
    (t : Nat) (HN0 : ∀ w,Calls Try.prog 32 #[tx p, .int .i64 200] w fun e w' => e = .returned (.tuple #[.int .i64 t, .bool true]) ∧ Below w.heap.size w w') (ht : t < 1) : Calls Try.prog 58 #[.string s, .int .u8 69] w fun e w' => e = .returned (.tuple #[.agg #[.int .i64 t,tx q,tx [],tx []], .bool false]) ∧ Below w.heap.size w w':=by
  have HC:=hid hcut
  clear hcut
  have HNUM:=hid HN0
  clear HN0
  go_enter Try.func58,Try.ntmps58
  go_wp2_with (first | (go_at_call 32;refine (HNUM.out _).mono ?_;rintro e w2 ⟨rfl,hB2⟩;have B2 : Below w.heap.size w w2:=below_join B1 hB2;obtain ⟨hc3,hc4⟩:=bcell hB2;have hz2 : w.heap.size < w2.heap.size:=Nat.lt_of_lt_of_le hz hB2.size;have hbb : b1 < w2.heap.size:=Nat.lt_of_lt_of_le hb1w hB2.size) | (go_at_call 48;refine (HC.out _).mono ?_;rintro e w1 ⟨b1,v1,rfl,hb1,hr1,hB1⟩;obtain ⟨o1,c1,rfl,hcc,hcm,hb1w,p0,p1⟩:=hr1.two;have B1 : Below w.heap.size w w1:=below_join ((Below.refl _ _).alloc (Nat.le_refl _) _) hB1;obtain ⟨hc1,hc2⟩:=bcell hB1;have hz : w.heap.size < w1.heap.size:=(by have:=hB1.size;simp at this;omega);clear hr1))
  exact bodyPost_ret (v:=.tuple #[.agg #[.int .i64 t,tx q,tx [],tx []], .bool false]) (by simp [results,Try.results58,go_sem,hc1,hc3,hz,hz2]) rfl ⟨rfl,(by repeat (first | with_reducible exact B2 | with_reducible refine Below.drew ?_ | with_reducible refine Below.setCell ?_ (by first | (simp;done) | (simp;omega) | omega) _ | with_reducible refine Below.alloc ?_ (by first | exact (B2).size | (simp;done) | (simp;omega) | omega) _))⟩
set_option maxRecDepth 20000 in
set_option maxHeartbeats 1000000 in
theorem rf_noname2 (s : ByteArray)  (p q : List UInt8) (w : World) (hcut : ∀ w,Calls Try.prog 48 #[.string s, .int .u8 58] w fun e w' => CutOut w [p,q] e w')
    (t : Nat) (HN0 : ∀ w,Calls Try.prog 32 #[tx p, .int .i64 200] w fun e w' => e = .returned (.tuple #[.int .i64 t, .bool true]) ∧ Below w.heap.size w w') (ht : 1 ≤ t) (HM0 : ∀ w,Calls Try.prog 51 #[tx q] w fun e w' => e = .returned (.bool false) ∧ w = w') : Calls Try.prog 58 #[.string s, .int .u8 69] w fun e w' => e = .returned (.tuple #[.agg #[.int .i64 t,tx q,tx [],tx []], .bool false]) ∧ Below w.heap.size w w':=by
  have HC:=hid hcut
  clear hcut
  have HNUM:=hid HN0
  have HNAME:=hid HM0
  clear HN0 HM0
  go_enter Try.func58,Try.ntmps58
  go_wp2_with (first | (go_at_call 51;refine (HNAME.out _).mono ?_;rintro e wn ⟨rfl,rfl⟩) | (go_at_call 32;refine (HNUM.out _).mono ?_;rintro e w2 ⟨rfl,hB2⟩;have B2 : Below w.heap.size w w2:=below_join B1 hB2;obtain ⟨hc3,hc4⟩:=bcell hB2;have hz2 : w.heap.size < w2.heap.size:=Nat.lt_of_lt_of_le hz hB2.size;have hbb : b1 < w2.heap.size:=Nat.lt_of_lt_of_le hb1w hB2.size) | (go_at_call 48;refine (HC.out _).mono ?_;rintro e w1 ⟨b1,v1,rfl,hb1,hr1,hB1⟩;obtain ⟨o1,c1,rfl,hcc,hcm,hb1w,p0,p1⟩:=hr1.two;have B1 : Below w.heap.size w w1:=below_join ((Below.refl _ _).alloc (Nat.le_refl _) _) hB1;obtain ⟨hc1,hc2⟩:=bcell hB1;have hz : w.heap.size < w1.heap.size:=(by have:=hB1.size;simp at this;omega);clear hr1))
  exact bodyPost_ret (v:=.tuple #[.agg #[.int .i64 t,tx q,tx [],tx []], .bool false]) (by simp [results,Try.results58,go_sem,hc1,hc3,hz,hz2]) rfl ⟨rfl,(by repeat (first | with_reducible exact B2 | with_reducible refine Below.drew ?_ | with_reducible refine Below.setCell ?_ (by first | (simp;done) | (simp;omega) | omega) _ | with_reducible refine Below.alloc ?_ (by first | exact (B2).size | (simp;done) | (simp;omega) | omega) _))⟩
set_option maxRecDepth 20000 in
set_option maxHeartbeats 1000000 in
theorem rf_enum (s : ByteArray)  (p q : List UInt8) (w : World) (hcut : ∀ w,Calls Try.prog 48 #[.string s, .int .u8 58] w fun e w' => CutOut w [p,q] e w')
    (t : Nat) (HN0 : ∀ w,Calls Try.prog 32 #[tx p, .int .i64 200] w fun e w' => e = .returned (.tuple #[.int .i64 t, .bool true]) ∧ Below w.heap.size w w') (ht : 1 ≤ t) (HM0 : ∀ w,Calls Try.prog 51 #[tx q] w fun e w' => e = .returned (.bool true) ∧ w = w') : Calls Try.prog 58 #[.string s, .int .u8 69] w fun e w' => e = .returned (.tuple #[.agg #[.int .i64 t,tx q,tx [],tx []], .bool true]) ∧ Below w.heap.size w w':=by
  have HC:=hid hcut
  clear hcut
  have HNUM:=hid HN0
  have HNAME:=hid HM0
  clear HN0 HM0
  go_enter Try.func58,Try.ntmps58
  go_wp2_with (first | (go_at_call 51;refine (HNAME.out _).mono ?_;rintro e wn ⟨rfl,rfl⟩) | (go_at_call 32;refine (HNUM.out _).mono ?_;rintro e w2 ⟨rfl,hB2⟩;have B2 : Below w.heap.size w w2:=below_join B1 hB2;obtain ⟨hc3,hc4⟩:=bcell hB2;have hz2 : w.heap.size < w2.heap.size:=Nat.lt_of_lt_of_le hz hB2.size;have hbb : b1 < w2.heap.size:=Nat.lt_of_lt_of_le hb1w hB2.size) | (go_at_call 48;refine (HC.out _).mono ?_;rintro e w1 ⟨b1,v1,rfl,hb1,hr1,hB1⟩;obtain ⟨o1,c1,rfl,hcc,hcm,hb1w,p0,p1⟩:=hr1.two;have B1 : Below w.heap.size w w1:=below_join ((Below.refl _ _).alloc (Nat.le_refl _) _) hB1;obtain ⟨hc1,hc2⟩:=bcell hB1;have hz : w.heap.size < w1.heap.size:=(by have:=hB1.size;simp at this;omega);clear hr1))
  exact bodyPost_ret (v:=.tuple #[.agg #[.int .i64 t,tx q,tx [],tx []], .bool true]) (by simp [results,Try.results58,go_sem,hc1,hc3,hz,hz2]) rfl ⟨rfl,(by repeat (first | with_reducible exact B2 | with_reducible refine Below.drew ?_ | with_reducible refine Below.setCell ?_ (by first | (simp;done) | (simp;omega) | omega) _ | with_reducible refine Below.alloc ?_ (by first | exact (B2).size | (simp;done) | (simp;omega) | omega) _))⟩
end Go.Proofs.Ytidjpalnmnehmaa
