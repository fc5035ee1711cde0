/- Packed by pack.py: Np. -/
import Derived.Test.YtidjpalnmnehmaaF5
namespace Go.Proofs.Ytidjpalnmnehmaa
open Go.ChangeShapes Go.WideShapes Go.ChangeAt Go.RowKit Go.Lib
set_option linter.unusedVariables false
def NumOut (l : List UInt8) (most : Nat) (e : Ending) : Prop:=match Wf.plainN l most with
  | some n => e = .returned (.tuple #[.int .i64 n, .bool true])
  | none => ∃ m : Int,e = .returned (.tuple #[.int .i64 m, .bool false])
theorem numOut_some {l : List UInt8} {most n : Nat} {e : Ending} (h : Wf.plainN l most = some n) (he : e = .returned (.tuple #[.int .i64 n, .bool true])) : NumOut l most e:=by
  unfold NumOut;rw [h];exact he
theorem numOut_none {l : List UInt8} {most : Nat} {e : Ending} (h : Wf.plainN l most = none) (m : Int) (he : e = .returned (.tuple #[.int .i64 m, .bool false])) : NumOut l most e:=by
  unfold NumOut;rw [h];exact ⟨m,he⟩
theorem dig_no {s : ByteArray} {i : Nat} {c : UInt8} {most : Nat} (h : s.data.toList[i]? = some c) (hc : c.toNat < 48 ∨ 57 < c.toNat) : Wf.plainN s.data.toList most = none:=by
  unfold Wf.plainN
  rw [if_neg]
  rintro ⟨_,_,h3,_⟩
  have:=List.all_eq_true.1 h3 c (List.mem_of_getElem? h)
  simp [Wf.isDig] at this
  omega
theorem dig_take {l : List UInt8} {i : Nat} {c : UInt8} (h : (l.take i).all Wf.isDig = true) (hc : l[i]? = some c) (h1 : 48 ≤ c.toNat) (h2 : c.toNat ≤ 57) : (l.take (i + 1)).all Wf.isDig = true ∧ Wf.val (l.take (i + 1)) = 10 * Wf.val (l.take i) + (c.toNat - 48):=by
  have e : l.take (i + 1) = l.take i ++ [c]:=by rw [List.take_add_one,hc];rfl
  rw [e,List.all_append,h,Wf.val_snoc]
  refine ⟨?_,rfl⟩
  simp [Wf.isDig];omega
theorem numOut_dec {l : List UInt8} {top v : Nat} {b : Bool} (hd : l.all Wf.isDig = true) (h6 : l.length ≤ 6) (hv : v = Wf.val l) (ht : top ≤ 999999) (hb : b = ((l == Wf.dec v) && decide (v ≤ top))) : NumOut l top (.returned (.tuple #[.int .i64 v, .bool b])):=by
  by_cases h1 : l = Wf.dec v
  · by_cases h2 : v ≤ top
    · refine numOut_some (n:=v) ?_ (by rw [hb,decide_eq_true h2,beq_iff_eq.2 h1];rfl)
      rw [h1];exact Wf.plainN_dec h2 (by omega)
    · refine numOut_none ?_ _ (by rw [hb,decide_eq_false h2,Bool.and_false])
      cases hp : Wf.plainN l top with
      | none => rfl
      | some n =>
        obtain ⟨g1,g2,g3⟩:=Wf.plainN_some hp
        rw [g1,Wf.val_dec] at hv
        omega
  · refine numOut_none ?_ _ (by rw [hb,beq_eq_false_iff_ne.2 h1,Bool.false_and])
    cases hp : Wf.plainN l top with
    | none => rfl
    | some n =>
      obtain ⟨g1,g2,g3⟩:=Wf.plainN_some hp
      have : v = n:=by rw [hv,g1,Wf.val_dec]
      rw [← this] at g1
      exact absurd g1 h1
set_option maxRecDepth 20000 in
set_option maxHeartbeats 1000000 in
theorem l3Num (s : ByteArray) (top : Nat) (hm : top ≤ 999999) (w : World) (hs : s.size ≤ 9223372036854775807) : Calls Try.prog 32 #[.string s, .int .i64 top] w fun e w' => NumOut s.data.toList top e ∧ Below w.heap.size w w':=by
  have HL:=hid (size_list s)
  go_enter Try.func32,Try.ntmps32
  go_wp2
  go_loop [6,7] (fun n i => ∃ k v : Nat,k ≤ s.size ∧ k ≤ 6 ∧ i = .int .i64 k ∧ n = .int .i64 v ∧ v < 10 ^ k ∧ Hid ((s.data.toList.take k).all Wf.isDig = true ∧ v = Wf.val (s.data.toList.take k))) (fun _ i => s.size - (RowKit.intOf i).toNat)
  case atStart => exact ⟨0,0,Nat.zero_le _,by omega,rfl,rfl,by decide,hid ⟨by simp,by simp [Wf.val]⟩⟩
  case round =>
    obtain ⟨k,v,hk,hk6,rfl,rfl,hv,hd⟩:=hrel
    by_cases hlt : k < s.size
    · obtain ⟨c,hc,e1⟩:=byte_at s k hlt
      obtain ⟨b,hb⟩ : ∃ b,c.toNat = b:=⟨_,rfl⟩
      rw [hb] at e1
      have HC:=hid hc
      have HB:=hid hb
      have hb256 : b < 256:=by rw [← hb];exact c.toNat_lt
      have hv6 : v < 10000000:=by
        have : 10 ^ k ≤ 10 ^ 6:=Nat.pow_le_pow_right (by decide) (by omega)
        have : 10 ^ 6 = 1000000:=rfl
        omega
      clear hc hb
      by_cases hlo : b < 48
      · go_wp2_with fail
        go_ret2
        exact ⟨numOut_none (dig_no HC.out (by rw [HB.out];omega)) _ rfl,Below.refl _ _⟩
      · by_cases hhi : 57 < b
        · go_wp2_with fail
          go_ret2
          exact ⟨numOut_none (dig_no HC.out (by rw [HB.out];omega)) _ rfl,Below.refl _ _⟩
        · by_cases h5 : 5 < k
          · go_wp2_with fail
            go_ret2
            exact ⟨numOut_none (by unfold Wf.plainN;rw [if_neg];rintro ⟨_,h,_⟩;rw [HL.out] at h;omega) _ rfl,Below.refl _ _⟩
          · have HT:=hid (dig_take hd.out.1 HC.out (by rw [HB.out];omega) (by rw [HB.out];omega))
            go_wp2_with fail
            go_round
            case rel => exact ⟨k + 1,10 * v + (b - 48),by omega,by omega,by go_num,congrArg (Value.int .i64) (by rw [Int.natCast_add,Int.natCast_mul,Int.ofNat_sub (by omega)];rfl),by rw [Nat.pow_succ];omega,hid ⟨HT.out.1,by rw [HT.out.2,HB.out,hd.out.2]⟩⟩
            case measure => simp [RowKit.intOf];omega
    · have hks : k = s.size:=by omega
      subst hks
      have hv6 : v < 1000000:=by
        have : 10 ^ s.size ≤ 10 ^ 6:=Nat.pow_le_pow_right (by decide) (by omega)
        have : 10 ^ 6 = 1000000:=rfl
        omega
      have HF:=hid (show s.data.toList.all Wf.isDig = true ∧ v = Wf.val s.data.toList by have:=hd.out;rwa [List.take_of_length_le (by rw [HL.out];exact Nat.le_refl _)] at this)
      obtain ⟨d,hdd⟩ : ∃ d : ByteArray,(⟨(Wf.dec v).toArray⟩ : ByteArray) = d:=⟨_,rfl⟩
      have H1:=hid fun w => l6Dec v v w (Nat.le_refl _) (by omega)
      rw [tx,hdd] at H1
      have HDD:=hid (show d.toList = Wf.dec v by rw [← hdd,ByteArray.toList_eq])
      clear hdd
      cases ht : (s.toList == d.toList)
      all_goals
        have HT:=hid (show (s.data.toList == Wf.dec v) = _ by rw [← HDD.out,← ByteArray.toList_eq])
        go_wp2_with (go_at_call 41;refine (H1.out _).mono ?_;rintro e w1 ⟨rfl,hb1⟩)
        go_ret2
        exact ⟨numOut_dec HF.out.1 (by rw [HL.out];omega) HF.out.2 hm (by rw [HT.out,ht];rfl),hb1⟩
end Go.Proofs.Ytidjpalnmnehmaa
