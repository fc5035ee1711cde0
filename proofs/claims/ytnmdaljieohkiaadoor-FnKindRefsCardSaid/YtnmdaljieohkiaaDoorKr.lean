/- The reference's l2Ref. -/
import Derived.Test.YtnmdaljieohkiaaDoorKp
namespace Go.Proofs.YtnmdaljieohkiaaDoor
open Go.ChangeShapes Go.WideShapes Go.ChangeAt Go.RowKit Go.Lib
set_option linter.unusedVariables false
/-- the name between the first byte, an @, and the last -/
def refV (l : List UInt8) : Value :=
  match l with
  | [] => .tuple #[.string ⟨#[]⟩, .bool false]
  | c :: r => if c = 64 then .tuple #[.string ⟨r.dropLast.toArray⟩, .bool true] else .tuple #[.string ⟨#[]⟩, .bool false]
set_option maxRecDepth 20000 in
theorem ref_spec (s : ByteArray) (w : World) (hs : s.size ≤ 1048576) (h1 : 1 ≤ s.size) (h2 : s.data.toList.head? = some 64 → 2 ≤ s.size) : Calls Tryd.prog 35 #[.string s] w fun e w' => e = .returned (refV s.data.toList) ∧ w = w' := by
  have hl := size_list s
  obtain ⟨c, hc, e0⟩ := byte_at s 0 (by omega)
  obtain ⟨a, ha⟩ : ∃ a, c.toNat = a := ⟨_, rfl⟩
  rw [ha] at e0
  cases hd : s.data.toList with
  | nil => rw [hd] at hl; simp at hl; omega
  | cons x r =>
    rw [hd] at hc hl h2
    have hx : x = c := by simpa using hc
    subst hx
    by_cases h64 : a = 64
    · have hx : x = 64 := UInt8.toNat_inj.1 (by rw [ha, h64]; rfl)
      subst hx
      have h22 := h2 rfl
      have HV := hid (show refV (64 :: r) = .tuple #[.string (s.extract 1 (s.size - 1)), .bool true] by
        rw [refV, if_pos rfl]
        have he : s.extract 1 (s.size - 1) = ⟨r.dropLast.toArray⟩ := by
          rw [eq_list, ext_list, hd, List.drop_one, List.tail_cons, List.dropLast_eq_take]
          congr 1
          simp at hl; omega
        rw [he])
      subst h64
      clear hc ha hl h2 hd
      go_enter Tryd.func35, Tryd.ntmps35
      go_wp2
      go_ret2
      exact ⟨ret_v HV.out.symm, rfl⟩
    · have HV := hid (show refV (x :: r) = .tuple #[.string ⟨#[]⟩, .bool false] by
        rw [refV, if_neg (fun h => h64 (by rw [← ha, h]; rfl))])
      have t1 : ((a : Int) == 64) = false := by rw [beq_eq_false_iff_ne]; omega
      have t3 : ((a : Int) != 64) = true := by unfold bne; rw [t1]; rfl
      clear hc ha hl h2 hd h64
      go_enter Tryd.func35, Tryd.ntmps35
      go_wp2
      go_ret2
      exact ⟨ret_v HV.out.symm, rfl⟩
end Go.Proofs.YtnmdaljieohkiaaDoor
