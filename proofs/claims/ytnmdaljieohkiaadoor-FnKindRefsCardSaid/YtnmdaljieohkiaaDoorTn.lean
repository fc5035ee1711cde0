import Derived.Lib.SlTrimSet
import Derived.Test.YtnmdaljieohkiaaDoorPlainB2
namespace Go.Proofs.YtnmdaljieohkiaaDoor
def letters : List UInt8 := [97, 98, 99, 100, 101, 102, 103, 104, 105, 106, 107, 108, 109, 110, 111, 112, 113, 114, 115, 116, 117, 118, 119, 120, 121, 122]
theorem letters_low (c : UInt8) : letters.contains c = Wf.isLow c := by
  have h : ∀ n : Fin 256, letters.contains (UInt8.ofNat n.val) = Wf.isLow (UInt8.ofNat n.val) := by decide +kernel
  have := h ⟨c.toNat, c.toNat_lt⟩
  simpa using this
theorem drop_nil {α : Type} (p : α → Bool) (l : List α) : l.dropWhile p = [] ↔ l.all p = true := by
  induction l with
  | nil => simp
  | cons a l ih => by_cases h : p a = true <;> simp [h, ih]
theorem trim_nil (l : List UInt8) : Lib.trimS l letters = [] ↔ l.all Wf.isLow = true := by
  have hp : (fun x => letters.contains x) = Wf.isLow := funext letters_low
  unfold Lib.trimS Lib.trimLeftS Lib.trimRightS
  rw [hp, drop_nil]
  constructor
  · intro h
    have h2 : l.reverse.all Wf.isLow = true := by
      rw [← List.takeWhile_append_dropWhile (p := Wf.isLow) (l := l.reverse), List.all_append, List.all_takeWhile, Bool.true_and]
      simpa using h
    simpa using h2
  · intro h
    have : l.reverse.dropWhile Wf.isLow = [] := (drop_nil _ _).2 (by simpa using h)
    rw [this]; rfl
end Go.Proofs.YtnmdaljieohkiaaDoor
