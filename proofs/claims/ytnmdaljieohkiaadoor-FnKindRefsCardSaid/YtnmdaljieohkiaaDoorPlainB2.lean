/- Plain laws on texts, kinds, schemas and values; no program in sight. -/
import Derived.Test.YtnmdaljieohkiaaDoorPlainB
namespace Wf
def isSgn (c : UInt8) : Bool := c == 91 || c == 63
def wrap : Bs → K → K
  | [], k => k
  | c :: r, k => if c = 91 then .list (wrap r k) else .opt (wrap r k)
/-- the kind of a text without signs ahead -/
def coreIn (r : Bs) : Option K :=
  if r = [110] then some .num else if r = [116] then some .txt else if r = [102] then some .flag
  else if r.head? = some 64 ∧ r.getLast? = some 59 ∧ isName (r.tail.dropLast) = true then some (.ref r.tail.dropLast) else none

theorem coreIn_kindIn {c : UInt8} {r : Bs} (h1 : c ≠ 91) (h2 : c ≠ 63) : kindIn (c :: r) = coreIn (c :: r) := by
  simp only [kindIn, if_neg h1, if_neg h2, coreIn, List.cons.injEq]
  by_cases h3 : c = 64
  · subst h3
    simp only [if_true, List.head?_cons, List.tail_cons, true_and]
    by_cases hr : r = []
    · subst hr; simp
    · obtain ⟨d, q, rfl⟩ := List.exists_cons_of_ne_nil hr
      simp [List.getLast?_cons_cons]
  · simp [h3]

theorem kindIn_split (s : Bs) : kindIn s = (coreIn (s.dropWhile isSgn)).map (wrap (s.takeWhile isSgn)) := by
  induction s with
  | nil => simp [kindIn, coreIn]
  | cons c r ih =>
    by_cases h1 : c = 91
    · subst h1
      have : isSgn 91 = true := by decide
      simp [kindIn, this, ih, wrap, Option.map_map, Function.comp_def]
    · by_cases h2 : c = 63
      · subst h2
        have : isSgn 63 = true := by decide
        simp [kindIn, this, ih, wrap, Option.map_map, Function.comp_def]
      · have : isSgn c = false := by simp [isSgn, h1, h2]
        have e : wrap [] = id := funext fun _ => rfl
        simp only [List.dropWhile_cons, List.takeWhile_cons, this]
        rw [coreIn_kindIn h1 h2]
        simp [e]
theorem wrap_signs {l : Bs} (h : l.all isSgn = true) (k : K) : (wrap l k).signs = l ++ k.signs := by
  induction l with
  | nil => rfl
  | cons c r ih =>
    simp only [List.all_cons, Bool.and_eq_true] at h
    have hc := h.1
    simp only [isSgn, Bool.or_eq_true, beq_iff_eq] at hc
    simp only [wrap]
    rcases hc with rfl | rfl
    · simp [K.signs, ih h.2]
    · rw [if_neg (by decide)]; simp [K.signs, ih h.2]
theorem wrap_core (l : Bs) (k : K) : (wrap l k).core = k.core := by
  induction l with
  | nil => rfl
  | cons c r ih => simp only [wrap]; split <;> simp [K.core, ih]
theorem wrap_base (l : Bs) (k : K) : (wrap l k).base = k.base := by
  induction l with
  | nil => rfl
  | cons c r ih => simp only [wrap]; split <;> simp [K.base, ih]
theorem wrap_name (l : Bs) (k : K) : (wrap l k).name = k.name := by
  induction l with
  | nil => rfl
  | cons c r ih => simp only [wrap]; split <;> simp [K.name, ih]
end Wf
