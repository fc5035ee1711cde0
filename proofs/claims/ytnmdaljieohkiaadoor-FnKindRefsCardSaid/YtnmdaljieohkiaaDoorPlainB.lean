/- Plain laws on texts, kinds, schemas and values; no program in sight. -/
import Derived.Test.YtnmdaljieohkiaaDoorPlain0
namespace Wf

inductive K where
  | num | txt | flag
  | ref (name : Bs)
  | list (k : K)
  | opt (k : K)
deriving DecidableEq, Repr, Inhabited

def K.text : K → Bs
  | .num => [110]
  | .txt => [116]
  | .flag => [102]
  | .ref n => 64 :: (n ++ [59])
  | .list k => 91 :: k.text
  | .opt k => 63 :: k.text

def K.signs : K → Bs
  | .list k => 91 :: k.signs
  | .opt k => 63 :: k.signs
  | _ => []

def K.core : K → K
  | .list k => k.core
  | .opt k => k.core
  | k => k

def K.base : K → Bs
  | .num => [110]
  | .txt => [116]
  | .flag => [102]
  | .ref _ => [64]
  | .list k => k.base
  | .opt k => k.base

def K.name : K → Bs
  | .ref n => n
  | .list k => k.name
  | .opt k => k.name
  | _ => []

def isLow (c : UInt8) : Bool := 97 ≤ c.toNat && c.toNat ≤ 122
def isName (s : Bs) : Bool := decide (1 ≤ s.length) && decide (s.length ≤ 3) && s.all isLow

/-- the kind that a text tells, whatever its length -/
def kindIn : Bs → Option K
  | [] => none
  | c :: r =>
    if c = 91 then (kindIn r).map .list
    else if c = 63 then (kindIn r).map .opt
    else if c = 64 then (if r ≠ [] ∧ r.getLast? = some 59 ∧ isName r.dropLast = true then some (.ref r.dropLast) else none)
    else if c = 110 ∧ r = [] then some .num
    else if c = 116 ∧ r = [] then some .txt
    else if c = 102 ∧ r = [] then some .flag
    else none

def parseK (s : Bs) : Option K := if s.length ≤ 12 then kindIn s else none

theorem kindIn_text {s : Bs} {k : K} (h : kindIn s = some k) : k.text = s := by
  induction s generalizing k with
  | nil => simp [kindIn] at h
  | cons c r ih =>
    simp only [kindIn] at h
    split at h
    · rename_i hc
      cases hr : kindIn r with
      | none => rw [hr] at h; simp at h
      | some k' => rw [hr] at h; simp at h; subst h; simp [K.text, ih hr, hc]
    · split at h
      · rename_i hc
        cases hr : kindIn r with
        | none => rw [hr] at h; simp at h
        | some k' => rw [hr] at h; simp at h; subst h; simp [K.text, ih hr, hc]
      · split at h
        · rename_i hc
          split at h
          · rename_i hx
            simp at h; subst h
            obtain ⟨h1, h2, h3⟩ := hx
            simp only [K.text, hc]
            rw [List.getLast?_eq_some_getLast h1] at h2
            simp at h2
            rw [← h2, List.dropLast_concat_getLast h1]
          · simp at h
        · repeat (first | (split at h; · rename_i hx; simp at h; subst h; simp [K.text, hx]) | simp at h)

theorem K.text_core_base (k : K) : k.text = k.signs ++ k.core.text := by
  induction k <;> simp_all [K.text, K.signs, K.core]
theorem K.text_ne (k : K) : k.text ≠ [] := by cases k <;> simp [K.text]
end Wf
