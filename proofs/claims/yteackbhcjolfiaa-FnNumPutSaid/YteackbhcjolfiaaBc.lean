/- Bytes that came in, turned to a text. -/
import Derived.Test.YteackbhcjolfiaaRd
namespace Go.Proofs.Yteackbhcjolfiaa
open Go.ChangeShapes Go.WideShapes Go.ChangeAt Go.RowKit
/-- 'string(b)' of bytes that came in -/
theorem bytes_conv {w : World} {a : Option Addr} {len cap : Nat} (h : Bytes w w.heap.size a len cap) : ∃ l : List UInt8, l.length = len ∧ ∀ w', Below w.heap.size w w' → (convert 32 9 (.slice a len cap)).run Try.prog w' = .ok (.string ⟨l.toArray⟩) w' := by
  obtain ⟨h1, h2, h3⟩ := h
  by_cases h0 : len = 0
  · subst h0
    refine ⟨[], rfl, fun w' _ => ?_⟩
    rw [run_convert_bytes_string w' 32 9 5 a 0 cap Try.underlying32 Try.underlying5 Try.underlying9]
    simp [Conv.bytesToString, Sem.run_pure]
    cases a <;> rfl
  · rcases h3 with h3 | ⟨b, off, rfl, hb, hc⟩
    · exact absurd h3 h0
    · have hx : ∃ l : List UInt8, l.length = len ∧ ∀ j (hj : j < l.length), w.cell? ⟨b, off + j, none⟩ = some (.int .u8 (l[j].toNat : Int)) := by
        clear h0 h1 h2
        induction len with
        | zero => exact ⟨[], rfl, fun j hj => by simp at hj⟩
        | succ n ih =>
          obtain ⟨l, hl, hs⟩ := ih fun i hi => hc i (by omega)
          obtain ⟨m, m1, m2, m3⟩ := hc n (by omega)
          refine ⟨l ++ [UInt8.ofNat m.toNat], by simp [hl], fun j hj => ?_⟩
          simp only [List.length_append, List.length_cons, List.length_nil] at hj
          by_cases hjn : j < l.length
          · rw [hs j hjn, List.getElem_append_left hjn]
          · have hm : ((UInt8.ofNat m.toNat).toNat : Int) = m := by
              rw [UInt8.toNat_ofNat']; omega
            have hj' : j = n := by omega
            have hg : (l ++ [UInt8.ofNat m.toNat])[j]'(by simp; omega) = UInt8.ofNat m.toNat := by
              rw [List.getElem_append_right (by omega)]; simp
            rw [hg, hm, hj']; exact m3
      obtain ⟨l, hl, hs⟩ := hx
      refine ⟨l, hl, fun w' hb' => ?_⟩
      subst hl
      refine run_convert_bytes_back w' 32 9 5 ⟨b, off, none⟩ cap l Try.underlying32 Try.underlying5 Try.underlying9 fun j hj => ?_
      have ha : (Addr.add ⟨b, off, none⟩ j) = ⟨b, off + j, none⟩ := by simp [Addr.add]; try (intro h; omega)
      rw [ha, hb'.cell (p := ⟨b, off + j, none⟩) hb]
      exact hs j hj
end Go.Proofs.Yteackbhcjolfiaa
