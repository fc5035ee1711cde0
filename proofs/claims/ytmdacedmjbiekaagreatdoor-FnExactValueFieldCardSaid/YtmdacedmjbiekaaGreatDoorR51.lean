/- What the laws on the fields of values lean on besides. -/
import Derived.Test.YtmdacedmjbiekaaGreatDoorR50
namespace Wf
set_option linter.unusedVariables false
set_option linter.unusedSimpArgs false
theorem commas_len {l : List Bs} (h : ∀ a, a ∈ l → a ≠ []) : l.length ≤ (commas l).length := by
  induction l with
  | nil => simp
  | cons a l ih =>
    have ha := List.length_pos_iff.2 (h a (by simp))
    have ih' := ih (fun b hb => h b (by simp [hb]))
    by_cases hl : l = []
    · subst hl; simp [commas]; omega
    · rw [commas_cons _ hl]; simp; omega
end Wf

namespace Wf
set_option linter.unusedVariables false
set_option linter.unusedSimpArgs false

/-- the value of a field of a record, told or standing: its text -/
def getEs (x : Sc) (es : List (Fd × V)) (f : Fd) : Bs :=
  match es.find? (fun e => e.1.tag == f.tag) with
  | some e => e.2.print
  | none => standF x f

end Wf

namespace Wf
set_option linter.unusedVariables false
set_option linter.unusedSimpArgs false
abbrev Asc (es : List (Fd × V)) : Prop := (es.map (fun e => e.1.tag)).Pairwise (· < ·)

end Wf

namespace Wf
set_option linter.unusedVariables false
set_option linter.unusedSimpArgs false
def Ty.fieldZ (t : Ty) (g : Int) : Option Fd := t.fields.find? fun f => (f.tag : Int) == g
theorem fieldZ_nat (t : Ty) (g : Nat) : t.fieldZ g = t.field g := by
  unfold Ty.fieldZ Ty.field
  refine congrArg (fun p => List.find? p t.fields) (funext fun f => ?_)
  rw [Bool.eq_iff_iff, beq_iff_eq, beq_iff_eq]
  omega
theorem fieldZ_some {t : Ty} {g : Int} {f : Fd} (h : t.fieldZ g = some f) : f ∈ t.fields ∧ (f.tag : Int) = g ∧ t.field f.tag = some f := by
  have h1 := List.mem_of_find?_eq_some h
  have h2 : (f.tag : Int) = g := by have := List.find?_some h; simpa using this
  refine ⟨h1, h2, ?_⟩
  rw [← fieldZ_nat, h2]
  exact h
/-- the type of a kind that names a record -/
def recTy (x : Sc) : K → Option Ty
  | .ref nm => (x.find nm).bind fun t => if t.sort = 82 then some t else none
  | _ => none
theorem recTy_some {x : Sc} {k : K} {t : Ty} (h : recTy x k = some t) : ∃ nm, k = .ref nm ∧ x.find nm = some t ∧ t.sort = 82 := by
  cases k with
  | ref nm =>
    simp only [recTy] at h
    cases hf : x.find nm with
    | none => rw [hf] at h; cases h
    | some u =>
      rw [hf] at h
      simp only [Option.bind_some] at h
      split at h
      · rename_i h82; cases h; exact ⟨nm, rfl, hf, h82⟩
      · cases h
  | _ => cases h
def recFd (x : Sc) (k : K) (g : Int) : Option Fd := (recTy x k).bind fun t => t.fieldZ g
theorem recFd_some {x : Sc} {k : K} {g : Int} {f : Fd} (h : recFd x k g = some f) : ∃ nm t, k = .ref nm ∧ x.find nm = some t ∧ t.sort = 82 ∧ t.fieldZ g = some f := by
  unfold recFd at h
  cases ht : recTy x k with
  | none => rw [ht] at h; cases h
  | some t =>
    rw [ht] at h
    obtain ⟨nm, h1, h2, h3⟩ := recTy_some ht
    exact ⟨nm, t, h1, h2, h3, h⟩
def getV (x : Sc) (kids : List V) (f : Fd) : Bs :=
  match kids.find? (fun u => u.tag == f.tag) with
  | some u => (match u.kids with | [y] => y.print | _ => [])
  | none => standF x f
def fieldIn (x : Sc) (k : K) (v : V) (g : Int) : Option Bs := (recFd x k g).map fun f => getV x v.kids f
theorem getV_es (x : Sc) (es : List (Fd × V)) (f : Fd) : getV x (es.map tagged) f = getEs x es f := by
  unfold getV getEs
  induction es with
  | nil => rfl
  | cons e es ih =>
    simp only [List.map_cons, List.find?_cons]
    have : (tagged e).tag = e.1.tag := rfl
    rw [this]
    cases hq : (e.1.tag == f.tag) with
    | true => rfl
    | false => exact ih
/-- the fields of a value of a record -/
def RecOf (x : Sc) (t : Ty) (n : Nat) (es : List (Fd × V)) : Prop :=
  Asc es ∧ ∀ e, e ∈ es → 0 < e.1.tag ∧ t.field e.1.tag = some e.1 ∧ e.1.tag ≤ 200 ∧ Typed x n e.1.kind e.2 ∧ e.2.print ≠ standF x e.1
abbrev recV (es : List (Fd × V)) : V := .mk 82 [] 0 (es.map tagged)
theorem rec_of {x : Sc} {n : Nat} {nm : Bs} {v : V} {t : Ty} (h : Typed x (n + 1) (.ref nm) v) (ht : x.find nm = some t) (h82 : t.sort = 82) : ∃ es, RecOf x t n es ∧ v = recV es := by
  simp only [Typed] at h
  obtain ⟨u, hu, h⟩ := h
  rw [ht] at hu
  cases hu
  rcases h with ⟨h1, _⟩ | ⟨_, h1, _⟩ | ⟨_, _, l, h1, h2, h3⟩
  · rw [h82] at h1; exact absurd h1 (by decide)
  · rw [h82] at h1; exact absurd h1 (by decide)
  · exact ⟨l, ⟨h1, h2⟩, h3⟩
theorem commas_part {l : List Bs} {a : Bs} (h : a ∈ l) : a.length ≤ (commas l).length := by
  induction l with
  | nil => simp at h
  | cons b l ih =>
    cases l with
    | nil => simp at h; subst h; exact Nat.le_refl _
    | cons c l =>
      simp only [commas, List.length_append, List.length_cons]
      rcases List.mem_cons.1 h with rfl | h
      · omega
      · have := ih h; omega
theorem rec_part {es : List (Fd × V)} {e : Fd × V} (h : e ∈ es) : e.2.print.length ≤ (recV es).print.length := by
  rw [recV, print_rec]
  have h1 : (tagged e).print ∈ (es.map tagged).map V.print := List.mem_map_of_mem (List.mem_map_of_mem h)
  have h2 := commas_part h1
  rw [tagged_print] at h2
  simp at h2 ⊢
  omega
theorem fieldIn_rec {x : Sc} {nm : Bs} {t : Ty} {es : List (Fd × V)} {g : Int} (ht : x.find nm = some t) (h82 : t.sort = 82) : fieldIn x (.ref nm) (recV es) g = (t.fieldZ g).map fun f => getEs x es f := by
  have hr : recTy x (.ref nm) = some t := by simp only [recTy, ht, Option.bind_some, if_pos h82]
  unfold fieldIn recFd
  rw [hr]
  simp only [Option.bind_some, V.kids, getV_es]
end Wf

namespace Go.Proofs.YtmdacedmjbiekaaGreatDoor
open Go.ChangeShapes Go.WideShapes Go.ChangeAt Go.RowKit Go.Lib
set_option linter.unusedVariables false
set_option linter.unusedSimpArgs false
/-- what at gives, of the fields of a record -/
def AtOut (es : List (Wf.Fd × Wf.V)) (g : Int) (W : World) (P : Nat → Prop) (e : Ending) : Prop := match es.find? (fun d => (d.1.tag : Int) == g) with
  | some d => ∃ p, e = .returned (.tuple #[ptr p, .bool true]) ∧ LV W P d.2 p
  | none => e = .returned (.tuple #[.pointer none, .bool false])
theorem findZ_at {es : List (Wf.Fd × Wf.V)} {g : Int} {k : Nat} (hk : k < es.length) (h0 : ∀ j (hj : j < es.length), j < k → ((es[j]).1.tag : Int) ≠ g) (h1 : ((es[k]).1.tag : Int) = g) : es.find? (fun d => (d.1.tag : Int) == g) = some es[k] := by
  rw [List.find?_eq_some_iff_getElem]
  exact ⟨by simpa using h1, k, hk, rfl, fun j hj => by simpa using h0 j (by omega) hj⟩
theorem findZ_not {es : List (Wf.Fd × Wf.V)} {g : Int} (h0 : ∀ j (hj : j < es.length), ((es[j]).1.tag : Int) ≠ g) : es.find? (fun d => (d.1.tag : Int) == g) = none := by
  rw [List.find?_eq_none]
  intro f hf
  obtain ⟨j, hj, rfl⟩ := List.mem_iff_getElem.1 hf
  simpa using h0 j hj
set_option maxRecDepth 20000 in
set_option maxHeartbeats 1000000 in
theorem lat (es : List (Wf.Fd × Wf.V)) (hes : es.length ≤ 1000) (g : Int) (b : Nat) (P : Nat → Prop) (W w : World) (hv : LV W P (Wf.recV es) b) (hW : Below W.heap.size W w) : Calls Tryz.prog 58 #[ptr b, .int .i64 g] w fun e w' => AtOut es g W P e ∧ Below w.heap.size w w' := by
  obtain ⟨hlt, kd, tt, tv, kv, tb, kb, bs, c0, c1, c2, c3, r1, r2, hs, hk⟩ := hv.at (show (82 : UInt8) ≠ 61 by decide) hW
  have htt : tt = [82] := hs.2
  subst htt
  have hk2 : LVs W P (es.map (·.2)) bs := LVs.fields hk
  have hr1 : RowAt w tb tv ((es.map fun e => e.1.tag).map ix) := by
    have h : tagsOf (Wf.recV es).what (Wf.recV es).tag (Wf.recV es).kids = es.map (fun e => e.1.tag) := tags_rec es
    rw [h] at r1
    exact r1
  obtain ⟨n, hn⟩ : ∃ n, es.length = n := ⟨_, rfl⟩
  have hbl : bs.length = n := by rw [hk2.len, List.length_map, hn]
  obtain ⟨ta, tc, rfl, htc1, htc2⟩ := hr1.form
  obtain ⟨ka, kc, rfl, hkc1, hkc2⟩ := r2.form
  have e1 : ((es.map fun e => e.1.tag).map ix).length = n := by rw [List.length_map, List.length_map, hn]
  have e2 : (bs.map ptr).length = n := by rw [List.length_map, hbl]
  rw [e1] at c2 htc1 hr1
  rw [e2] at c3 hkc1 r2
  have HR1 := hid hr1
  have HR2 := hid r2
  have HK := hid hk2
  have HN := hid hn
  have HBL := hid hbl
  have HE1 := hid e1
  have HE2 := hid e2
  have hn1 : n ≤ 1000 := by omega
  unfold maxLen at htc2 hkc2
  clear hr1 r2 hk hk2 hn hbl e1 e2 hs c0 r1 hv
  go_enter Tryz.func58, Tryz.ntmps58
  go_wp2_with fail
  go_loopw [6] (fun s6 wr => ∃ i : Nat, s6 = .int .i64 i ∧ i ≤ n ∧ wr = w ∧ Hid (∀ j (hj : j < es.length), j < i → ((es[j]).1.tag : Int) ≠ g)) (fun s6 _ => n - (RowKit.intOf s6).toNat)
  case atStart => exact ⟨0, rfl, Nat.zero_le _, rfl, hid fun j hj h => by omega⟩
  case round =>
    obtain ⟨i, rfl, hi, rfl, hno⟩ := hrel
    by_cases hlt2 : i < n
    · have hix : i < es.length := by rw [HN.out]; exact hlt2
      obtain ⟨to', rfl, htb, _, _, ct⟩ := HR1.out.get (i := i) (by rw [HE1.out]; exact hlt2)
      obtain ⟨ko, rfl, hkb, _, _, ck⟩ := HR2.out.get (i := i) (by rw [HE2.out]; exact hlt2)
      rw [List.getElem_map, List.getElem_map] at ct
      rw [List.getElem_map] at ck
      obtain ⟨T, hT⟩ : ∃ T, (es[i]).1.tag = T := ⟨_, rfl⟩
      obtain ⟨u, hu⟩ : ∃ u, bs[i]'(by rw [HBL.out]; exact hlt2) = u := ⟨_, rfl⟩
      have ct2 : wr.cell? ⟨tb, to' + i, none⟩ = some (.int .i64 T) := by rw [ct, hT]
      rw [hu] at ck
      have hTT := hid hT
      have hUU := hid hu
      clear ct hT hu
      by_cases hg : (T : Int) = g
      · have tg : ((T : Int) == g) = true := beq_iff_eq.2 hg
        have HF := hid (findZ_at hix hno.out (by rw [hTT.out]; exact hg))
        have HV := hid (show LV W P (es[i]).2 u by
          have := HK.out.get i (by rw [List.length_map]; exact hix) (by rw [HBL.out]; exact hlt2)
          rw [List.getElem_map, hUU.out] at this
          exact this)
        clear hg
        go_wp2_with fail
        exact bodyPost_ret (v := .tuple #[ptr u, .bool true]) (by simp [results, Tryz.results58, go_sem, *]) rfl ⟨by unfold AtOut; rw [HF.out]; exact ⟨u, rfl, HV.out⟩, Below.refl _ _⟩
      · have tg : ((T : Int) == g) = false := beq_eq_false_iff_ne.2 hg
        have HG := hid hg
        clear hg
        go_wp2_with fail
        go_roundw
        case rel => exact ⟨i + 1, by go_num, by omega, trivial, hid fun j hj hjk => by
          by_cases hj2 : j = i
          · subst hj2; rw [hTT.out]; exact HG.out
          · exact hno.out j hj (by omega)⟩
        case measure => simp [RowKit.intOf]; omega
    · have hin : i = n := by omega
      subst hin
      have HF := hid (findZ_not (es := es) (g := g) fun j hj => hno.out j hj (by rw [← HN.out]; exact hj))
      go_wp2_with fail
      exact bodyPost_ret (v := .tuple #[.pointer none, .bool false]) (by simp [results, Tryz.results58, go_sem, *]) rfl ⟨by unfold AtOut; rw [HF.out], Below.refl _ _⟩
theorem zeroF_new (w : World) : ZeroF (w.alloc (.cells #[.int .i64 0, .string ⟨#[]⟩, .string ⟨#[]⟩, .string ⟨#[]⟩] 86)) w.heap.size := by
  refine ⟨?_, ?_, ?_, ?_, ?_, ?_, ?_, ?_, ?_⟩
  all_goals (simp [go_sem]; done)
/-- the field of a record: what l4Record gives -/
def LrecOut (x : Wf.Sc) (k : Wf.K) (g : Int) (e : Ending) : Prop := match Wf.recFd x k g with
  | some f => e = .returned (.tuple #[.agg #[.int .i64 f.tag, tx f.name, tx f.kind.text, tx f.given], .bool true])
  | none => ∃ (m : Int) (a b c : ByteArray), e = .returned (.tuple #[.agg #[.int .i64 m, .string a, .string b, .string c], .bool false])
set_option maxRecDepth 20000 in
set_option maxHeartbeats 2000000 in
theorem l4rec_w (v : Value) (KT : ByteArray) (g : Int) (q n : Nat) (N : ByteArray) (RR : Option Addr → Nat → Prop) (b1 b2 : Bool) (m : Int) (A B C : ByteArray) (w : World)
    (href : ∀ wz, Below w.heap.size w wz → Calls Tryz.prog 87 #[v, .string KT] wz fun e w' => (∃ fa c, e = .returned (.tuple #[.agg #[.int .u8 q, .string N, .slice fa n c], .bool b1]) ∧ RR fa c) ∧ Below wz.heap.size wz w')
    (hfld : ∀ fa c, RR fa c → ∀ wz, Below w.heap.size w wz → Calls Tryz.prog 50 #[.agg #[.int .u8 q, .string N, .slice fa n c], .int .i64 g] wz fun e w' => e = .returned (.tuple #[.agg #[.int .i64 m, .string A, .string B, .string C], .bool b2]) ∧ Below wz.heap.size wz w') (hq : ((q : Int) == 82) = true ∨ ((q : Int) == 82) = false) :
    Calls Tryz.prog 57 #[v, .string KT, .int .i64 g] w fun e w' => e = .returned (.tuple #[.agg #[.int .i64 m, .string A, .string B, .string C], .bool (b1 && (b2 && ((q : Int) == 82)))]) ∧ Below w.heap.size w w' := by
  have HREF := hid href
  have HFLD := hid hfld
  clear href hfld
  cases b1 <;> cases b2 <;> rcases hq with hq | hq
  all_goals
    go_enter Tryz.func57, Tryz.ntmps57
    go_wp2_with (first | (go_at_call 50; refine (HFLD.out _ _ HRR.out _ (B2.out.alloc B2.out.size _)).mono ?_; rintro e w3 ⟨rfl, hb3⟩; have B3 := hid (below_join (B2.out.alloc B2.out.size _) hb3); have t0 : w3.cell? ⟨w2.heap.size, 0, none⟩ = some (.int .u8 q) := (hb3.cell (p := ⟨w2.heap.size, 0, none⟩) (by simp)).trans (by simp [go_sem]); have hlw2 : w2.heap.size < w3.heap.size := Nat.lt_of_lt_of_le (by simp) hb3.size; obtain ⟨zl, zr0, zr1, zr2, zr3, zf0, zf1, zf2, zf3⟩ := (Z2.out.below ((Below.refl w2.heap.size w2).alloc (Nat.le_refl _) _) Z2.out.lt).below hb3 (by have := Z2.out.lt; simp; omega); clear hb3) | (go_at_call 87; refine (HREF.out _ (by first | exact (Below.refl _ _).alloc (Nat.le_refl _) _)).mono ?_; rintro e w2 ⟨⟨fa, c, rfl, hrr⟩, hb2⟩; have HRR := hid hrr; clear hrr; have B2 := hid (below_join ((Below.refl w.heap.size w).alloc (Nat.le_refl _) _) hb2); have Z2 := hid ((zeroF_new w).below hb2 (by simp)); have hne1 : ¬ (w2.heap.size = w.heap.size) := (by have := Z2.out.lt; omega); have hne2 : ¬ (w.heap.size = w2.heap.size) := (by have := Z2.out.lt; omega); clear hb2))
    go_region
    all_goals (go_wp2_with fail)
    all_goals exact bodyPost_ret (v := .tuple #[.agg #[.int .i64 m, .string A, .string B, .string C], .bool _]) (by simp [results, Tryz.results57, go_sem, *]) rfl ⟨rfl, by have BB := B3.out; have hB := BB.size; repeat (first | with_reducible exact BB | with_reducible refine Below.drew ?_ | with_reducible refine Below.setCell ?_ (by first | (simp; done) | (simp; omega)) _ | with_reducible refine Below.alloc ?_ (by first | exact BB.size | (simp; omega)) _)⟩
theorem l4Record (x : Wf.Sc) (hx : Wf.ScOk x) (lo b : Nat) (v : Value) (k : Wf.K) (hk : KOk x k) (g : Int) (W w : World) (hW : Below W.heap.size W w) (hsp : ScSp W lo b v x) : Calls Tryz.prog 57 #[v, tx k.text, .int .i64 g] w fun e w' => LrecOut x k g e ∧ Below w.heap.size w w' := by
  have hr := fun wz (hz : Below w.heap.size w wz) => l3ref x lo b v k (by have := hk.len; omega) W wz (hW.trans (hz.mono hW.size)) (by have := hx.len; omega) hsp
  have hf := fun (t : Wf.Ty) (ht : t.fields.length ≤ 1000) fb fa fc (h : RowK W fb (.slice fa t.fields.length fc) 4 (t.fields.map (fdS t.sort))) wz (hz : Below w.heap.size w wz) => l3field t ht g t.sort.toNat ⟨t.name.toArray⟩ fb fa fc W wz (hW.trans (hz.mono hW.size)) h
  cases hrt : refT x k with
  | none =>
    have hno : Wf.recFd x k g = none := by
      unfold Wf.recFd
      cases k with
      | ref nm =>
        have h : x.find nm = none := hrt
        simp only [Wf.recTy, h, Option.bind_none]
      | _ => rfl
    have h0 := hf ⟨0, [], []⟩ (by decide) 0 none 0 (rowK_nil W 0 4 none 0 (by unfold maxLen; omega))
    refine (l4rec_w v ⟨k.text.toArray⟩ g 0 0 ⟨#[]⟩ (fun fa c => fa = none ∧ c = 0) false false 0 ⟨#[]⟩ ⟨#[]⟩ ⟨#[]⟩ w (fun wz hz => (hr wz hz).mono fun e w' ⟨h1, h2⟩ => ⟨⟨none, 0, by rw [hrt] at h1; exact h1, rfl, rfl⟩, h2⟩) (fun fa c ⟨h3, h4⟩ wz hz => by subst h3 h4; exact (h0 wz hz).mono fun e w' ⟨h1, h2⟩ => ⟨h1, h2⟩) (.inr rfl)).mono fun e w' ⟨h1, h2⟩ => ⟨?_, h2⟩
    unfold LrecOut
    rw [hno]
    exact ⟨_, _, _, _, h1⟩
  | some t =>
    obtain ⟨nm, rfl⟩ : ∃ nm, k = .ref nm := by
      cases k with
      | ref nm => exact ⟨nm, rfl⟩
      | _ => cases hrt
    have hft : x.find nm = some t := hrt
    have hto := hx.tys t (Wf.find_mem hft).1
    have htl : t.fields.length ≤ 1000 := by have := hto.len; omega
    have hrd : Wf.recFd x (.ref nm) g = if t.sort = 82 then fieldI t g else none := by
      unfold Wf.recFd
      simp only [Wf.recTy, hft, Option.bind_some]
      split <;> rfl
    have hq : ((t.sort.toNat : Int) == 82) = decide (t.sort = 82) := by
      rcases hto.sort with h | h | h <;> rw [h] <;> rfl
    have hq2 : ((t.sort.toNat : Int) == 82) = true ∨ ((t.sort.toNat : Int) == 82) = false := by cases ((t.sort.toNat : Int) == 82) <;> simp
    have hrr := fun wz hz => (hr wz hz).mono (R' := fun e w' => (∃ fa c, e = .returned (.tuple #[.agg #[.int .u8 t.sort.toNat, .string ⟨t.name.toArray⟩, .slice fa t.fields.length c], .bool true]) ∧ ∃ fb, RowK W fb (.slice fa t.fields.length c) 4 (t.fields.map (fdS t.sort))) ∧ Below wz.heap.size wz w') fun e w' ⟨h1, h2⟩ => ⟨by
      rw [hrt] at h1
      obtain ⟨fb, a, c, h3, _, h5⟩ := h1
      exact ⟨a, c, h3, fb, h5⟩, h2⟩
    cases hfi : fieldI t g with
    | none =>
      refine (l4rec_w v ⟨(Wf.K.ref nm).text.toArray⟩ g t.sort.toNat t.fields.length ⟨t.name.toArray⟩ (fun fa c => ∃ fb, RowK W fb (.slice fa t.fields.length c) 4 (t.fields.map (fdS t.sort))) true false 0 ⟨#[]⟩ ⟨#[]⟩ ⟨#[]⟩ w hrr (fun fa c ⟨fb, h⟩ wz hz => (hf t htl fb fa c h wz hz).mono fun e w' ⟨h1, h2⟩ => ⟨by rw [h1, hfi]; rfl, h2⟩) hq2).mono fun e w' ⟨h1, h2⟩ => ⟨?_, h2⟩
      unfold LrecOut
      rw [hrd, hfi, ite_self]
      exact ⟨_, _, _, _, h1⟩
    | some f =>
      refine (l4rec_w v ⟨(Wf.K.ref nm).text.toArray⟩ g t.sort.toNat t.fields.length ⟨t.name.toArray⟩ (fun fa c => ∃ fb, RowK W fb (.slice fa t.fields.length c) 4 (t.fields.map (fdS t.sort))) true true f.tag ⟨f.name.toArray⟩ ⟨(if t.sort = 69 then [] else f.kind.text).toArray⟩ ⟨f.given.toArray⟩ w hrr (fun fa c ⟨fb, h⟩ wz hz => (hf t htl fb fa c h wz hz).mono fun e w' ⟨h1, h2⟩ => ⟨by rw [h1, hfi]; rfl, h2⟩) hq2).mono fun e w' ⟨h1, h2⟩ => ⟨?_, h2⟩
      unfold LrecOut
      rw [hrd, hfi]
      rw [hq] at h1
      by_cases h82 : t.sort = 82
      · rw [if_pos h82]
        rw [decide_eq_true h82, if_neg (by rw [h82]; decide)] at h1
        exact h1
      · rw [if_neg h82]
        rw [decide_eq_false h82] at h1
        exact ⟨_, _, _, _, h1⟩
/-- a field's text, and whether there is one -/
def vfV : Option (List UInt8) → Value
  | some b => .tuple #[tx b, .bool true]
  | none => .tuple #[tx [], .bool false]
def fieldVal (l kt s : List UInt8) (g : Int) : Option (List UInt8) := (valOf l kt s).bind fun y => Wf.fieldIn y.1.1 y.1.2 y.2 g
set_option maxRecDepth 20000 in
set_option maxHeartbeats 2000000 in
theorem valueField_s (s kt v : ByteArray) (g : Int) (w : World) (hs : s.size ≤ 1048576) (hv : v.size ≤ 1048576) : Calls Tryz.prog 28 #[.string s, .string kt, .string v, .int .i64 g] w fun e w' => e = .returned (vfV (fieldVal s.data.toList kt.data.toList v.data.toList g)) ∧ Below w.heap.size w w' := by
  have HG := hid (l4Of s kt v w hs hv)
  cases hvo : valOf s.data.toList kt.data.toList v.data.toList with
  | none =>
    have HF := hid (show vfV (fieldVal s.data.toList kt.data.toList v.data.toList g) = .tuple #[tx [], .bool false] by unfold fieldVal; rw [hvo]; rfl)
    have HO := hid fun (e : Ending) (w' : World) (h : LoOut s.data.toList kt.data.toList v.data.toList w.heap.size e w') => (by unfold LoOut at h; rw [hvo] at h; exact h : ∃ a n c p, e = .returned (.tuple #[.slice a n c, .pointer p, .bool false]))
    clear hvo
    go_enter Tryz.func28, Tryz.ntmps28
    go_wp2_with (go_at_call 54; refine HG.out.mono ?_; rintro e w2 ⟨ho, hb2⟩; obtain ⟨a, n, c, p, rfl⟩ := HO.out _ _ ho; have HB2 := hid hb2; clear ho hb2)
    exact bodyPost_ret (v := .tuple #[tx [], .bool false]) (by simp [results, Tryz.results28, go_sem, *]) rfl ⟨by rw [HF.out], HB2.out⟩
  | some y =>
    obtain ⟨⟨x, k⟩, u⟩ := y
    obtain ⟨hko, hvi⟩ := valOf_some hvo
    obtain ⟨hx, hk⟩ := kindOf_ok hko
    obtain ⟨_, _, _, hkt, _⟩ := kindOf_text hko
    obtain ⟨hty, hsv, hs400⟩ := Wf.valIn_some hvi
    have hkk : tx k.text = .string kt := by rw [tx, show k.text = kt.data.toList from hkt]
    obtain ⟨xn, hxn⟩ : ∃ xn, x.length = xn := ⟨_, rfl⟩
    have HO := hid fun (e : Ending) (w' : World) (h : LoOut s.data.toList kt.data.toList v.data.toList w.heap.size e w') => (by unfold LoOut at h; rw [hvo] at h; dsimp only at h; rw [hxn] at h; exact h : ∃ b a c p, e = .returned (.tuple #[.slice a xn c, ptr p, .bool true]) ∧ ScSp w' w.heap.size b (.slice a xn c) x ∧ LV w' (fun z => w.heap.size ≤ z) u p)
    have HREC := hid fun (wz : World) (b : Nat) (vv : Value) (hsp : ScSp wz w.heap.size b vv x) => (by
      have h := l4Record x hx w.heap.size b vv k hk g wz wz (Below.refl _ _) hsp
      rw [hkk] at h
      exact h : Calls Tryz.prog 57 #[vv, .string kt, .int .i64 g] wz fun e w' => LrecOut x k g e ∧ Below wz.heap.size wz w')
    have HFV := hid (show fieldVal s.data.toList kt.data.toList v.data.toList g = Wf.fieldIn x k u g by unfold fieldVal; rw [hvo]; rfl)
    clear hkk hxn
    cases hrf : Wf.recFd x k g with
    | none =>
      have HF := hid (show vfV (fieldVal s.data.toList kt.data.toList v.data.toList g) = .tuple #[tx [], .bool false] by rw [HFV.out]; unfold Wf.fieldIn; rw [hrf]; rfl)
      have HO2 := hid fun (e : Ending) (h : LrecOut x k g e) => (by unfold LrecOut at h; rw [hrf] at h; exact h : ∃ (m : Int) (a b c : ByteArray), e = .returned (.tuple #[.agg #[.int .i64 m, .string a, .string b, .string c], .bool false]))
      clear hvo hko hvi hrf
      go_enter Tryz.func28, Tryz.ntmps28
      go_wp2_with (first | (go_at_call 57; refine (HREC.out _ _ _ HSP.out).mono ?_; rintro e w3 ⟨ho, hb3⟩; obtain ⟨m, fA, fB, fC, rfl⟩ := HO2.out _ ho; have HB3 := hid (below_join HB2.out hb3); clear ho hb3) | (go_at_call 54; refine HG.out.mono ?_; rintro e w2 ⟨ho, hb2⟩; obtain ⟨b, a, c, p, rfl, hsp, hlv⟩ := HO.out _ _ ho; have HSP := hid hsp; have HLV := hid hlv; have HB2 := hid hb2; clear ho hb2 hsp hlv))
      exact bodyPost_ret (v := .tuple #[tx [], .bool false]) (by simp [results, Tryz.results28, go_sem, *]) rfl ⟨by rw [HF.out], HB3.out.alloc HB3.out.size _⟩
    | some f =>
      obtain ⟨nm, t, rfl, hft, h82, hfz⟩ := Wf.recFd_some hrf
      obtain ⟨es, hes, rfl⟩ := Wf.rec_of hty hft h82
      obtain ⟨hfm, hfg, hff⟩ := Wf.fieldZ_some hfz
      have htx := (Wf.find_mem hft).1
      have h69 : t.sort ≠ 69 := by rw [h82]; decide
      have hfk := fd_kind ((hx.tys t htx).fds f hfm)
      have hesl : es.length ≤ 1000 := by
        have h1 := Wf.commas_len (l := (es.map Wf.tagged).map Wf.V.print) (by
          intro a ha
          obtain ⟨e, he, rfl⟩ := List.mem_map.1 ha
          obtain ⟨d, hd, rfl⟩ := List.mem_map.1 he
          rw [Wf.tagged_print]
          simp)
        have h2 : (Wf.recV es).print.length ≤ 400 := by rw [← hsv]; exact hs400
        rw [Wf.recV, Wf.print_rec] at h2
        simp at h1 h2
        omega
      have HFI := hid (show Wf.fieldIn x (.ref nm) (Wf.recV es) g = some (Wf.getEs x es f) by rw [Wf.fieldIn_rec hft h82, hfz]; rfl)
      have hfg2 : (f.tag : Int) = g := hfg
      have HFG := hid hfg2
      obtain ⟨FN, hFN⟩ : ∃ FN : ByteArray, (⟨f.name.toArray⟩ : ByteArray) = FN := ⟨_, rfl⟩
      obtain ⟨FK, hFK⟩ : ∃ FK : ByteArray, (⟨f.kind.text.toArray⟩ : ByteArray) = FK := ⟨_, rfl⟩
      obtain ⟨FG, hFG⟩ : ∃ FG : ByteArray, (⟨f.given.toArray⟩ : ByteArray) = FG := ⟨_, rfl⟩
      have HO2 := hid fun (e : Ending) (h : LrecOut x (.ref nm) g e) => (by unfold LrecOut at h; rw [hrf] at h; dsimp only at h; rw [hfg2] at h; simp only [tx, hFN, hFK, hFG] at h; exact h : e = .returned (.tuple #[.agg #[.int .i64 g, .string FN, .string FK, .string FG], .bool true]))
      have HAT := hid fun (W : World) (p : Nat) (wz : World) (hlv : LV W (fun z => w.heap.size ≤ z) (Wf.recV es) p) (hz : Below W.heap.size W wz) => lat es hesl g p _ W wz hlv hz
      have hfe : ∀ d : Wf.Fd × Wf.V, ((d.1.tag : Int) == g) = (d.1.tag == f.tag) := fun d => by
        rw [Bool.eq_iff_iff, beq_iff_eq, beq_iff_eq]; omega
      have hget : es.find? (fun d => (d.1.tag : Int) == g) = es.find? (fun d => d.1.tag == f.tag) := by
        congr 1; funext d; exact hfe d
      cases hfd : es.find? (fun d => (d.1.tag : Int) == g) with
      | none =>
        have HF := hid (show vfV (fieldVal s.data.toList kt.data.toList v.data.toList g) = .tuple #[tx (Wf.standF x f), .bool true] by rw [HFV.out, HFI.out]; unfold Wf.getEs; rw [← hget, hfd]; rfl)
        obtain ⟨O, hO⟩ : ∃ O : ByteArray, (⟨(Wf.standF x f).toArray⟩ : ByteArray) = O := ⟨_, rfl⟩
        have HST := hid fun (W : World) (b : Nat) (vv : Value) (wz : World) (hsp : ScSp W w.heap.size b vv x) (hz : Below W.heap.size W wz) => (by
          have h := l3stand x hx w.heap.size b vv f W wz hz hsp hfk (hx.refs t htx h69 f hfm)
          rw [hfg2] at h
          simp only [tx, hFN, hFK, hFG, hO] at h
          exact h : Calls Tryz.prog 51 #[vv, .agg #[.int .i64 g, .string FN, .string FK, .string FG]] wz fun e w' => e = .returned (.string O) ∧ Below wz.heap.size wz w')
        have HO3 := hid fun (W : World) (e : Ending) (h : AtOut es g W (fun z => w.heap.size ≤ z) e) => (by unfold AtOut at h; rw [hfd] at h; exact h : e = .returned (.tuple #[.pointer none, .bool false]))
        have HOO := hid hO
        clear hvo hko hvi hrf hty hsv hs400 hft h82 hfz hes hfm hfg hff htx h69 hfk hesl hfg2 hFN hFK hFG hfe hget hfd hO hx hk hkt
        go_enter Tryz.func28, Tryz.ntmps28
        go_wp2_with (first | (go_at_call 51; refine (HST.out _ _ _ _ HSP.out ((HB23.out.alloc HB23.out.size _).trans (HB4.out.mono (by have := HB23.out.size; simp; omega)))).mono ?_; rintro e w5 ⟨rfl, hb5⟩; have HB5 := hid hb5; clear hb5) | (go_at_call 58; refine (HAT.out _ _ _ HLV.out (HB23.out.alloc HB23.out.size _)).mono ?_; rintro e w4 ⟨ho, hb4⟩; obtain rfl := HO3.out _ _ ho; have HB4 := hid hb4; have q0 := hb4.cell (p := ⟨w3.heap.size, 0, none⟩) (by simp); have q1 := hb4.cell (p := ⟨w3.heap.size, 1, none⟩) (by simp); have q2 := hb4.cell (p := ⟨w3.heap.size, 2, none⟩) (by simp); have q3 := hb4.cell (p := ⟨w3.heap.size, 3, none⟩) (by simp); simp only [go_sem] at q0 q1 q2 q3; clear ho hb4) | (go_at_call 57; refine (HREC.out _ _ _ HSP.out).mono ?_; rintro e w3 ⟨ho, hb3⟩; obtain rfl := HO2.out _ ho; have HB23 := hid hb3; clear ho hb3) | (go_at_call 54; refine HG.out.mono ?_; rintro e w2 ⟨ho, hb2⟩; obtain ⟨b, a, c, p, rfl, hsp, hlv⟩ := HO.out _ _ ho; have HSP := hid hsp; have HLV := hid hlv; have HB2 := hid hb2; clear ho hb2 hsp hlv))
        exact bodyPost_ret (v := .tuple #[.string O, .bool true]) (by simp [results, Tryz.results28, go_sem, *]) rfl ⟨by rw [HF.out, tx, HOO.out], (by have b3 := below_join HB2.out HB23.out; have b4 := below_join (b3.alloc b3.size _) HB4.out; exact below_join b4 HB5.out)⟩
      | some d =>
        obtain ⟨dk, dv⟩ := d
        have HF := hid (show vfV (fieldVal s.data.toList kt.data.toList v.data.toList g) = .tuple #[tx dv.print, .bool true] by rw [HFV.out, HFI.out]; unfold Wf.getEs; rw [← hget, hfd]; rfl)
        have hdm := List.mem_of_find?_eq_some hfd
        have hdt := (hes.2 _ hdm).2.2.2.1
        have hdl := Wf.rec_part hdm
        dsimp only at hdt hdl
        rw [← hsv] at hdl
        obtain ⟨O, hO⟩ : ∃ O : ByteArray, (⟨dv.print.toArray⟩ : ByteArray) = O := ⟨_, rfl⟩
        have HOUT := hid fun (W : World) (p : Nat) (wz : World) (hlv : LV W (fun z => w.heap.size ≤ z) dv p) (hz : Below W.heap.size W wz) => (by
          have h := out 11 dk.kind dv hdt _ p W wz hlv hz (by omega)
          rw [tx, hO] at h
          exact h : Calls Tryz.prog 59 #[ptr p] wz fun e w' => e = .returned (.string O) ∧ Below wz.heap.size wz w')
        have HO3 := hid fun (W : World) (e : Ending) (h : AtOut es g W (fun z => w.heap.size ≤ z) e) => (by unfold AtOut at h; rw [hfd] at h; exact h : ∃ p, e = .returned (.tuple #[ptr p, .bool true]) ∧ LV W (fun z => w.heap.size ≤ z) dv p)
        have HOO := hid hO
        clear hvo hko hvi hrf hty hsv hs400 hft h82 hfz hes hfm hfg hff htx h69 hfk hesl hfg2 hFN hFK hFG hfe hget hfd hO hx hk hkt hdm hdt hdl
        go_enter Tryz.func28, Tryz.ntmps28
        go_wp2_with (first | (go_at_call 59; refine (HOUT.out _ _ _ HLD.out ((HB23.out.alloc HB23.out.size _).trans (HB4.out.mono (by have := HB23.out.size; simp; omega)))).mono ?_; rintro e w5 ⟨rfl, hb5⟩; have HB5 := hid hb5; clear hb5) | (go_at_call 58; refine (HAT.out _ _ _ HLV.out (HB23.out.alloc HB23.out.size _)).mono ?_; rintro e w4 ⟨ho, hb4⟩; obtain ⟨pd, rfl, hld⟩ := HO3.out _ _ ho; have HLD := hid hld; have HB4 := hid hb4; clear ho hb4 hld) | (go_at_call 57; refine (HREC.out _ _ _ HSP.out).mono ?_; rintro e w3 ⟨ho, hb3⟩; obtain rfl := HO2.out _ ho; have HB23 := hid hb3; clear ho hb3) | (go_at_call 54; refine HG.out.mono ?_; rintro e w2 ⟨ho, hb2⟩; obtain ⟨b, a, c, p, rfl, hsp, hlv⟩ := HO.out _ _ ho; have HSP := hid hsp; have HLV := hid hlv; have HB2 := hid hb2; clear ho hb2 hsp hlv))
        exact bodyPost_ret (v := .tuple #[.string O, .bool true]) (by simp [results, Tryz.results28, go_sem, *]) rfl ⟨by rw [HF.out, tx, HOO.out], (by have b3 := below_join HB2.out HB23.out; have b4 := below_join (b3.alloc b3.size _) HB4.out; exact below_join b4 HB5.out)⟩
end Go.Proofs.YtmdacedmjbiekaaGreatDoor

namespace Go.Proofs.YtmdacedmjbiekaaGreatDoor
open Go.ChangeShapes Go.WideShapes Go.ChangeAt Go.RowKit Go.Lib
set_option linter.unusedVariables false
set_option linter.unusedSimpArgs false
theorem kind_start (w : World) (SG BS NM : ByteArray) : (w.alloc (.cells #[.string SG, .string BS, .string NM] 57)).cell? ⟨w.heap.size, 0, none⟩ = some (.string SG) ∧ (w.alloc (.cells #[.string SG, .string BS, .string NM] 57)).cell? ⟨w.heap.size, 1, none⟩ = some (.string BS) ∧ (w.alloc (.cells #[.string SG, .string BS, .string NM] 57)).cell? ⟨w.heap.size, 2, none⟩ = some (.string NM) := by
  refine ⟨?_, ?_, ?_⟩ <;> simp [go_sem]
set_option maxRecDepth 20000 in
theorem record_no (sb : Nat) (SG BS NM : ByteArray) (w : World) (h : SG.toList.isEmpty = false ∨ (SG.toList.isEmpty = true ∧ (BS.toList == [64]) = false)) : Calls Tryz.prog 89 #[ptr sb, .agg #[.string SG, .string BS, .string NM]] w fun e w' => e = .returned (.tuple #[.pointer none, .bool false]) ∧ Below w.heap.size w w' := by
  rcases h with h | ⟨h, h2⟩
  all_goals
    go_enter Tryz.func89, Tryz.ntmps89
    go_wp2_with fail
    all_goals exact bodyPost_ret (v := .tuple #[.pointer none, .bool false]) (by simp [results, Tryz.results89, go_sem, *]) rfl ⟨rfl, (Below.refl _ _).alloc (Nat.le_refl _) _⟩
set_option maxRecDepth 20000 in
set_option maxHeartbeats 1000000 in
theorem record_yes (B : Bool) (sb mb tb q : Nat) (SG BS NM : ByteArray) (W w : World) (hW : Below W.heap.size W w) (hsb : sb < W.heap.size) (htb : tb < W.heap.size) (c1 : W.cell? ⟨sb, 1, none⟩ = some (.map (some mb))) (t0 : W.cell? ⟨tb, 0, none⟩ = some (.int .u8 q))
    (look : ∀ wz, Below W.heap.size W wz → (Instr.lookup 129 (.map (some mb)) (.string NM) false).run Tryz.prog wz = .ok (ptr tb) wz) (hSG : SG.toList.isEmpty = true) (hSG2 : SG.toList = []) (hBS : BS.toList = [64]) (hq : ((q : Int) == 82) = B) :
    Calls Tryz.prog 89 #[ptr sb, .agg #[.string SG, .string BS, .string NM]] w fun e w' => e = .returned (.tuple #[ptr tb, .bool B]) ∧ Below w.heap.size w w' := by
  have HLK := hid look
  obtain ⟨k0, k1, k2⟩ := kind_start w SG BS NM
  have hBS2 : (BS.toList == [64]) = true := by rw [hBS]; rfl
  have B3 := hid (hW.alloc hW.size (.cells #[.string SG, .string BS, .string NM] 57))
  have BW3 := hid ((Below.refl w.heap.size w).alloc (Nat.le_refl _) (.cells #[.string SG, .string BS, .string NM] 57))
  have l0 := HLK.out _ B3.out
  have l1 := HLK.out _ B3.out.drew
  have m1 := (B3.out.cell (p := ⟨sb, 1, none⟩) hsb).trans c1
  have u0 := (B3.out.cell (p := ⟨tb, 0, none⟩) htb).trans t0
  have hsw : sb < w.heap.size := Nat.lt_of_lt_of_le hsb hW.size
  have htw : tb < w.heap.size := Nat.lt_of_lt_of_le htb hW.size
  clear look c1 t0 hBS
  cases B
  all_goals
    go_enter Tryz.func89, Tryz.ntmps89
    go_wp2_with fail
    obtain ⟨W3, hW3⟩ : ∃ W3, w.alloc (.cells #[.string SG, .string BS, .string NM] 57) = W3 := ⟨_, rfl⟩
    rw [hW3] at k0 k1 k2 B3 BW3 l0 l1 m1 u0
    rw [hW3]
    have hs3 : w.heap.size < W3.heap.size := by rw [← hW3]; simp
    have hsb3 : sb < W3.heap.size := by omega
    have htb3 : tb < W3.heap.size := by omega
    clear hW3
    go_region_held3 (fun w' => w'.cell? ⟨sb, 1, none⟩ = some (.map (some mb)) ∧ w'.cell? ⟨w.heap.size, 2, none⟩ = some (.string NM) ∧ (Instr.lookup 129 (.map (some mb)) (.string NM) false).run Tryz.prog w' = .ok (ptr tb) w') (first | exact ⟨m1, k2, l1⟩ | go_keep) (fail)
    all_goals (go_wp2_with fail)
    all_goals (try go_quiet (fail))
    all_goals (go_wp2_with fail)
    all_goals exact bodyPost_ret (v := .tuple #[ptr tb, .bool _]) (by simp [results, Tryz.results89, go_sem, *]) rfl ⟨rfl, by first | exact bdn BW3.out.drew _ | exact bdn BW3.out _ | exact BW3.out.drew⟩
/-- the program's record: the type of a kind, and whether it is a record -/
theorem record (x : Wf.Sc) (hx : Wf.ScOk x) (lo sb : Nat) (k : Wf.K) (hk : KOk x k) (W w : World) (hsc : ScL W lo sb x) (hW : Below W.heap.size W w) : Calls Tryz.prog 89 #[ptr sb, kV k] w fun e w' => (match Wf.recTy x k with
    | some t => ∃ tb, e = .returned (.tuple #[ptr tb, .bool true]) ∧ TyL W lo tb t
    | none => ∃ p, e = .returned (.tuple #[.pointer p, .bool false])) ∧ Below w.heap.size w w' := by
  cases k with
  | ref nm =>
    obtain ⟨mb, hsz, hc1, hnm⟩ := hsc.named
    obtain ⟨t, ht⟩ := Wf.hasRef_ref hk.ref
    have hnl : nm.length ≤ 12 := by have := kname_len (.ref nm); have h2 := hk.len; simp only [Wf.K.name] at this; omega
    rcases hnm ⟨nm.toArray⟩ (by rw [tx_size]; omega) with ⟨h0, _⟩ | ⟨t', b, h1, hT, hl⟩
    · rw [show (⟨nm.toArray⟩ : ByteArray).data.toList = nm from rfl, ht] at h0; cases h0
    rw [show (⟨nm.toArray⟩ : ByteArray).data.toList = nm from rfl, ht] at h1
    obtain rfl : t = t' := Option.some.inj h1
    have hto := hx.tys t (Wf.find_mem ht).1
    have hq : ((t.sort.toNat : Int) == 82) = decide (t.sort = 82) := by
      rcases hto.sort with h | h | h <;> rw [h] <;> rfl
    refine (record_yes (decide (t.sort = 82)) sb mb b t.sort.toNat ⟨#[]⟩ ⟨#[64]⟩ ⟨nm.toArray⟩ W w hW hsz hT.sort.1 hc1 hT.sort.2 hl (by rw [ByteArray.toList_eq]; rfl) (by rw [ByteArray.toList_eq]) (by rw [ByteArray.toList_eq]) hq).mono fun e w' ⟨h1, h2⟩ => ⟨?_, h2⟩
    have hr : Wf.recTy x (.ref nm) = if t.sort = 82 then some t else none := by simp only [Wf.recTy, ht, Option.bind_some]
    rw [hr]
    by_cases h82 : t.sort = 82
    · rw [if_pos h82]
      rw [decide_eq_true h82] at h1
      exact ⟨b, h1, hT⟩
    · rw [if_neg h82]
      rw [decide_eq_false h82] at h1
      exact ⟨_, h1⟩
  | num => exact (record_no sb ⟨#[]⟩ ⟨#[110]⟩ ⟨#[]⟩ w (.inr ⟨by rw [ByteArray.toList_eq]; rfl, by rw [ByteArray.toList_eq]; rfl⟩)).mono fun e w' ⟨h1, h2⟩ => ⟨⟨_, h1⟩, h2⟩
  | txt => exact (record_no sb ⟨#[]⟩ ⟨#[116]⟩ ⟨#[]⟩ w (.inr ⟨by rw [ByteArray.toList_eq]; rfl, by rw [ByteArray.toList_eq]; rfl⟩)).mono fun e w' ⟨h1, h2⟩ => ⟨⟨_, h1⟩, h2⟩
  | flag => exact (record_no sb ⟨#[]⟩ ⟨#[102]⟩ ⟨#[]⟩ w (.inr ⟨by rw [ByteArray.toList_eq]; rfl, by rw [ByteArray.toList_eq]; rfl⟩)).mono fun e w' ⟨h1, h2⟩ => ⟨⟨_, h1⟩, h2⟩
  | list k => exact (record_no sb ⟨(Wf.K.signs (.list k)).toArray⟩ ⟨(Wf.K.base (.list k)).toArray⟩ ⟨(Wf.K.name (.list k)).toArray⟩ w (.inl (by rw [ByteArray.toList_eq]; rfl))).mono fun e w' ⟨h1, h2⟩ => ⟨⟨_, h1⟩, h2⟩
  | opt k => exact (record_no sb ⟨(Wf.K.signs (.opt k)).toArray⟩ ⟨(Wf.K.base (.opt k)).toArray⟩ ⟨(Wf.K.name (.opt k)).toArray⟩ w (.inl (by rw [ByteArray.toList_eq]; rfl))).mono fun e w' ⟨h1, h2⟩ => ⟨⟨_, h1⟩, h2⟩
end Go.Proofs.YtmdacedmjbiekaaGreatDoor

namespace Go.Proofs.YtmdacedmjbiekaaGreatDoor
open Go.ChangeShapes Go.WideShapes Go.ChangeAt Go.RowKit Go.Lib
set_option linter.unusedVariables false
set_option linter.unusedSimpArgs false
def RfdNo (e : Ending) : Prop := e = .returned (.tuple #[.pointer none, .agg #[.int .u8 0, .string ⟨#[]⟩, .int .i64 0, .slice none 0 0], .bool false])
/-- what recordField gives -/
def RfdOut (l kt s : List UInt8) (g : Int) (lo : Nat) (e : Ending) (w' : World) : Prop := match valOf l kt s with
  | some y => (match Wf.recFd y.1.1 y.1.2 g with
    | some f => ∃ fb o cs, e = .returned (.tuple #[.pointer (some ⟨fb, o, none⟩), .agg cs.toArray, .bool true]) ∧ FdAt w' fb o 82 f ∧ VC w' (fun b => lo ≤ b) y.2 cs
    | none => RfdNo e)
  | none => RfdNo e
theorem TyL.rowLo {w : World} {lo b : Nat} {t : Wf.Ty} (h : TyL w lo b t) : ∃ fb a c, lo ≤ fb ∧ b < w.heap.size ∧ w.cell? ⟨b, 2, none⟩ = some (.slice a t.fields.length c) ∧ t.fields.length ≤ c ∧ c ≤ maxLen ∧ ∀ i (hi : i < t.fields.length), ∃ o, a = some ⟨fb, o, none⟩ ∧ FdAt w fb (o + i * 6) t.sort t.fields[i] := by
  obtain ⟨fb, a, c, line, _, hlo, hb, _, _, c2, _, hr⟩ := h
  have hl : t.fields.length ≤ c ∧ c ≤ maxLen := by
    obtain ⟨a', cap', e1, e2, e3, _⟩ := hr
    simp only [Value.slice.injEq] at e1
    rw [List.length_map] at e2
    omega
  refine ⟨fb, a, c, hlo, hb, c2, hl.1, hl.2, fun i hi => ?_⟩
  obtain ⟨o, ha, hfb, _, _, hcell⟩ := hr.get (i := i) (by rw [List.length_map]; exact hi)
  have e0 : (t.fields.map (fdC t.sort))[i]'(by rw [List.length_map]; exact hi) = fdC t.sort t.fields[i] := by rw [List.getElem_map]
  rw [e0] at hcell
  refine ⟨o, ha, hfb, fun j u hu => hcell j u ?_ hu⟩
  have := (List.getElem?_eq_some_iff.1 hu).1
  rw [fdC_len] at this
  exact this
/-- what field gives: its block lies where the type's does -/
def FieldLo (W : World) (t : Wf.Ty) (g : Int) (lo : Nat) (e : Ending) : Prop := match fieldI t g with
  | some f => ∃ fb o, e = .returned (.pointer (some ⟨fb, o, none⟩)) ∧ FdAt W fb o t.sort f ∧ lo ≤ fb
  | none => e = .returned (.pointer none)
set_option maxRecDepth 20000 in
set_option maxHeartbeats 1000000 in
theorem fieldLo (t : Wf.Ty) (ht : t.fields.length ≤ 1000) (g : Int) (lo tb : Nat) (W w : World) (hW : Below W.heap.size W w) (hT : TyL W lo tb t) : Calls Tryz.prog 46 #[ptr tb, .int .i64 g] w fun e w' => FieldLo W t g lo e ∧ w = w' := by
  obtain ⟨fb, a, c, hlo, hb, c2, hnc, hcm, hrow⟩ := hT.rowLo
  have HROW := hid hrow
  obtain ⟨n, hn⟩ : ∃ n, t.fields.length = n := ⟨_, rfl⟩
  have HN := hid hn
  rw [hn] at ht c2 hnc
  have y2 := (hW.cell (p := ⟨tb, 2, none⟩) hb).trans c2
  have HW := hid hW
  clear hrow hn c2 hT
  go_enter Tryz.func46, Tryz.ntmps46
  go_wp2_with fail
  go_loop [11] (fun v => ∃ k : Nat, k ≤ n ∧ v = .int .i64 k ∧ Hid (∀ j (hj : j < t.fields.length), j < k → ((t.fields[j]).tag : Int) ≠ g)) (fun v => n - (RowKit.intOf v).toNat)
  case atStart => exact ⟨0, Nat.zero_le _, rfl, hid fun j hj h => by omega⟩
  case round =>
    obtain ⟨k, hk, rfl, hno⟩ := hrel
    by_cases hlt : k < n
    · have hkx : k < t.fields.length := by rw [HN.out]; exact hlt
      obtain ⟨o, rfl, hfd⟩ := HROW.out k hkx
      have HFD := hid hfd
      have e0 : (fdC t.sort t.fields[k])[0]? = some (.int .i64 (t.fields[k]).tag) := by
        obtain ⟨_, _, _, _, h⟩ := fdC_form t.sort t.fields[k]
        rw [h]; rfl
      have z0 : w.cell? ⟨fb, o + k * 6, none⟩ = some (.int .i64 (t.fields[k]).tag) := (HW.out.cell (p := ⟨fb, o + k * 6, none⟩) hfd.1).trans (hfd.2 0 _ e0)
      obtain ⟨G, hG⟩ : ∃ G, (t.fields[k]).tag = G := ⟨_, rfl⟩
      rw [hG] at z0
      have HG := hid hG
      clear hfd e0 hG
      cases hq : ((G : Int) == g) with
      | true =>
        have HF := hid (show fieldI t g = some t.fields[k] from fieldI_at hkx hno.out (by rw [HG.out]; simpa using hq))
        have hge : (G : Int) = g := by simpa using hq
        subst hge
        clear hq
        go_wp2_with fail
        go_ret
        exact ⟨by unfold FieldLo; rw [HF.out]; exact ⟨fb, o + k * 6, rfl, HFD.out, hlo⟩, rfl⟩
      | false =>
        have hne : Hid ((G : Int) ≠ g) := hid (by simpa using hq)
        go_wp2_with fail
        go_round
        case rel => exact ⟨k + 1, by omega, by go_num, hid fun j hj hjk => by
          by_cases hj2 : j = k
          · subst hj2; rw [HG.out]; exact hne.out
          · exact hno.out j hj (by omega)⟩
        case measure => simp [RowKit.intOf]; omega
    · have hkn : k = n := by omega
      subst hkn
      have HF := hid (show fieldI t g = none from fieldI_not fun j hj => hno.out j hj (by rw [← HN.out]; exact hj))
      go_wp2_with fail
      go_ret
      exact ⟨by unfold FieldLo; rw [HF.out]; rfl, rfl⟩
theorem FdAt.over {w w' : World} {fb o lo : Nat} {q : UInt8} {f : Wf.Fd} (h : FdAt w fb o q f) (hlo : lo ≤ fb) (hb : Over lo w w') : FdAt w' fb o q f :=
  ⟨Nat.lt_of_lt_of_le h.1 hb.size, fun j u hu => (World.cell?_of_block (w := w) (w' := w') (a := ⟨fb, o + j, none⟩) (hb.block fb hlo h.1)).trans (h.2 j u hu)⟩
set_option maxRecDepth 20000 in
set_option maxHeartbeats 4000000 in
theorem recordField (s kt v : ByteArray) (g : Int) (m : Int) (w : World) (hm : ML m w) (hs : s.size ≤ 1048576) (hkt : kt.size ≤ 1048576) (hv : v.size ≤ 1048576) : Calls Tryz.prog 60 #[.string s, .string kt, .string v, .int .i64 g] w fun e w' => RfdOut s.data.toList kt.data.toList v.data.toList g w.heap.size e w' ∧ Below w.heap.size w w' := by
  have W0 := (Below.refl w.heap.size w).alloc (Nat.le_refl _) (.cells #[.int .u8 0, .string ⟨#[]⟩, .int .i64 0, .slice none 0 0] 92)
  have HG := hid (given s kt v m _ (hm.below W0) hs hkt hv)
  clear hm W0
  cases hvo : valOf s.data.toList kt.data.toList v.data.toList with
  | none =>
    have HO := hid fun lo e w' (h : GivOut s.data.toList kt.data.toList v.data.toList lo e w') => (by unfold GivOut at h; rw [hvo] at h; exact h : ∃ p a b c, e = .returned (.tuple #[.pointer p, .agg #[.string a, .string b, .string c], .agg #[.int .u8 0, .string ⟨#[]⟩, .int .i64 0, .slice none 0 0], .bool false]))
    have HD := hid fun (e : Ending) (w' : World) (h : RfdNo e) => (show RfdOut s.data.toList kt.data.toList v.data.toList g w.heap.size e w' by unfold RfdOut; rw [hvo]; exact h)
    clear hvo
    go_enter Tryz.func60, Tryz.ntmps60
    go_wp2_with (go_at_call 52; refine HG.out.mono ?_; rintro e w2 ⟨ho, hb2⟩; obtain ⟨p, a, b, c, rfl⟩ := HO.out _ _ _ ho; have Z2 := hid ((zero_new w).below hb2 (by simp)); have HB2 := hid (below_join ((Below.refl w.heap.size w).alloc (Nat.le_refl _) _) hb2); obtain ⟨zl, zr0, zr1, zr2, zr3, zf0, zf1, zf2, zf3⟩ := Z2.out; clear ho hb2)
    all_goals exact bodyPost_ret (v := .tuple #[.pointer none, .agg #[.int .u8 0, .string ⟨#[]⟩, .int .i64 0, .slice none 0 0], .bool false]) (by simp [results, Tryz.results60, go_sem, *]) rfl ⟨HD.out _ _ rfl, by have B := HB2.out; have hB := B.size; repeat (first | with_reducible exact B | with_reducible refine Below.drew ?_ | with_reducible refine Below.setCell ?_ (by first | (simp; done) | (simp; omega)) _ | with_reducible refine Below.alloc ?_ (by first | exact B.size | (simp; omega)) _)⟩
  | some y =>
    obtain ⟨⟨x, k⟩, u⟩ := y
    obtain ⟨hko, hvi⟩ := valOf_some hvo
    obtain ⟨hx, hk⟩ := kindOf_ok hko
    obtain ⟨SG, hSG⟩ : ∃ SG : ByteArray, (⟨k.signs.toArray⟩ : ByteArray) = SG := ⟨_, rfl⟩
    obtain ⟨BS, hBS⟩ : ∃ BS : ByteArray, (⟨k.base.toArray⟩ : ByteArray) = BS := ⟨_, rfl⟩
    obtain ⟨NM, hNM⟩ : ∃ NM : ByteArray, (⟨k.name.toArray⟩ : ByteArray) = NM := ⟨_, rfl⟩
    have hkv : kV k = .agg #[.string SG, .string BS, .string NM] := by simp only [kV, tx, hSG, hBS, hNM]
    have HO := hid fun lo e w' (h : GivOut s.data.toList kt.data.toList v.data.toList lo e w') => (by unfold GivOut at h; rw [hvo] at h; dsimp only at h; rw [hkv] at h; exact h : ∃ sb cs, e = .returned (.tuple #[ptr sb, .agg #[.string SG, .string BS, .string NM], .agg cs.toArray, .bool true]) ∧ ScL w' lo sb x ∧ VC w' (fun b => lo ≤ b) u cs)
    cases hrt : Wf.recTy x k with
    | none =>
      have HD := hid fun (e : Ending) (w' : World) (h : RfdNo e) => (show RfdOut s.data.toList kt.data.toList v.data.toList g w.heap.size e w' by unfold RfdOut; rw [hvo]; dsimp only; rw [show Wf.recFd x k g = none by unfold Wf.recFd; rw [hrt]; rfl]; exact h)
      have HR := hid fun (lo sb : Nat) (W wz : World) (hsc : ScL W lo sb x) (hz : Below W.heap.size W wz) => (by
        have h := record x hx lo sb k hk W wz hsc hz
        rw [hrt, hkv] at h
        exact h : Calls Tryz.prog 89 #[ptr sb, .agg #[.string SG, .string BS, .string NM]] wz fun e w' => (∃ p, e = .returned (.tuple #[.pointer p, .bool false])) ∧ Below wz.heap.size wz w')
      clear hvo hko hvi hSG hBS hNM hkv hrt
      go_enter Tryz.func60, Tryz.ntmps60
      go_wp2_with (first | (go_at_call 89; refine (HR.out _ _ _ _ HSC.out (by first | exact ((Below.refl _ _).alloc (Nat.le_refl _) _).alloc (by simp) _)).mono ?_; rintro e w3 ⟨⟨p, rfl⟩, hb3⟩; have HB3 := hid (below_join ((HB2.out.alloc HB2.out.size _).alloc (by have := HB2.out.size; simp; omega) _) hb3); obtain ⟨zl, zr0, zr1, zr2, zr3, zf0, zf1, zf2, zf3⟩ := (Z2.out.below (((Below.refl w2.heap.size w2).alloc (Nat.le_refl _) _).alloc (by simp) _) Z2.out.lt).below hb3 (by have := Z2.out.lt; simp; omega); clear hb3) | (go_at_call 52; refine HG.out.mono ?_; rintro e w2 ⟨ho, hb2⟩; obtain ⟨sb, cs, rfl, hsc, hvc⟩ := HO.out _ _ _ ho; obtain ⟨q, gg, n, d, T, sa, rfl⟩ := hvc.cells4; have HSC := hid hsc; have Z2 := hid ((zero_new w).below hb2 (by simp)); have HB2 := hid (below_join ((Below.refl w.heap.size w).alloc (Nat.le_refl _) _) hb2); clear ho hb2 hsc hvc))
      all_goals exact bodyPost_ret (v := .tuple #[.pointer none, .agg #[.int .u8 0, .string ⟨#[]⟩, .int .i64 0, .slice none 0 0], .bool false]) (by simp [results, Tryz.results60, go_sem, *]) rfl ⟨HD.out _ _ rfl, by have B := HB3.out; have hB := B.size; repeat (first | with_reducible exact B | with_reducible refine Below.drew ?_ | with_reducible refine Below.setCell ?_ (by first | (simp; done) | (simp; omega)) _ | with_reducible refine Below.alloc ?_ (by first | exact B.size | (simp; omega)) _)⟩
    | some t =>
      obtain ⟨nm, rfl, hft, h82⟩ := Wf.recTy_some hrt
      have htl : t.fields.length ≤ 1000 := by have := (hx.tys t (Wf.find_mem hft).1).len; omega
      have hrd : Wf.recFd x (.ref nm) g = fieldI t g := by unfold Wf.recFd; rw [hrt]; rfl
      have HR := hid fun (lo sb : Nat) (W wz : World) (hsc : ScL W lo sb x) (hz : Below W.heap.size W wz) => (by
        have h := record x hx lo sb (.ref nm) hk W wz hsc hz
        rw [hrt, hkv] at h
        exact h : Calls Tryz.prog 89 #[ptr sb, .agg #[.string SG, .string BS, .string NM]] wz fun e w' => (∃ tb, e = .returned (.tuple #[ptr tb, .bool true]) ∧ TyL W lo tb t) ∧ Below wz.heap.size wz w')
      have HF := hid fun (lo tb : Nat) (W wz : World) (hT : TyL W lo tb t) (hz : Below W.heap.size W wz) => field t htl g lo tb W wz hz hT
      cases hfi : fieldI t g with
      | none =>
        have HFI := hid hfi
        have HD := hid fun (e : Ending) (w' : World) (h : RfdNo e) => (show RfdOut s.data.toList kt.data.toList v.data.toList g w.heap.size e w' by unfold RfdOut; rw [hvo]; dsimp only; rw [hrd, hfi]; exact h)
        clear hvo hko hvi hSG hBS hNM hkv hrt hfi hrd
        go_enter Tryz.func60, Tryz.ntmps60
        go_wp2_with (first | (go_at_call 46; refine (HF.out _ _ _ _ HT.out HB23.out).mono ?_; rintro e w4 ⟨ho, rfl⟩; obtain rfl := ho.no HFI.out; clear ho) | (go_at_call 89; refine (HR.out _ _ _ _ HSC.out (by first | exact ((Below.refl _ _).alloc (Nat.le_refl _) _).alloc (by simp) _)).mono ?_; rintro e w3 ⟨⟨tb, rfl, hT⟩, hb3⟩; have HT := hid hT; have HB23 := hid (below_join (((Below.refl w2.heap.size w2).alloc (Nat.le_refl _) _).alloc (by simp) _) hb3); have HB3 := hid (below_join ((HB2.out.alloc HB2.out.size _).alloc (by have := HB2.out.size; simp; omega) _) hb3); obtain ⟨zl, zr0, zr1, zr2, zr3, zf0, zf1, zf2, zf3⟩ := (Z2.out.below (((Below.refl w2.heap.size w2).alloc (Nat.le_refl _) _).alloc (by simp) _) Z2.out.lt).below hb3 (by have := Z2.out.lt; simp; omega); clear hb3 hT) | (go_at_call 52; refine HG.out.mono ?_; rintro e w2 ⟨ho, hb2⟩; obtain ⟨sb, cs, rfl, hsc, hvc⟩ := HO.out _ _ _ ho; obtain ⟨q, gg, n, d, T, sa, rfl⟩ := hvc.cells4; have HSC := hid hsc; have Z2 := hid ((zero_new w).below hb2 (by simp)); have HB2 := hid (below_join ((Below.refl w.heap.size w).alloc (Nat.le_refl _) _) hb2); clear ho hb2 hsc hvc))
        all_goals exact bodyPost_ret (v := .tuple #[.pointer none, .agg #[.int .u8 0, .string ⟨#[]⟩, .int .i64 0, .slice none 0 0], .bool false]) (by simp [results, Tryz.results60, go_sem, *]) rfl ⟨HD.out _ _ rfl, by have B := HB3.out; have hB := B.size; repeat (first | with_reducible exact B | with_reducible refine Below.drew ?_ | with_reducible refine Below.setCell ?_ (by first | (simp; done) | (simp; omega)) _ | with_reducible refine Below.alloc ?_ (by first | exact B.size | (simp; omega)) _)⟩
      | some f =>
        have HFI := hid hfi
        have H82 := hid h82
        have HF2 := hid fun (lo tb : Nat) (wz : World) (hT : TyL wz lo tb t) => (by
          refine (fieldLo t htl g lo tb wz wz (Below.refl _ _) hT).mono (R' := fun e w' => (∃ fb o, e = .returned (.pointer (some ⟨fb, o, none⟩)) ∧ FdAt wz fb o 82 f ∧ lo ≤ fb) ∧ wz = w') fun e w' ⟨h1, h2⟩ => ⟨?_, h2⟩
          unfold FieldLo at h1
          rw [hfi, h82] at h1
          exact h1 : Calls Tryz.prog 46 #[ptr tb, .int .i64 g] wz fun e w' => (∃ fb o, e = .returned (.pointer (some ⟨fb, o, none⟩)) ∧ FdAt wz fb o 82 f ∧ lo ≤ fb) ∧ wz = w')
        have HD := hid fun (e : Ending) (w' : World) (h : ∃ fb o cs, e = .returned (.tuple #[.pointer (some ⟨fb, o, none⟩), .agg cs.toArray, .bool true]) ∧ FdAt w' fb o 82 f ∧ VC w' (fun b => w.heap.size ≤ b) u cs) => (show RfdOut s.data.toList kt.data.toList v.data.toList g w.heap.size e w' by unfold RfdOut; rw [hvo]; dsimp only; rw [hrd, hfi]; exact h)
        clear hvo hko hvi hSG hBS hNM hkv hrt hfi hrd h82
        go_enter Tryz.func60, Tryz.ntmps60
        go_wp2_with (first | (go_at_call 46; refine (HF.out _ _ _ _ HT.out HB23.out).mono ?_; rintro e w4 ⟨ho, rfl⟩; obtain ⟨fb, o, rfl, hfd⟩ := ho.yes HFI.out; have HFD := hid hfd; clear ho hfd) | (go_at_call 89; refine (HR.out _ _ _ _ HSC.out (by first | exact ((Below.refl _ _).alloc (Nat.le_refl _) _).alloc (by simp) _)).mono ?_; rintro e w3 ⟨⟨tb, rfl, hT⟩, hb3⟩; have HT := hid hT; have x0 : w3.cell? ⟨w2.heap.size + 1, 0, none⟩ = some (.int .u8 q) := (hb3.cell (p := ⟨w2.heap.size + 1, 0, none⟩) (by simp)).trans (by simp); have x1 : w3.cell? ⟨w2.heap.size + 1, 1, none⟩ = some (.string T) := (hb3.cell (p := ⟨w2.heap.size + 1, 1, none⟩) (by simp)).trans (by simp); have x2 : w3.cell? ⟨w2.heap.size + 1, 2, none⟩ = some (.int .i64 gg) := (hb3.cell (p := ⟨w2.heap.size + 1, 2, none⟩) (by simp)).trans (by simp); have x3 : w3.cell? ⟨w2.heap.size + 1, 3, none⟩ = some (.slice sa n d) := (hb3.cell (p := ⟨w2.heap.size + 1, 3, none⟩) (by simp)).trans (by simp); have hl3 : w2.heap.size + 1 < w3.heap.size := Nat.lt_of_lt_of_le (by simp) hb3.size; have HB23 := hid (below_join (((Below.refl w2.heap.size w2).alloc (Nat.le_refl _) _).alloc (by simp) _) hb3); have HB3 := hid (below_join ((HB2.out.alloc HB2.out.size _).alloc (by have := HB2.out.size; simp; omega) _) hb3); obtain ⟨zl, zr0, zr1, zr2, zr3, zf0, zf1, zf2, zf3⟩ := (Z2.out.below (((Below.refl w2.heap.size w2).alloc (Nat.le_refl _) _).alloc (by simp) _) Z2.out.lt).below hb3 (by have := Z2.out.lt; simp; omega); clear hb3 hT) | (go_at_call 52; refine HG.out.mono ?_; rintro e w2 ⟨ho, hb2⟩; obtain ⟨sb, cs, rfl, hsc, hvc⟩ := HO.out _ _ _ ho; obtain ⟨q, gg, n, d, T, sa, rfl⟩ := hvc.cells4; have HSC := hid hsc; have HVC := hid hvc; have Z2 := hid ((zero_new w).below hb2 (by simp)); have HB2 := hid (below_join ((Below.refl w.heap.size w).alloc (Nat.le_refl _) _) hb2); clear ho hb2 hsc hvc))
        have HT3 := hid (HT.out.below HB23.out)
        have HTO := hid fun (wz : World) (h : Over (w.heap.size + 1) w3 wz) => HF2.out _ tb wz (TyL.keep HT3.out h.size (fun z h1 h2 => h.block z (by simpa using h1) h2))
        have hnz : ¬ (w2.heap.size + 1 = w.heap.size) := by have := Z2.out.lt; omega
        have hnz2 : ¬ (w.heap.size = w2.heap.size + 1) := by have := Z2.out.lt; omega
        go_region_law (((try go_simp); go_at_call 46; refine (HTO.out _ (by repeat (first | with_reducible exact Over.refl _ _ | with_reducible refine Over.drew ?_ | with_reducible refine Over.setCell ?_ (by simp) _))).mono ?_; rintro e w5 ⟨⟨fb5, o5, rfl, hfd5, hlo5⟩, rfl⟩; have HFD5 := hid hfd5; have HLO5 := hid hlo5; clear hfd5 hlo5))
        all_goals (go_wp2_with fail)
        all_goals exact bodyPost_ret (v := .tuple #[.pointer (some ⟨fb5, o5, none⟩), .agg #[.int .u8 q, .string T, .int .i64 gg, .slice sa n d], .bool true]) (by simp [results, Tryz.results60, go_sem, *]) rfl (by
          have hR : ∀ WF, Over (w.heap.size + 1) w3 WF → FdAt WF fb5 o5 82 f → RfdOut s.data.toList kt.data.toList v.data.toList g w.heap.size (.returned (.tuple #[.pointer (some ⟨fb5, o5, none⟩), .agg #[.int .u8 q, .string T, .int .i64 gg, .slice sa n d], .bool true])) WF := fun WF hO hF => HD.out _ _ ⟨fb5, o5, [.int .u8 q, .string T, .int .i64 gg, .slice sa n d], rfl, hF, VC.keep (fun b hp hlt => ⟨Nat.le_trans (by simp) hp, (hO.block b (by simpa using hp) (Nat.lt_of_lt_of_le hlt HB23.out.size)).trans (HB23.out.block b hlt)⟩) (Nat.le_trans HB23.out.size hO.size) _ _ HVC.out⟩
          refine ⟨hR _ ?_ (FdAt.over HFD5.out HLO5.out ?_), ?_⟩
          · repeat (first | with_reducible exact Over.refl _ _ | with_reducible refine Over.drew ?_ | with_reducible refine Over.setCell ?_ (by simp) _)
          · (repeat (first | with_reducible exact Over.refl _ _ | with_reducible refine Over.drew ?_ | with_reducible refine Over.setCell ?_ (by simp) _))
            all_goals exact ⟨Nat.le_refl _, fun _ _ _ => rfl⟩
          · have B := HB3.out
            repeat (first | with_reducible exact B | with_reducible refine Below.drew ?_ | with_reducible refine Below.setCell ?_ (by first | (simp; done) | (simp; omega)) _))
end Go.Proofs.YtmdacedmjbiekaaGreatDoor

namespace Go.Proofs.YtmdacedmjbiekaaGreatDoor
open Go.ChangeShapes Go.WideShapes Go.ChangeAt Go.RowKit Go.Lib
set_option linter.unusedVariables false
set_option linter.unusedSimpArgs false
theorem es_len {es : List (Wf.Fd × Wf.V)} (h : (Wf.recV es).print.length ≤ 400) : es.length ≤ 1000 := by
  have h1 := Wf.commas_len (l := (es.map Wf.tagged).map Wf.V.print) (by
    intro a ha
    obtain ⟨e, he, rfl⟩ := List.mem_map.1 ha
    obtain ⟨d, hd, rfl⟩ := List.mem_map.1 he
    rw [Wf.tagged_print]
    simp)
  rw [Wf.recV, Wf.print_rec] at h
  simp at h1 h
  omega
set_option maxRecDepth 20000 in
set_option maxHeartbeats 4000000 in
theorem valueField_i (s kt v : ByteArray) (g : Int) (m : Int) (w : World) (hm : ML m w) (hs : s.size ≤ 1048576) (hkt : kt.size ≤ 1048576) (hv : v.size ≤ 1048576) : Calls Tryz.prog 29 #[.string s, .string kt, .string v, .int .i64 g] w fun e w' => e = .returned (vfV (fieldVal s.data.toList kt.data.toList v.data.toList g)) ∧ Below w.heap.size w w' := by
  have HG := hid (recordField s kt v g m w hm hs hkt hv)
  have HM := hid hm
  have HRS := hid fun (wz : World) (h : ML m wz) => readSchema s m wz h hs
  clear hm
  have NO : (valOf s.data.toList kt.data.toList v.data.toList = none ∨ ∃ y, valOf s.data.toList kt.data.toList v.data.toList = some y ∧ Wf.recFd y.1.1 y.1.2 g = none) → Calls Tryz.prog 29 #[.string s, .string kt, .string v, .int .i64 g] w fun e w' => e = .returned (vfV (fieldVal s.data.toList kt.data.toList v.data.toList g)) ∧ Below w.heap.size w w' := fun hno => by
    have HF := hid (show vfV (fieldVal s.data.toList kt.data.toList v.data.toList g) = .tuple #[tx [], .bool false] by
      unfold fieldVal
      rcases hno with h | ⟨y, h, h2⟩
      · rw [h]; rfl
      · rw [h]
        simp only [Option.bind_some, Wf.fieldIn, h2]
        rfl)
    have HO := hid fun (e : Ending) (w' : World) (h : RfdOut s.data.toList kt.data.toList v.data.toList g w.heap.size e w') => (show RfdNo e by
      unfold RfdOut at h
      rcases hno with h1 | ⟨y, h1, h2⟩
      · rw [h1] at h; exact h
      · rw [h1] at h; dsimp only at h; rw [h2] at h; exact h)
    clear hno
    go_enter Tryz.func29, Tryz.ntmps29
    go_wp2_with (go_at_call 60; refine HG.out.mono ?_; rintro e w2 ⟨ho, hb2⟩; obtain rfl := HO.out _ _ ho; have HB2 := hid hb2; clear ho hb2)
    exact bodyPost_ret (v := .tuple #[tx [], .bool false]) (by simp [results, Tryz.results29, go_sem, *]) rfl ⟨by rw [HF.out], HB2.out.alloc HB2.out.size _⟩
  cases hvo : valOf s.data.toList kt.data.toList v.data.toList with
  | none => exact NO (.inl hvo)
  | some y =>
    obtain ⟨⟨x, k⟩, u⟩ := y
    cases hrf : Wf.recFd x k g with
    | none => exact NO (.inr ⟨_, hvo, hrf⟩)
    | some f =>
      clear NO
      obtain ⟨hko, hvi⟩ := valOf_some hvo
      obtain ⟨hx, hk⟩ := kindOf_ok hko
      obtain ⟨hsc, _, _, _, _⟩ := kindOf_text hko
      obtain ⟨hty, hsv, hs400⟩ := Wf.valIn_some hvi
      obtain ⟨nm, t, rfl, hft, h82, hfz⟩ := Wf.recFd_some hrf
      obtain ⟨es, hes, rfl⟩ := Wf.rec_of hty hft h82
      obtain ⟨hfm, hfg, hff⟩ := Wf.fieldZ_some hfz
      have htx := (Wf.find_mem hft).1
      have h69 : t.sort ≠ 69 := by rw [h82]; decide
      have hfk := fd_kind ((hx.tys t htx).fds f hfm)
      have hrl : (Wf.recV es).print.length ≤ 400 := by rw [← hsv]; exact hs400
      have hesl := es_len hrl
      have HFI := hid (show fieldVal s.data.toList kt.data.toList v.data.toList g = some (Wf.getEs x es f) by unfold fieldVal; rw [hvo]; simp only [Option.bind_some]; rw [Wf.fieldIn_rec hft h82, hfz]; rfl)
      have HO := hid fun (e : Ending) (w' : World) (h : RfdOut s.data.toList kt.data.toList v.data.toList g w.heap.size e w') => (by unfold RfdOut at h; rw [hvo] at h; dsimp only at h; rw [hrf] at h; exact h : ∃ fb o cs, e = .returned (.tuple #[.pointer (some ⟨fb, o, none⟩), .agg cs.toArray, .bool true]) ∧ FdAt w' fb o 82 f ∧ VC w' (fun b => w.heap.size ≤ b) (Wf.recV es) cs)
      have HRO := hid fun (lo : Nat) (e : Ending) (w' : World) (h : RsOut s.data.toList lo e w') => (by unfold RsOut at h; rw [hsc] at h; exact h : ∃ sb, e = .returned (.tuple #[ptr sb, .bool true]) ∧ ScL w' lo sb x)
      have hfe : ∀ d : Wf.Fd × Wf.V, ((d.1.tag : Int) == g) = (d.1.tag == f.tag) := fun d => by
        rw [Bool.eq_iff_iff, beq_iff_eq, beq_iff_eq]; omega
      have HGET := hid (show es.find? (fun d => (d.1.tag : Int) == g) = es.find? (fun d => d.1.tag == f.tag) by congr 1; funext d; exact hfe d)
      have HOF := hid fun (lo sb fb o : Nat) (W wz : World) (hz : Below W.heap.size W wz) (H : ScL W lo sb x) (hf : FdAt W fb o 82 f) => of x hx lo sb fb o 82 f W wz hz H (by decide) hf hfk (hx.refs t htx h69 f hfm)
      have HES := hid hes
      have HRL := hid hrl
      obtain ⟨n, hn⟩ : ∃ n, es.length = n := ⟨_, rfl⟩
      have HN := hid hn
      have hn1 : n ≤ 1000 := by omega
      clear hvo hrf hko hvi hsc hty hsv hs400 hft h82 hfz hes hfm hfg hff htx h69 hfk hrl hesl hfe hx hk hn
      go_enter Tryz.func29, Tryz.ntmps29
      go_wp2_with (first | (go_at_call 61; refine (HRS.out _ (HM.out.below (HB2.out.alloc HB2.out.size _))).mono ?_; rintro e w3 ⟨ho, hb3⟩; obtain ⟨sb, rfl, hsl⟩ := HRO.out _ _ _ ho; have HSL := hid hsl; have HB23 := hid (below_join ((Below.refl w2.heap.size w2).alloc (Nat.le_refl _) _) hb3); have y3 : w3.cell? ⟨w2.heap.size, 3, none⟩ = some (.slice a n c) := (hb3.cell (p := ⟨w2.heap.size, 3, none⟩) (by simp)).trans (by simp [go_sem]); have hl3 : w2.heap.size < w3.heap.size := Nat.lt_of_lt_of_le (by simp) hb3.size; clear ho hb3 hsl) | (go_at_call 60; refine HG.out.mono ?_; rintro e w2 ⟨ho, hb2⟩; obtain ⟨fb, o, cs, rfl, hfd, hvc⟩ := HO.out _ _ ho; have HFD := hid hfd; obtain ⟨a, c, hcs, hc1, hc2, _, hkd⟩ := hvc.form; have hcs2 : cs = [.int .u8 82, .string ⟨#[]⟩, .int .i64 0, .slice a n c] := (by rw [hcs]; show [_, _, _, Value.slice a (es.map Wf.tagged).length c] = _; rw [List.length_map, HN.out]; rfl); subst hcs2; have HKD := hid hkd; have HB2 := hid hb2; clear ho hb2 hfd hvc hcs hkd hc1))
      have HFD3 := hid (HFD.out.below HB23.out)
      have HB3 := hid (HB2.out.trans (HB23.out.mono HB2.out.size))
      go_loopw [36] (fun s36 wr => ∃ i : Nat, s36 = .int .i64 i ∧ i ≤ n ∧ Hid ((∀ j (hj : j < es.length), j < i → ((es[j]).1.tag : Int) ≠ g) ∧ Below w3.heap.size w3 wr)) (fun s36 _ => n - (RowKit.intOf s36).toNat)
      case atStart => exact ⟨0, rfl, Nat.zero_le _, hid ⟨fun j hj h => by omega, Below.refl _ _⟩⟩
      case round =>
        obtain ⟨i, rfl, hi, hh⟩ := hrel
        have BR := hid (HB23.out.trans (hh.out.2.mono HB23.out.size))
        have hlr : w2.heap.size < wr.heap.size := Nat.lt_of_lt_of_le hl3 hh.out.2.size
        by_cases hlt : i < n
        · have hix : i < es.length := by rw [HN.out]; exact hlt
          obtain ⟨b, o', rfl, hpb, hbw, hvs⟩ : ∃ b o', a = some ⟨b, o', none⟩ ∧ w.heap.size ≤ b ∧ b < w2.heap.size ∧ VCs w2 (fun b => w.heap.size ≤ b) b o' (es.map Wf.tagged) := by
            rcases HKD.out with h | ⟨b, o', h1, h2, h3, h4⟩
            · exfalso
              have h5 : (es.map Wf.tagged).length = 0 := by
                have : es.map Wf.tagged = [] := h
                rw [this]; rfl
              rw [List.length_map] at h5
              omega
            · exact ⟨b, o', h1, h2, h3, h4⟩
          obtain ⟨cs, hvk, hcc⟩ := hvs.get i (by rw [List.length_map]; exact hix)
          rw [List.getElem_map] at hvk
          obtain ⟨b2, o2, c2, q3, g3, n3, c3, T3, a3, rfl, h1c, hcm, hp2, hb2w, hvv, k0, k1, k2, k3⟩ := VC.fld hvk
          obtain ⟨T, hT⟩ : ∃ T, (es[i]).1.tag = T := ⟨_, rfl⟩
          rw [hT] at hcc
          have hbr : b < wr.heap.size := by omega
          have hb2r : b2 < wr.heap.size := by omega
          have z0 : wr.cell? ⟨b, o' + i * 4, none⟩ = some (.int .u8 61) := (BR.out.cell (p := ⟨b, o' + i * 4, none⟩) hbw).trans (hcc 0 _ rfl)
          have z1 : wr.cell? ⟨b, o' + i * 4 + 1, none⟩ = some (.string ⟨#[]⟩) := (BR.out.cell (p := ⟨b, o' + i * 4 + 1, none⟩) hbw).trans (hcc 1 _ rfl)
          have z2 : wr.cell? ⟨b, o' + i * 4 + 2, none⟩ = some (.int .i64 T) := (BR.out.cell (p := ⟨b, o' + i * 4 + 2, none⟩) hbw).trans (hcc 2 _ rfl)
          have z3 : wr.cell? ⟨b, o' + i * 4 + 3, none⟩ = some (.slice (some ⟨b2, o2, none⟩) 1 c2) := (BR.out.cell (p := ⟨b, o' + i * 4 + 3, none⟩) hbw).trans (hcc 3 _ rfl)
          have u0 := (BR.out.cell (p := ⟨b2, o2, none⟩) hb2w).trans k0
          have u1 := (BR.out.cell (p := ⟨b2, o2 + 1, none⟩) hb2w).trans k1
          have u2 := (BR.out.cell (p := ⟨b2, o2 + 2, none⟩) hb2w).trans k2
          have u3 := (BR.out.cell (p := ⟨b2, o2 + 3, none⟩) hb2w).trans k3
          have HTT := hid hT
          clear hvs hvk hcc k0 k1 k2 k3 hT
          by_cases hg : (T : Int) = g
          · have tg : ((T : Int) == g) = true := beq_iff_eq.2 hg
            have HF := hid (show vfV (fieldVal s.data.toList kt.data.toList v.data.toList g) = .tuple #[tx (es[i]).2.print, .bool true] by
              rw [HFI.out]
              unfold Wf.getEs
              rw [← HGET.out, findZ_at hix hh.out.1 (by rw [HTT.out]; exact hg)]
              rfl)
            have hpl := Wf.rec_part (List.getElem_mem hix)
            have hpl2 : (es[i]).2.print.length ≤ 1000000 := by have := HRL.out; omega
            obtain ⟨O, hO⟩ : ∃ O : ByteArray, (⟨(es[i]).2.print.toArray⟩ : ByteArray) = O := ⟨_, rfl⟩
            have HPR := hid fun (wz : World) (hz : Below w2.heap.size w2 wz) => (by
              have h := print (es[i]).2 _ _ w2 wz hvv hz hpl2
              rw [tx, hO] at h
              exact h : Calls Tryz.prog 62 #[.agg #[.int .u8 q3, .string T3, .int .i64 g3, .slice a3 n3 c3]] wz fun e w' => e = .returned (.string O) ∧ Below wz.heap.size wz w')
            have HOO := hid hO
            clear hg hpl hpl2 hO hvv
            go_wp2_with (go_at_call 62; refine (HPR.out _ (BR.out.alloc (Nat.le_of_lt hlr) _)).mono ?_; rintro e w5 ⟨rfl, hb5⟩; have HB5 := hid (below_join ((Below.refl wr.heap.size wr).alloc (Nat.le_refl _) _) hb5); clear hb5)
            exact bodyPost_ret (v := .tuple #[.string O, .bool true]) (by simp [results, Tryz.results29, go_sem, *]) rfl ⟨by rw [HF.out, tx, HOO.out], HB2.out.trans ((BR.out.trans (HB5.out.mono BR.out.size)).mono HB2.out.size)⟩
          · have tg : ((T : Int) == g) = false := beq_eq_false_iff_ne.2 hg
            have HG2 := hid hg
            clear hg hvv
            go_wp2_with fail
            go_roundw
            case rel => exact ⟨i + 1, by go_num, by omega, hid ⟨fun j hj hjk => by
              by_cases hj2 : j = i
              · subst hj2; rw [HTT.out]; exact HG2.out
              · exact hh.out.1 j hj (by omega), hh.out.2.alloc hh.out.2.size _⟩⟩
            case measure => simp [RowKit.intOf]; omega
        · have hin : i = n := by omega
          subst hin
          have HF := hid (show vfV (fieldVal s.data.toList kt.data.toList v.data.toList g) = .tuple #[tx (Wf.standF x f), .bool true] by
            rw [HFI.out]
            unfold Wf.getEs
            rw [← HGET.out, findZ_not fun j hj => hh.out.1 j hj (by rw [← HN.out]; exact hj)]
            rfl)
          obtain ⟨O, hO⟩ : ∃ O : ByteArray, (⟨(Wf.standF x f).toArray⟩ : ByteArray) = O := ⟨_, rfl⟩
          have HOO := hid hO
          simp only [tx, hO] at HOF
          clear hO
          go_wp2_with (go_at_call 48; refine (HOF.out _ _ _ _ w3 _ hh.out.2 HSL.out HFD3.out).mono ?_; rintro e w5 ⟨rfl, hb5⟩; have HB5 := hid hb5; clear hb5)
          exact bodyPost_ret (v := .tuple #[.string O, .bool true]) (by simp [results, Tryz.results29, go_sem, *]) rfl ⟨by rw [HF.out, tx, HOO.out], HB2.out.trans ((BR.out.trans (HB5.out.mono BR.out.size)).mono HB2.out.size)⟩
theorem vf_two (o : Option (List UInt8)) : ∃ (t : ByteArray) (b : Bool), vfV o = .tuple #[.string t, .bool b] := by
  cases o with
  | none => exact ⟨_, _, rfl⟩
  | some s => exact ⟨_, _, rfl⟩
end Go.Proofs.YtmdacedmjbiekaaGreatDoor
