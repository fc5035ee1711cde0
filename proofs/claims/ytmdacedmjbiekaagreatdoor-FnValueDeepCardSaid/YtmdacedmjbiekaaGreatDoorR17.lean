/- Packed by pack.py: Su Sy Ds Cu Ia. -/
import Derived.Test.YtmdacedmjbiekaaGreatDoorR16
import Derived.Deep.RegionHeld3
import Derived.Test.YtmdacedmjbiekaaGreatDoorR3
import Derived.Deep.RegionWith
import Derived.Lib.Split
import Derived.Lib.IndexMore
import Derived.Lib.CountLaws
import Derived.Lib.SplitLaws
import Derived.Test.YtmdacedmjbiekaaGreatDoorR5
import Derived.Test.YtmdacedmjbiekaaGreatDoorR1
namespace Go.Proofs.YtmdacedmjbiekaaGreatDoor
open Go.ChangeShapes Go.WideShapes Go.ChangeAt Go.RowKit Go.Lib
set_option linter.unusedVariables false
theorem ends8 {x : Wf.Sc} (hx : Wf.ScOk x) {t : Wf.Ty} (ht : t ∈ x) : Wf.endsIn x 8 t = true:=Wf.endsIn_mono _ _ (Wf.endsIn_enough ht (hx.ends t ht)) _ hx.len
theorem stands89 {x : Wf.Sc} (hx : Wf.ScOk x) (k : Wf.K) : Wf.stands x 9 k = Wf.stands x 8 k:=by
  cases k with
  | ref nm =>
    cases hf : x.find nm with
    | none => simp [Wf.stands,hf]
    | some t => exact Wf.stands_nxt hx.tys 8 9 t nm hf (ends8 hx (Wf.find_mem hf).1) (by decide)
  | _ => rfl
theorem stands_len {x : Wf.Sc} (hx : Wf.ScOk x) : ∀ (n : Nat) (k : Wf.K),(Wf.stands x n k).length ≤ 7 + 9 * n:=by
  intro n
  induction n with
  | zero => intro k;cases k <;> simp [Wf.stands]
  | succ n ih =>
    intro k
    cases k with
    | ref nm =>
      simp only [Wf.stands]
      cases hf : x.find nm with
      | none => simp
      | some t =>
        dsimp only
        by_cases h82 : t.sort = 82
        · rw [if_pos h82];simp;omega
        · rw [if_neg h82]
          cases hfs : t.fields with
          | nil => simp
          | cons f fs =>
            have htag : f.tag ≤ 999999:=by have:=((hx.tys t (Wf.find_mem hf).1).fds f (by rw [hfs];exact List.mem_cons_self ..)).tag2;omega
            have hd:=Wf.dec_len6 htag
            have hi:=ih f.kind
            by_cases h69 : t.sort = 69
            · simp only [h69,if_true,List.length_cons];omega
            · simp only [h69,if_false,List.length_cons,List.length_append,List.length_nil];omega
    | num => simp [Wf.stands];omega
    | txt => simp [Wf.stands];omega
    | flag => simp [Wf.stands];omega
    | list k => simp [Wf.stands];omega
    | opt k => simp [Wf.stands];omega
theorem stands_ref {x : Wf.Sc} {nm : List UInt8} {t : Wf.Ty} (hf : x.find nm = some t) : Wf.stands x 9 (.ref nm) = if t.sort = 82 then [123,125] else match t.fields with | [] => [] | f :: _ => if t.sort = 69 then 35 :: Wf.dec f.tag else 60 :: (Wf.dec f.tag ++ 61 :: (Wf.stands x 8 f.kind ++ [62])):=by
  simp only [Wf.stands,hf]
  cases t.fields <;> rfl
set_option maxRecDepth 20000 in
theorem l3Plain (k : Wf.K) (h : k = .num ∨ k = .txt ∨ k = .flag) (x : Wf.Sc) (w : World) : Calls Tryz.prog 123 #[tx k.text] w fun e w' => e = .returned (tx (Wf.stands x 9 k)) ∧ w = w':=by
  rcases h with rfl | rfl | rfl
  all_goals
    simp only [Wf.K.text,Wf.stands,tx]
    go_enter Tryz.func123,Tryz.ntmps123
    go_wp2
    go_ret
    exact ⟨rfl,rfl⟩
theorem get0 {s : ByteArray} {c : UInt8} {r : List UInt8} (h : s.data.toList = c :: r) : 0 < s.size ∧ ∀ h,(s[0]'h).toNat = c.toNat:=by
  have hl:=size_list s
  rw [h,List.length_cons] at hl
  have h0 : 0 < s.size:=by omega
  refine ⟨h0, ?_⟩
  obtain ⟨c',hc',e0⟩:=byte_at s 0 h0
  rw [h] at hc'
  have : c' = c:=by simpa using hc'.symm
  rw [this] at e0;exact e0
set_option maxRecDepth 20000 in
set_option maxHeartbeats 1000000 in
theorem l3stands_sign (v : Value) (c : UInt8) (hc : c = 91 ∨ c = 63) (r : List UInt8) (w : World) : Calls Tryz.prog 85 #[v,tx (c :: r)] w fun e w' => e = .returned (tx (if c = 91 then [91,93] else [45])) ∧ Below w.heap.size w w':=by
  obtain ⟨S,hS⟩ : ∃ S : ByteArray,(⟨(c :: r).toArray⟩ : ByteArray) = S:=⟨_,rfl⟩
  obtain ⟨h0,e0⟩:=get0 (s:=S) (c:=c) (r:=r) (by rw [← hS])
  rw [tx,hS]
  clear hS
  rcases hc with rfl | rfl
  all_goals
    have e1:=e0 h0
    clear e0
    go_enter Tryz.func85,Tryz.ntmps85
    go_wp2_with fail
    go_ret
    exact ⟨rfl,Below.refl _ _⟩
set_option maxRecDepth 20000 in
set_option maxHeartbeats 1000000 in
theorem l3stands_plain (x : Wf.Sc) (lo b : Nat) (v : Value) (k : Wf.K) (hk : k = .num ∨ k = .txt ∨ k = .flag) (W w : World) (hW : Below W.heap.size W w) (hx8 : x.length ≤ 1000) (H : ScSp W lo b v x) : Calls Tryz.prog 85 #[v,tx k.text] w fun e w' => e = .returned (tx (Wf.stands x 9 k)) ∧ Below w.heap.size w w':=by
  have HR:=hid (show Calls Tryz.prog 87 #[v,tx k.text] w fun e w' => e = .returned (.tuple #[.agg #[.int .u8 0,tx [], .slice none 0 0], .bool false]) ∧ Below w.heap.size w w' by
    refine (l3ref x lo b v k (by rcases hk with rfl | rfl | rfl <;> decide) W w hW hx8 H).mono fun e w' ⟨h1,h2⟩ => ⟨?_,h2⟩
    have : refT x k = none:=by rcases hk with rfl | rfl | rfl <;> rfl
    unfold TyFound at h1;rw [this] at h1;exact h1)
  have HP:=hid fun wz => l3Plain k hk x wz
  obtain ⟨O,hO⟩ : ∃ O : ByteArray,(⟨(Wf.stands x 9 k).toArray⟩ : ByteArray) = O:=⟨_,rfl⟩
  simp only [tx,hO] at HP
  rw [tx,tx,hO]
  obtain ⟨S,hS⟩ : ∃ S : ByteArray,(⟨k.text.toArray⟩ : ByteArray) = S:=⟨_,rfl⟩
  simp only [tx,hS] at HP HR
  rw [hS]
  have hx : (0 < S.size ∧ ∀ h,(S[0]'h).toNat = 110) ∨ (0 < S.size ∧ ∀ h,(S[0]'h).toNat = 116) ∨ (0 < S.size ∧ ∀ h,(S[0]'h).toNat = 102):=by
    rcases hk with rfl | rfl | rfl
    · exact .inl (get0 (c:=110) (r:=[]) (by rw [← hS];rfl))
    · exact .inr (.inl (get0 (c:=116) (r:=[]) (by rw [← hS];rfl)))
    · exact .inr (.inr (get0 (c:=102) (r:=[]) (by rw [← hS];rfl)))
  clear hS hO hk H hW
  rcases hx with ⟨h0,e0⟩ | ⟨h0,e0⟩ | ⟨h0,e0⟩
  all_goals
    have e1:=e0 h0
    clear e0
    go_enter Tryz.func85,Tryz.ntmps85
    go_wp2_with (first | (go_at_call 123;refine (HP.out _).mono ?_;rintro e w3 ⟨rfl,rfl⟩) | (go_at_call 87;refine HR.out.mono ?_;rintro e w2 ⟨rfl,hb2⟩;have HB2:=hid hb2;clear hb2))
    go_ret
    exact ⟨rfl,by have B:=HB2.out;repeat (first | with_reducible exact B | with_reducible refine Below.alloc ?_ (by first | exact B.size | (simp;omega)) _)⟩
set_option maxRecDepth 20000 in
set_option maxHeartbeats 1000000 in
theorem row_first {W w w2 : World} {fb n : Nat} {fa : Option Addr} {fc : Nat} {cells : List (List Value)} (hrow : RowK W fb (.slice fa n fc) 4 cells) (hc0 : 0 < cells.length) (hW : Below W.heap.size W w) (hb2 : Below w.heap.size w w2) :
    ∃ go,fa = some ⟨fb,go,none⟩ ∧ n ≤ fc ∧ fc ≤ maxLen ∧ fb < w2.heap.size ∧ ∀ j u,j < 4 → (cells[0]'hc0)[j]? = some u → w2.cell? ⟨fb,go + j,none⟩ = some u:=by
  obtain ⟨go,h1,hgw,hgm,hgc,hcell⟩:=RowK.get hrow (i:=0) hc0
  have B:=hW.trans (hb2.mono hW.size)
  refine ⟨go,h1,hgm,hgc,Nat.lt_of_lt_of_le hgw B.size,fun j u hj hu => ?_⟩
  have:=(B.cell (p:=⟨fb,go + 0 * 4 + j,none⟩) hgw).trans (hcell j u hj hu)
  simpa using this
theorem l3stands_rec (v : Value) (KT : ByteArray) (h0 : 0 < KT.size) (e0 : ∀ h,(KT[0]'h).toNat = 64) (N : ByteArray) (n : Nat) (w : World)
    (href : Calls Tryz.prog 87 #[v, .string KT] w fun e w' => (∃ fa fc,e = .returned (.tuple #[.agg #[.int .u8 82, .string N, .slice fa n fc], .bool true])) ∧ Below w.heap.size w w') :
    Calls Tryz.prog 85 #[v, .string KT] w fun e w' => e = .returned (.string ⟨#[123,125]⟩) ∧ Below w.heap.size w w':=by
  have HR:=hid href
  have e1:=e0 h0
  clear e0 href
  go_enter Tryz.func85,Tryz.ntmps85
  go_wp2_with (go_at_call 87;refine HR.out.mono ?_;rintro e w2 ⟨⟨fa,fc,rfl⟩,hb2⟩;have HB2:=hid hb2;clear hb2)
  go_ret
  exact ⟨rfl,by have B:=HB2.out;repeat (first | with_reducible exact B | with_reducible refine Below.alloc ?_ (by first | exact B.size | (simp;omega)) _)⟩
set_option maxRecDepth 20000 in
set_option maxHeartbeats 1000000 in
theorem l3stands_enum (v : Value) (KT : ByteArray) (h0 : 0 < KT.size) (e0 : ∀ h,(KT[0]'h).toNat = 64) (N : ByteArray) (n : Nat) (W w : World) (hW : Below W.heap.size W w) (G : Nat) (hG : G ≤ 999999) (O : ByteArray) (cells : List (List Value))
    (href : Calls Tryz.prog 87 #[v, .string KT] w fun e w' => (∃ fb fa fc,e = .returned (.tuple #[.agg #[.int .u8 69, .string N, .slice fa n fc], .bool true]) ∧ RowK W fb (.slice fa n fc) 4 cells) ∧ Below w.heap.size w w')
    (hn : 0 < n) (hc0 : 0 < cells.length) (hc : cells[0][0]? = some (.int .i64 G)) (ho : O.data.toList = 35 :: Wf.dec G) :
    Calls Tryz.prog 85 #[v, .string KT] w fun e w' => e = .returned (.string O) ∧ Below w.heap.size w w':=by
  have HR:=hid href
  have e1:=e0 h0
  have HF:=hid fun fb fa fc w2 (hrow : RowK W fb (.slice fa n fc) 4 cells) (hb2 : Below w.heap.size w w2) => row_first hrow hc0 hW hb2
  have HC:=hid hc
  have HD:=hid fun wz => l6Dec G G wz (Nat.le_refl _) (by omega)
  have ld:=Wf.dec_len6 hG
  obtain ⟨D,hD⟩ : ∃ D : ByteArray,(⟨(Wf.dec G).toArray⟩ : ByteArray) = D:=⟨_,rfl⟩
  simp only [tx,hD] at HD
  have hds : D.size ≤ 6:=by rw [← hD,← size_list];simpa using ld
  have HO:=hid (show (⟨#[35]⟩ : ByteArray) ++ D = O by rw [eq_list,ho,← hD];simp)
  clear e0 href ho hD ld hc
  go_enter Tryz.func85,Tryz.ntmps85
  go_wp2_with (first | (go_at_call 124;refine (HD.out _).mono ?_;rintro e w3 ⟨rfl,hb3⟩;have HB3:=hid hb3;clear hb3) | (go_at_call 87;refine HR.out.mono ?_;rintro e w2 ⟨⟨fb,fa,fc,rfl,hrow⟩,hb2⟩;obtain ⟨go,rfl,hm,hmx,hz2,hcell⟩:=HF.out _ _ _ _ hrow hb2;have g0:=hcell 0 _ (by decide) HC.out;rw [Nat.add_zero] at g0;have HB2:=hid hb2;clear hb2 hrow hcell))
  go_ret
  exact ⟨ret_str HO.out,by have B:=below_join (HB2.out.alloc HB2.out.size _) HB3.out;repeat (first | with_reducible exact B | with_reducible refine Below.alloc ?_ (by first | exact B.size | (simp;omega)) _)⟩
set_option maxRecDepth 20000 in
set_option maxHeartbeats 2000000 in
theorem l3stands_union (v : Value) (KT K2 : ByteArray) (h0 : 0 < KT.size) (e0 : ∀ h,(KT[0]'h).toNat = 64) (N : ByteArray) (n : Nat) (W w : World) (hW : Below W.heap.size W w) (G : Nat) (hG : G ≤ 999999) (S2 O : ByteArray) (hS2 : S2.size ≤ 200) (cells : List (List Value))
    (href : Calls Tryz.prog 87 #[v, .string KT] w fun e w' => (∃ fb fa fc,e = .returned (.tuple #[.agg #[.int .u8 85, .string N, .slice fa n fc], .bool true]) ∧ RowK W fb (.slice fa n fc) 4 cells) ∧ Below w.heap.size w w')
    (hn : 0 < n) (hc0 : 0 < cells.length) (hc : cells[0][0]? = some (.int .i64 G)) (hc2 : cells[0][2]? = some (.string K2)) (ho : O.data.toList = 60 :: (Wf.dec G ++ 61 :: (S2.data.toList ++ [62])))
    (hrec : ∀ wz,Below w.heap.size w wz → Calls Tryz.prog 85 #[v, .string K2] wz fun e w' => e = .returned (.string S2) ∧ Below wz.heap.size wz w') :
    Calls Tryz.prog 85 #[v, .string KT] w fun e w' => e = .returned (.string O) ∧ Below w.heap.size w w':=by
  have HR:=hid href
  have e1:=e0 h0
  clear e0 href
  have HF:=hid fun fb fa fc w2 (hrow : RowK W fb (.slice fa n fc) 4 cells) (hb2 : Below w.heap.size w w2) => row_first hrow hc0 hW hb2
  have HC:=hid hc
  have HC2:=hid hc2
  have HD:=hid fun wz => l6Dec G G wz (Nat.le_refl _) (by omega)
  have ld:=Wf.dec_len6 hG
  obtain ⟨D,hD⟩ : ∃ D : ByteArray,(⟨(Wf.dec G).toArray⟩ : ByteArray) = D:=⟨_,rfl⟩
  simp only [tx,hD] at HD
  have hds : D.size ≤ 6:=by rw [← hD,← size_list];simpa using ld
  have HO:=hid (show (⟨#[60]⟩ : ByteArray) ++ D ++ ⟨#[61]⟩ ++ S2 ++ ⟨#[62]⟩ = O by rw [eq_list,ho,← hD];simp)
  have HREC:=hid hrec
  have a1:=fun wz => run_string_add_sum (P:=Tryz.prog) (w:=wz) ⟨#[60]⟩ D (by show 1 + D.size ≤ _;omega)
  have a2:=fun wz => run_string_add_sum (P:=Tryz.prog) (w:=wz) (⟨#[60]⟩ ++ D) ⟨#[61]⟩ (by rw [ByteArray.size_append];show 1 + D.size + 1 ≤ _;omega)
  have a3:=fun wz => run_string_add_sum (P:=Tryz.prog) (w:=wz) (⟨#[60]⟩ ++ D ++ ⟨#[61]⟩) S2 (by rw [ByteArray.size_append,ByteArray.size_append];show 1 + D.size + 1 + S2.size ≤ _;omega)
  have a4:=fun wz => run_string_add_sum (P:=Tryz.prog) (w:=wz) (⟨#[60]⟩ ++ D ++ ⟨#[61]⟩ ++ S2) ⟨#[62]⟩ (by rw [ByteArray.size_append,ByteArray.size_append,ByteArray.size_append];show 1 + D.size + 1 + S2.size + 1 ≤ _;omega)
  clear ho hD ld hc hc2 hrec
  go_enter Tryz.func85,Tryz.ntmps85
  go_wp2_with (go_at_call 87;refine HR.out.mono ?_;rintro e w2 ⟨⟨fb,fa,fc,rfl,hrow⟩,hb2⟩;obtain ⟨go,rfl,hm,hmx,hz2,hcell⟩:=HF.out _ _ _ _ hrow hb2;have g0:=hcell 0 _ (by decide) HC.out;rw [Nat.add_zero] at g0;have g2:=hcell 2 _ (by decide) HC2.out;have HB2:=hid hb2;have F:=Lib.hid fun (wz : World) (hz : Below (w2.heap.size + 1) (w2.alloc (.cells #[.int .u8 85, .string N, .slice (some ⟨fb,go,none⟩) n fc] 82)) wz) => (show wz.cell? ⟨w2.heap.size,2,none⟩ = some (.slice (some ⟨fb,go,none⟩) n fc) ∧ wz.cell? ⟨fb,go,none⟩ = some (.int .i64 G) ∧ wz.cell? ⟨fb,go + 2,none⟩ = some (.string K2) from ⟨(hz.cell (p:=⟨w2.heap.size,2,none⟩) (by simp)).trans (by simp),(hz.cell (p:=⟨fb,go,none⟩) (by simp;omega)).trans ((World.cell?_alloc_lt w2 _ _ hz2).trans g0),(hz.cell (p:=⟨fb,go + 2,none⟩) (by simp;omega)).trans ((World.cell?_alloc_lt w2 _ _ hz2).trans g2)⟩);clear hb2 hrow hcell)
  go_region_held3 (fun w' => w'.cell? ⟨w2.heap.size,2,none⟩ = some (.slice (some ⟨fb,go,none⟩) n fc) ∧ w'.cell? ⟨fb,go,none⟩ = some (.int .i64 G) ∧ w'.cell? ⟨fb,go + 2,none⟩ = some (.string K2)) (first | exact ⟨k1,k2,k3⟩ | exact ⟨d1,d2,d3⟩ | go_keep) (first | (go_at_call 124;refine (HD.out _).mono ?_;rintro e w3 ⟨rfl,hb3⟩;have TD:=Lib.hid (show Below (w2.heap.size + 1) (w2.alloc (.cells #[.int .u8 85, .string N, .slice (some ⟨fb,go,none⟩) n fc] 82)) w3 by first | exact TS.out.trans (hb3.mono (by have:=TS.out.size;simp at this;omega)) | exact Below.trans ((Below.refl _ _).drew) (hb3.mono (by show _ ≤ (World.alloc _ _).heap.size;simp)));obtain ⟨d1,d2,d3⟩:=F.out _ TD.out;clear hb3) | (go_at_call 85;refine (HREC.out _ (by first | exact (HB2.out.alloc HB2.out.size _).trans (TD.out.mono (by have:=HB2.out.size;omega)) | exact (HB2.out.alloc HB2.out.size _).drew)).mono ?_;rintro e w4 ⟨rfl,hb4⟩;have TS:=Lib.hid (show Below (w2.heap.size + 1) (w2.alloc (.cells #[.int .u8 85, .string N, .slice (some ⟨fb,go,none⟩) n fc] 82)) w4 by first | exact TD.out.trans (hb4.mono (by have:=TD.out.size;simp at this;omega)) | exact Below.trans ((Below.refl _ _).drew) (hb4.mono (by show _ ≤ (World.alloc _ _).heap.size;simp)));obtain ⟨k1,k2,k3⟩:=F.out _ TS.out;clear hb4))
  all_goals go_wp2
  all_goals go_ret
  all_goals exact ⟨ret_str HO.out,by first | exact (HB2.out.alloc HB2.out.size _).trans (TS.out.mono (by have:=HB2.out.size;omega)) | exact (HB2.out.alloc HB2.out.size _).trans (TD.out.mono (by have:=HB2.out.size;omega))⟩
theorem l3standsN (x : Wf.Sc) (hx : Wf.ScOk x) (lo b : Nat) (v : Value) (W : World) (H : ScSp W lo b v x) : ∀ (n : Nat) (k : Wf.K) (w : World),Below W.heap.size W w → k.text.length ≤ 12 → Wf.hasRef x k = true → (∀ t,refT x k = some t → Wf.endsIn x n t = true) →
    Calls Tryz.prog 85 #[v,tx k.text] w fun e w' => e = .returned (tx (Wf.stands x 9 k)) ∧ Below w.heap.size w w':=by
  have hx8:=hx.len
  intro n
  induction n with
  | zero =>
    intro k w hW hk hr he
    cases k with
    | ref nm =>
      obtain ⟨t,ht⟩:=Option.isSome_iff_exists.1 (show (x.find nm).isSome = true by simpa [Wf.hasRef,Wf.K.base,Wf.K.name] using hr)
      have:=he t ht
      simp [Wf.endsIn] at this
    | num => exact l3stands_plain x lo b v _ (.inl rfl) W w hW (by omega) H
    | txt => exact l3stands_plain x lo b v _ (.inr (.inl rfl)) W w hW (by omega) H
    | flag => exact l3stands_plain x lo b v _ (.inr (.inr rfl)) W w hW (by omega) H
    | list k => exact l3stands_sign v 91 (.inl rfl) k.text w
    | opt k => exact l3stands_sign v 63 (.inr rfl) k.text w
  | succ n ih =>
    intro k w hW hk hr he
    cases k with
    | num => exact l3stands_plain x lo b v _ (.inl rfl) W w hW (by omega) H
    | txt => exact l3stands_plain x lo b v _ (.inr (.inl rfl)) W w hW (by omega) H
    | flag => exact l3stands_plain x lo b v _ (.inr (.inr rfl)) W w hW (by omega) H
    | list k => exact l3stands_sign v 91 (.inl rfl) k.text w
    | opt k => exact l3stands_sign v 63 (.inr rfl) k.text w
    | ref nm =>
      obtain ⟨t,ht⟩:=Option.isSome_iff_exists.1 (show (x.find nm).isSome = true by simpa [Wf.hasRef,Wf.K.base,Wf.K.name] using hr)
      have hm:=(Wf.find_mem ht).1
      have hok:=hx.tys t hm
      have hend:=he t ht
      have hs:=stands_ref ht
      obtain ⟨g0,g1⟩:=get0 (s:=⟨(Wf.K.ref nm).text.toArray⟩) (c:=64) (r:=nm ++ [59]) rfl
      have href:=l3ref x lo b v (.ref nm) (by omega) W w hW (by omega) H
      have href2 : Calls Tryz.prog 87 #[v,tx (Wf.K.ref nm).text] w fun e w' => (∃ fb a c,e = .returned (.tuple #[.agg #[.int .u8 t.sort.toNat,tx t.name, .slice a t.fields.length c], .bool true]) ∧ lo ≤ fb ∧ RowK W fb (.slice a t.fields.length c) 4 (t.fields.map (fdS t.sort))) ∧ Below w.heap.size w w':=by
        refine href.mono fun e w' ⟨h1,h2⟩ => ⟨?_,h2⟩
        unfold TyFound at h1
        rw [show refT x (.ref nm) = some t from ht] at h1
        exact h1
      by_cases h82 : t.sort = 82
      · rw [hs,if_pos h82]
        refine l3stands_rec v ⟨(Wf.K.ref nm).text.toArray⟩ g0 g1 ⟨t.name.toArray⟩ t.fields.length w (href2.mono fun e w' ⟨⟨fb,a,c,h1,_,_⟩,h2⟩ => ⟨⟨a,c, ?_⟩,h2⟩)
        rw [h1,h82];rfl
      · rw [if_neg h82] at hs
        obtain ⟨f,fs,hfs⟩ : ∃ f fs,t.fields = f :: fs:=List.exists_cons_of_ne_nil (hok.some h82)
        have hfd:=hok.fds f (by rw [hfs];exact List.mem_cons_self ..)
        have htag : f.tag ≤ 999999:=by have:=hfd.tag2;omega
        rw [hfs] at hs
        dsimp only at hs
        have hlen : 0 < (t.fields.map (fdS t.sort)).length:=by rw [hfs];simp
        have e0 : (t.fields.map (fdS t.sort))[0]'hlen = fdS t.sort f:=by simp [hfs]
        by_cases h69 : t.sort = 69
        · rw [if_pos h69] at hs
          rw [hs]
          refine l3stands_enum v ⟨(Wf.K.ref nm).text.toArray⟩ g0 g1 ⟨t.name.toArray⟩ t.fields.length W w hW f.tag htag ⟨(35 :: Wf.dec f.tag).toArray⟩ _ (href2.mono fun e w' ⟨⟨fb,a,c,h1,_,h3⟩,h2⟩ => ⟨⟨fb,a,c, ?_,h3⟩,h2⟩) (by rw [hfs];simp) hlen (by rw [e0];rfl) rfl
          rw [h1,h69];rfl
        · rw [if_neg h69] at hs
          have h85 : t.sort = 85:=by
            rcases hok.sort with h | h | h
            · exact absurd h h82
            · exact h
            · exact absurd h h69
          have hk2:=fd_kind hfd
          have hr2:=hx.refs t hm h69 f (by rw [hfs];exact List.mem_cons_self ..)
          have hL:=stands_len hx 9 f.kind
          rw [← stands89 hx] at hs
          rw [hs]
          refine l3stands_union v ⟨(Wf.K.ref nm).text.toArray⟩ ⟨f.kind.text.toArray⟩ g0 g1 ⟨t.name.toArray⟩ t.fields.length W w hW f.tag htag ⟨(Wf.stands x 9 f.kind).toArray⟩ _ (by rw [← size_list];simpa using Nat.le_trans hL (by decide)) _ (href2.mono fun e w' ⟨⟨fb,a,c,h1,_,h3⟩,h2⟩ => ⟨⟨fb,a,c, ?_,h3⟩,h2⟩) (by rw [hfs];simp) hlen (by rw [e0];rfl) (by rw [e0,fdS,if_neg h69];rfl) rfl (fun wz hz => ih f.kind wz (hW.trans (hz.mono hW.size)) hk2 hr2 fun u hu => ?_)
          · rw [h1,h85];rfl
          · have:=ends_step (x:=x) (m:=n) h85 hfs
            rw [hend,hu] at this
            exact this.symm
theorem l3stands (x : Wf.Sc) (hx : Wf.ScOk x) (lo b : Nat) (v : Value) (k : Wf.K) (W w : World) (hW : Below W.heap.size W w) (H : ScSp W lo b v x) (hk : k.text.length ≤ 12) (hr : Wf.hasRef x k = true) :
    Calls Tryz.prog 85 #[v,tx k.text] w fun e w' => e = .returned (tx (Wf.stands x 9 k)) ∧ Below w.heap.size w w' :=
  l3standsN x hx lo b v W H 9 k w hW hk hr fun t ht => hx.ends t (refT_mem ht)

set_option maxRecDepth 20000 in
set_option maxHeartbeats 1000000 in
theorem l3stand_w (v : Value) (G : Int) (N K S O : ByteArray) (w : World) (h : (S.toList.isEmpty = true ∧ Calls Tryz.prog 85 #[v, .string K] (w.alloc (.cells #[.int .i64 G, .string N, .string K, .string S] 86)) fun e w' => e = .returned (.string O) ∧ Below (w.heap.size + 1) (w.alloc (.cells #[.int .i64 G, .string N, .string K, .string S] 86)) w') ∨ (S.toList.isEmpty = false ∧ O = S)) :
    Calls Tryz.prog 51 #[v, .agg #[.int .i64 G, .string N, .string K, .string S]] w fun e w' => e = .returned (.string O) ∧ Below w.heap.size w w':=by
  rcases h with ⟨he,hc⟩ | ⟨he,rfl⟩
  · have HC:=hid hc
    clear hc
    go_enter Tryz.func51,Tryz.ntmps51
    go_wp2_with (go_at_call 85;refine HC.out.mono ?_;rintro e w2 ⟨rfl,hb2⟩;have HB2:=hid hb2;clear hb2)
    go_ret
    exact ⟨rfl,((Below.refl _ _).alloc (Nat.le_refl _) _).trans (HB2.out.mono (Nat.le_succ _))⟩
  · go_enter Tryz.func51,Tryz.ntmps51
    go_wp2_with fail
    go_ret
    exact ⟨rfl,(Below.refl _ _).alloc (Nat.le_refl _) _⟩
theorem l3stand (x : Wf.Sc) (hx : Wf.ScOk x) (lo b : Nat) (v : Value) (f : Wf.Fd) (W w : World) (hW : Below W.heap.size W w) (H : ScSp W lo b v x) (hk : f.kind.text.length ≤ 12) (hr : Wf.hasRef x f.kind = true) :
    Calls Tryz.prog 51 #[v, .agg #[.int .i64 f.tag,tx f.name,tx f.kind.text,tx f.given]] w fun e w' => e = .returned (tx (Wf.standF x f)) ∧ Below w.heap.size w w':=by
  refine l3stand_w v f.tag ⟨f.name.toArray⟩ ⟨f.kind.text.toArray⟩ ⟨f.given.toArray⟩ ⟨(Wf.standF x f).toArray⟩ w ?_
  unfold Wf.standF
  by_cases hg : f.given = []
  · left
    refine ⟨by rw [ByteArray.toList_eq,hg];rfl, ?_⟩
    rw [if_pos hg]
    refine (l3stands x hx lo b v f.kind W _ (hW.alloc hW.size _) H hk hr).mono fun e w' ⟨h1,h2⟩ => ⟨h1, ?_⟩
    have : (w.alloc (.cells #[.int .i64 f.tag, .string ⟨f.name.toArray⟩, .string ⟨f.kind.text.toArray⟩, .string ⟨f.given.toArray⟩] 86)).heap.size = w.heap.size + 1:=by simp
    rw [← this];exact h2
  · right
    refine ⟨by rw [ByteArray.toList_eq];cases hh : f.given with | nil => exact absurd hh hg | cons a r => rfl,by rw [if_neg hg]⟩
def kindOf (l kt : List UInt8) : Option (Wf.Sc × Wf.K):=match Wf.schemaOf l with
  | none => none
  | some x => match Wf.parseK kt with
    | none => none
    | some k => if Wf.hasRef x k = true then some (x,k) else none
def LkOut (l kt : List UInt8) (lo : Nat) (e : Ending) (w' : World) : Prop:=match kindOf l kt with
  | some y => ∃ b a c,e = .returned (.tuple #[.slice a y.1.length c, .bool true]) ∧ ScSp w' lo b (.slice a y.1.length c) y.1
  | none => ∃ a n c,e = .returned (.tuple #[.slice a n c, .bool false])
theorem kindOf_text {l kt : List UInt8} {y : Wf.Sc × Wf.K} (h : kindOf l kt = some y) : Wf.schemaOf l = some y.1 ∧ Wf.parseK kt = some y.2 ∧ Wf.hasRef y.1 y.2 = true ∧ y.2.text = kt ∧ kt.length ≤ 12:=by
  unfold kindOf at h
  cases hs : Wf.schemaOf l with
  | none => rw [hs] at h;cases h
  | some x =>
    rw [hs] at h
    cases hk : Wf.parseK kt with
    | none => rw [hk] at h;cases h
    | some k =>
      rw [hk] at h
      dsimp only at h
      split at h
      · rename_i hr
        simp only [Option.some.injEq] at h
        subst h
        have hl:=parseK_len hk
        unfold Wf.parseK at hk
        split at hk
        · exact ⟨rfl,rfl,hr,Wf.kindIn_text hk,by assumption⟩
        · cases hk
      · cases h
theorem lk_fin {l kt : List UInt8} {x : Wf.Sc} {k : Wf.K} {is ok : Bool} {n lo b c : Nat} {a : Option Addr} {w' : World} (h : kindOf l kt = if (!is || ok) = true then some (x,k) else none) (hn : x.length = n) (hs : ScSp w' lo b (.slice a n c) x) {r : Bool} (hr : r = (!is || ok)) : LkOut l kt lo (.returned (.tuple #[.slice a n c, .bool r])) w':=by
  subst hr
  unfold LkOut
  rw [h]
  cases hb : (!is || ok) with
  | true => rw [if_pos rfl];exact ⟨b,a,c,by rw [hn],by rw [hn];exact hs⟩
  | false => rw [if_neg (by decide)];exact ⟨_,_,_,rfl⟩
set_option maxRecDepth 20000 in
set_option maxHeartbeats 1000000 in
theorem l3Kind (s kt : ByteArray) (w : World) (hs : s.size ≤ 1048576) : Calls Tryz.prog 35 #[.string s, .string kt] w fun e w' => LkOut s.data.toList kt.data.toList w.heap.size e w' ∧ Below w.heap.size w w':=by
  have HOF:=hid fun wz => l3Of s wz hs
  have HOK:=hid fun wz => kindOk_spec kt.size kt wz (Nat.le_refl _)
  cases hsc : Wf.schemaOf s.data.toList with
  | none =>
    have HO:=hid fun e lo wz (h : OfOut s.data.toList lo e wz) => (by unfold OfOut at h;rw [hsc] at h;exact h : ∃ a n c,e = .returned (.tuple #[.slice a n c, .bool false]))
    have HF:=hid (show kindOf s.data.toList kt.data.toList = none by unfold kindOf;rw [hsc])
    clear hsc
    go_enter Tryz.func35,Tryz.ntmps35
    go_wp2_with (go_at_call 71;refine (HOF.out _).mono ?_;rintro e w2 ⟨ho,hb2⟩;obtain ⟨a,n,c,rfl⟩:=HO.out _ _ _ ho;have HB2:=hid hb2;clear ho hb2)
    go_ret2
    exact ⟨by unfold LkOut;rw [HF.out];exact ⟨_,_,_,rfl⟩,HB2.out⟩
  | some x =>
    have hx8:=(Wf.schemaOf_ok hsc).len
    have HO:=hid fun e lo wz (h : OfOut s.data.toList lo e wz) => (by unfold OfOut at h;rw [hsc] at h;obtain ⟨b,v,he,hsp⟩:=h;obtain ⟨a,c,rfl,_⟩:=hsp.slice;exact ⟨b,a,c,he,hsp⟩ : ∃ b a c,e = .returned (.tuple #[.slice a x.length c, .bool true]) ∧ ScSp wz lo b (.slice a x.length c) x)
    obtain ⟨n,hn⟩ : ∃ n,x.length = n:=⟨_,rfl⟩
    rw [hn] at HO
    have HN:=hid hn
    cases hk : Wf.parseK kt.data.toList with
    | none =>
      rw [ok_none hk] at HOK
      have HF:=hid (show kindOf s.data.toList kt.data.toList = none by unfold kindOf;rw [hsc];dsimp only;rw [hk])
      clear hsc hk hn
      go_enter Tryz.func35,Tryz.ntmps35
      go_wp2_with (first | (go_at_call 72;refine (HOK.out _).mono ?_;rintro e w3 ⟨rfl,rfl⟩) | (go_at_call 71;refine (HOF.out _).mono ?_;rintro e w2 ⟨ho,hb2⟩;obtain ⟨b,a,c,rfl,hs2⟩:=HO.out _ _ _ ho;have HB2:=hid hb2;clear ho hb2 hs2))
      go_ret2
      exact ⟨by unfold LkOut;rw [HF.out];exact ⟨_,_,_,rfl⟩,HB2.out⟩
    | some k =>
      rw [ok_some hk] at HOK
      have hkl:=parseK_len hk
      have hkt : tx k.text = .string kt:=by
        unfold Wf.parseK at hk
        split at hk
        · rw [Wf.kindIn_text hk]
        · cases hk
      have HCORE:=hid fun wz => l2Core_text k (by omega) wz
      have hcl:=core_len k
      have HREF:=hid fun wz => l2Ref_text k.core (by omega) wz
      obtain ⟨NM,is,hri,hhas⟩:=core_is x k
      rw [hri] at HREF
      have HFIND:=hid fun wz lo b v (h : ScSp wz lo b v x) => (l3findAny x lo b v NM wz wz (Below.refl _ _) (by omega) h)
      obtain ⟨CT,hCT⟩ : ∃ CT : ByteArray,(⟨k.core.text.toArray⟩ : ByteArray) = CT:=⟨_,rfl⟩
      rw [hkt] at HCORE
      simp only [tx,hCT] at HCORE HREF
      obtain ⟨ok,hokk⟩ : ∃ ok,(x.find NM.data.toList).isSome = ok:=⟨_,rfl⟩
      rw [hokk] at hhas HFIND
      have HF:=hid (show kindOf s.data.toList kt.data.toList = if (!is || ok) = true then some (x,k) else none by unfold kindOf;rw [hsc];dsimp only;rw [hk];dsimp only;rw [hhas])
      clear hsc hk hn hhas hokk hCT hri hcl hkl hkt
      have hcs : (is = false) ∨ (is = true ∧ ok = true) ∨ (is = true ∧ ok = false):=by cases is <;> cases ok <;> simp
      go_enter Tryz.func35,Tryz.ntmps35
      go_wp2_with (first | (go_at_call 75;refine (HFIND.out _ _ _ _ HS.out).mono ?_;rintro e w5 ⟨⟨fq,fN,fA,fM,fC,rfl⟩,hb5⟩;have HB5:=hid hb5;clear hb5) | (go_at_call 73;refine (HREF.out _).mono ?_;rintro e w4 ⟨rfl,rfl⟩) | (go_at_call 74;refine (HCORE.out _).mono ?_;rintro e w3 ⟨rfl,rfl⟩) | (go_at_call 72;refine (HOK.out _).mono ?_;rintro e w3 ⟨rfl,rfl⟩) | (go_at_call 71;refine (HOF.out _).mono ?_;rintro e w2 ⟨ho,hb2⟩;obtain ⟨b,a,c,rfl,hs2⟩:=HO.out _ _ _ ho;have HS:=hid hs2;have HB2:=hid hb2;clear ho hb2 hs2))
      all_goals go_ret2
      · exact ⟨lk_fin (is:=is) (ok:=ok) HF.out HN.out (HS.out.below HB5.out |>.below ((Below.refl _ _).alloc (Nat.le_refl _) _)) (by simp [*]),(HB2.out.trans (HB5.out.mono HB2.out.size)).alloc (Nat.le_trans HB2.out.size HB5.out.size) _⟩
      · exact ⟨lk_fin (is:=is) (ok:=ok) HF.out HN.out (HS.out.below HB5.out |>.below ((Below.refl _ _).alloc (Nat.le_refl _) _)) (by simp [*]),(HB2.out.trans (HB5.out.mono HB2.out.size)).alloc (Nat.le_trans HB2.out.size HB5.out.size) _⟩
def okL (l : List UInt8) : Bool:=(Wf.schemaOf l).isSome
theorem of_ok {l : List UInt8} {lo : Nat} {e : Ending} {w' : World} (h : OfOut l lo e w') : ∃ a n c,e = .returned (.tuple #[.slice a n c, .bool (okL l)]):=by
  unfold OfOut at h
  unfold okL
  cases hs : Wf.schemaOf l with
  | none => rw [hs] at h;exact h
  | some x =>
    rw [hs] at h
    obtain ⟨b,v,he,hsp⟩:=h
    obtain ⟨a,c,rfl,_⟩:=hsp.slice
    exact ⟨_,_,_,he⟩
set_option maxRecDepth 20000 in
theorem schemaOk_s (s : ByteArray) (w : World) (hs : s.size ≤ 1048576) : Calls Tryz.prog 83 #[.string s] w fun e w' => e = .returned (.bool (okL s.data.toList)) ∧ Below w.heap.size w w':=by
  have HOF:=hid fun wz => l3Of s wz hs
  go_enter Tryz.func83,Tryz.ntmps83
  go_wp2_with (go_at_call 71;refine (HOF.out _).mono ?_;rintro e w2 ⟨ho,hb2⟩;obtain ⟨a,n,c,rfl⟩:=of_ok ho;have HB2:=hid hb2;clear ho hb2)
  go_ret
  exact ⟨rfl,HB2.out⟩
theorem apart_step {v v' : Value} {wx w' : World} (hg : wx.grownBy w' v.ownBlock) (hl : v'.ownBlock = v.ownBlock ∨ v'.ownBlock = some wx.heap.size) {b : Nat} (hb : b < wx.heap.size) (ha : some b ≠ v.ownBlock) : w'.heap[b]? = wx.heap[b]? ∧ some b ≠ v'.ownBlock:=by
  refine ⟨hg.block b hb ha, ?_⟩
  rcases hl with h | h
  · rw [h];exact ha
  · rw [h];intro e;have:=Option.some.inj e;omega
structure Gat (w w2 wr : World) (e : TypeId) (b : Nat) (v : Value) (n : Nat) (xs : List Value) : Prop where
  own : wr.ownsRow w.heap.size e 1 v n xs
  size : w2.heap.size ≤ wr.heap.size
  block : wr.heap[b]? = w2.heap[b]?
  apart : some b ≠ v.ownBlock
  below : Below w.heap.size w wr
theorem Gat.cell {w w2 wr : World} {e : TypeId} {b : Nat} {v : Value} {n : Nat} {xs : List Value} (h : Gat w w2 wr e b v n xs) {o : Nat} {u : Value} (hu : w2.cell? ⟨b,o,none⟩ = some u) : wr.cell? ⟨b,o,none⟩ = some u:=(World.cell?_of_block (w:=w2) (a:=⟨b,o,none⟩) h.block).trans hu
theorem Gat.put {w w2 wr w' : World} {e : TypeId} {b : Nat} {v v' : Value} {n m : Nat} {xs ys : List Value} {o : Obj} (h : Gat w w2 wr e b v n xs) (hb : b < w2.heap.size) (hg : (wr.alloc o).grownBy w' v.ownBlock) (hl : v'.ownBlock = v.ownBlock ∨ v'.ownBlock = some (wr.alloc o).heap.size) (ho : w'.ownsRow w.heap.size e 1 v' m ys) : Gat w w2 w' e b v' m ys:=by
  have hbr : b < wr.heap.size:=Nat.lt_of_lt_of_le hb h.size
  have hs : (wr.alloc o).heap.size = wr.heap.size + 1:=by simp
  obtain ⟨a1,a2⟩:=apart_step hg hl (by omega) h.apart
  refine ⟨ho, ?_, ?_,a2, ?_⟩
  · have:=hg.size;have:=h.size;omega
  · rw [a1]
    have hA:=(Below.refl wr.heap.size wr).alloc (Nat.le_refl _) o
    rw [hA.block b hbr,h.block]
  · refine (h.below.alloc h.below.size o).trans ?_
    refine below_grown2 hg (fun g hgk => (owns_lt h.own g hgk).1) ?_
    have:=h.below.size;omega
theorem info_int : (Tryz.prog.info? 3).map (fun i => (i.zero,i.size,i.bytes)) = some (some (.int .i64 0),1,8):=by kernel_rfl
end Go.Proofs.YtmdacedmjbiekaaGreatDoor

namespace Go.Proofs.YtmdacedmjbiekaaGreatDoor
open Go.ChangeShapes Go.WideShapes Go.ChangeAt Go.RowKit Go.Lib
set_option linter.unusedVariables false
set_option linter.unusedSimpArgs false
theorem mem_pos {x : ByteArray} {l : List (List UInt8)} (h : x.data.toList ∈ l) (hl : (l.all fun n => decide (1 ≤ n.length)) = true) : 1 ≤ x.size:=by
  have:=List.all_eq_true.1 hl _ h
  have h2 : 1 ≤ x.data.toList.length:=by simpa using this
  rw [size_list] at h2
  exact h2
theorem el_picks (m : Nat) (l : List (List UInt8)) (v : Int) (h0 : 0 ≤ v) (h1 : v < l.length) (hl : (l.all fun n => decide (n.length ≤ m)) = true) : ∃ x : ByteArray,x.size ≤ m ∧ x.data.toList ∈ l ∧ ∀ h : v.toNat < (l.map tx).length,(l.map tx)[v.toNat]'h = .string x:=by
  have hv : v.toNat < l.length:=by omega
  have:=List.all_eq_true.1 hl l[v.toNat] (List.getElem_mem _)
  exact ⟨⟨(l[v.toNat]).toArray⟩,by simpa [tx_size] using this,List.getElem_mem _,fun h => by rw [List.getElem_map]⟩
set_option maxRecDepth 20000 in
set_option maxHeartbeats 2000000 in
theorem l91Schema (rb k : Nat) (w : World) (H : Rd w rb k) (hk : k ≤ 700000) :
    Calls Tryz.prog 42 #[.pointer (some ⟨rb,0,none⟩)] w fun e w' => ∃ s : ByteArray,e = .returned (.string s) ∧ s.size ≤ 1900 ∧ Rd w' rb (k + 170) ∧ Beside rb w w':=by
  have R0:=H.lt
  have HH:=hid H
  clear H
  go_enter Tryz.func42,Tryz.ntmps42
  go_upto_region 2 with (first | (go_at_call 82;have _u:=hR5;refine (l91Type rb (k + 102) x2 ⟨#[99]⟩ hx21 hx22 (show (1 : Nat) ≤ 1 by omega) _ hR5 (by omega)).mono ?_;rintro e w6 ⟨S3,rfl,hS31,hS32,hR6,hBs6⟩;have B6:=Lib.hid (B5.out.trans hBs6);clear hBs6) | (go_at_call 44;have _u:=hR4;refine (pick rb (k + 101) 3 _ (hR4.alloc _) (by omega) (by omega)).mono ?_;rintro e w5 ⟨v5,rfl,hv5,_,hR5,hBs5⟩;obtain ⟨hv50,hv51⟩:=hv5 (by omega);obtain ⟨x2,hx21,hx2m,hx2c⟩:=cell_picks 1 [[82],[69],[85]] hBs5 hR4.lt v5 hv50 hv51 (by decide);have hx22:=mem_pos hx2m (by decide);have B5:=Lib.hid ((B4.out.alloc _).trans hBs5);clear hBs5) | (go_at_call 82;have _u:=hR3;refine (l91Type rb (k + 51) x1 ⟨#[98]⟩ hx11 hx12 (show (1 : Nat) ≤ 1 by omega) _ hR3 (by omega)).mono ?_;rintro e w4 ⟨S2,rfl,hS21,hS22,hR4,hBs4⟩;have B4:=Lib.hid (B3.out.trans hBs4);clear hBs4) | (go_at_call 44;have _u:=hR2;refine (pick rb (k + 50) 4 _ (hR2.alloc _) (by omega) (by omega)).mono ?_;rintro e w3 ⟨v3,rfl,hv3,_,hR3,hBs3⟩;obtain ⟨hv30,hv31⟩:=hv3 (by omega);obtain ⟨x1,hx11,hx1m,hx1c⟩:=cell_picks 1 [[82],[85],[85],[69]] hBs3 hR2.lt v3 hv30 hv31 (by decide);have hx12:=mem_pos hx1m (by decide);have B3:=Lib.hid ((B2.out.alloc _).trans hBs3);clear hBs3) | (go_at_call 82;refine (l91Type rb k ⟨#[82]⟩ ⟨#[97]⟩ (show (1 : Nat) ≤ 1 by omega) (show (1 : Nat) ≤ 1 by omega) (show (1 : Nat) ≤ 1 by omega) _ HH.out (by omega)).mono ?_;rintro e w2 ⟨S1,rfl,hS11,hS12,hR2,hBs2⟩;have B2:=Lib.hid hBs2;clear hBs2))
  go_cut [3,30] from 23 (fun s3 s30 wx => ∃ (S : ByteArray) (b : Bool),s3 = .string S ∧ s30 = .bool b ∧ 1 ≤ S.size ∧ S.size ≤ 1800 ∧ Rd wx rb (k + 160) ∧ Hid (Beside rb w wx))
  case first =>
    have hsz : (S1 ++ S2 ++ S3).size ≤ 1800:=by simp [ByteArray.size_append];omega
    have hsz1 : 1 ≤ (S1 ++ S2 ++ S3).size:=by simp [ByteArray.size_append];omega
    have HSO:=hid fun wz => schemaOk_s (S1 ++ S2 ++ S3) wz (by omega)
    obtain ⟨B,hB⟩ : ∃ B,okL (S1 ++ S2 ++ S3).data.toList = B:=⟨_,rfl⟩
    rw [hB] at HSO
    clear hB
    go_wp2_with (first | (go_at_call 44;have _u:=hR7;refine (pick rb (k + 152) 8 _ hR7 (by omega) (by omega)).mono ?_;rintro e w8 ⟨v8,rfl,hv8,_,hR8,hBs8⟩;have B8:=Lib.hid (B7.out.trans hBs8);clear hBs8) | (go_at_call 83;refine (HSO.out _).mono ?_;rintro e w7 ⟨rfl,hb7⟩;have hR7:=hR6.below hb7 hR6.lt;have B7:=Lib.hid (B6.out.trans (Beside.of_below hb7 (Nat.le_refl _)));clear hb7))
    all_goals go_meet
    all_goals exact ⟨_,_,rfl,rfl,hsz1,hsz,by first | exact hR8.mono (by omega) | exact hR7.mono (by omega),by first | exact B8 | exact B7⟩
  case rest =>
    obtain ⟨S,b,rfl,rfl,hS1,hS2,hR,hB⟩:=hcut
    go_upto_if 30 with fail
    go_cut [3] from 23 (fun s3 wx => ∃ (S' : ByteArray),s3 = .string S' ∧ 1 ≤ S'.size ∧ S'.size ≤ 1800 ∧ wx = wc)
    case first =>
      cases b
      · go_wp2_with fail
        go_meet
        exact ⟨S,rfl,hS1,hS2,rfl⟩
      · go_wp2_with fail
        go_meet
        exact ⟨_,rfl,by decide,by decide,rfl⟩
    case rest =>
      obtain ⟨S',rfl,hS3,hS4,rfl⟩:=hcut
      go_wp2_with (first | (go_at_call 44;have _u:=hR9;refine (pick rb (k + 161) S'.size _ hR9 (by omega) (by omega)).mono ?_;rintro e w10 ⟨v10,rfl,hv10,_,hR10,hBs10⟩;obtain ⟨hv100,hv101⟩:=hv10 (by omega);obtain ⟨n10,rfl⟩:=Int.eq_ofNat_of_zero_le hv100;have B10:=Lib.hid (B9.out.trans hBs10);clear hBs10 hv10) | (go_at_call 44;refine (pick rb (k + 160) 24 _ hR (by omega) (by omega)).mono ?_;rintro e w9 ⟨v9,rfl,hv9,_,hR9,hBs9⟩;have B9:=Lib.hid (hB.out.trans hBs9);clear hBs9 hv9))
      · have kk1 : n10 < S'.size:=by omega
        have kk2 : n10 ≤ S'.size:=by omega
        have kk3 : n10 + 1 ≤ S'.size:=by omega
        have kk4 : (0 : Int) ≤ (n10 : Int) + 1:=by omega
        have kk5 : (n10 : Int) + 1 ≤ (S'.size : Int):=by omega
        have kw : IntKind.i64.wrap ((n10 : Int) + 1) = (n10 : Int) + 1:=by
          have:=wrap_nat_i64 (n10 + 1) (by omega)
          rw [show ((n10 + 1 : Nat) : Int) = (n10 : Int) + 1 by omega] at this
          exact this
        have ks : ∀ wz,(Instr.slice 9 (.string S') (some (.int .i64 ((n10 : Int) + 1))) none none).run Tryz.prog wz = .ok (.string (S'.extract (n10 + 1) S'.size)) wz:=fun wz => run_slice_string_l wz 9 S' Tryz.underlying9 .i64 ((n10 : Int) + 1) kk4 kk5
        go_region_with (first | (go_at_call 44;refine (pick rb (k + 162) 5 _ ((hR10.alloc _).drewN 1) (by omega) (by omega)).mono ?_;rintro e w11 ⟨v11,rfl,hv11,_,hR11,hBs11⟩;obtain ⟨hv110,hv111⟩:=hv11 (by omega);obtain ⟨x,hx0,hxm,hxc⟩:=cell_picks 1 [[],[44],[58],[49],[10]] (w1:=w10) (Beside.trans (Beside.drew (Beside.refl _ _)) hBs11) hR10.lt v11 hv110 hv111 (by decide);have a1:=fun wz => run_string_add_sum (P:=Tryz.prog) (w:=wz) (S'.extract 0 n10) x (by rw [ByteArray.size_extract];omega);have a2:=fun wz => run_string_add_sum (P:=Tryz.prog) (w:=wz) (S'.extract 0 n10 ++ x) (S'.extract (n10 + 1) S'.size) (by rw [ByteArray.size_append,ByteArray.size_extract,ByteArray.size_extract];omega);have B11:=Lib.hid (((B10.out.alloc _).drew).trans hBs11);clear hBs11 hv11) | (go_at_call 44;refine (pick rb (k + 162) 5 _ (hR10.drewN 1) (by omega) (by omega)).mono ?_;rintro e w11 ⟨v11,rfl,hv11,_,hR11,hBs11⟩;obtain ⟨hv110,hv111⟩:=hv11 (by omega);obtain ⟨x,hx0,hxm,hxc⟩:=el_picks 1 [[],[44],[58],[49],[10]] v11 hv110 hv111 (by decide);have hel : ∀ h,[Value.string ⟨#[]⟩,Value.string ⟨#[44]⟩,Value.string ⟨#[58]⟩,Value.string ⟨#[49]⟩,Value.string ⟨#[10]⟩][v11.toNat]'h = .string x:=(fun h => hxc h);clear hxc;have a1:=fun wz => run_string_add_sum (P:=Tryz.prog) (w:=wz) (S'.extract 0 n10) x (by rw [ByteArray.size_extract];omega);have a2:=fun wz => run_string_add_sum (P:=Tryz.prog) (w:=wz) (S'.extract 0 n10 ++ x) (S'.extract (n10 + 1) S'.size) (by rw [ByteArray.size_append,ByteArray.size_extract,ByteArray.size_extract];omega);have B11:=Lib.hid ((B10.out.drew).trans hBs11);clear hBs11 hv11))
        all_goals go_wp2_with fail
        all_goals go_ret
        all_goals exact ⟨_,rfl,by rw [ByteArray.size_append,ByteArray.size_append,ByteArray.size_extract,ByteArray.size_extract];omega,by first | exact hR11.mono (by omega) | exact (hR11.alloc _).mono (by omega),by first | exact B11.out | exact B11.out.alloc _⟩
      · go_ret
        exact ⟨S',rfl,by omega,hR9.mono (by omega),B9.out⟩
end Go.Proofs.YtmdacedmjbiekaaGreatDoor

namespace Go.Proofs.YtmdacedmjbiekaaGreatDoor
theorem pre_parts {c : UInt8} {l a r : List UInt8} (h : l = a ++ c :: r) : l.take a.length = a ∧ l.drop (a.length + [c].length) = r:=by
  subst h
  refine ⟨List.take_left' rfl, ?_⟩
  rw [List.length_singleton,← List.drop_drop,List.drop_left' rfl]
  rfl
theorem index_cut1 (c : UInt8) : ∀ l : List UInt8,Lib.index l [c] = bif (Wf.cut1 c l).2.2 then ((Wf.cut1 c l).1.length : Int) else -1:=by
  intro l
  induction l with
  | nil => rfl
  | cons b l ih =>
    unfold Lib.index
    by_cases h : b = c
    · subst h
      have hp : List.isPrefixOf [b] (b :: l) = true:=by simp [List.isPrefixOf]
      rw [if_pos hp]
      simp [Wf.cut1]
    · have hp : List.isPrefixOf [c] (b :: l) = false:=by
        simp only [List.isPrefixOf,Bool.and_eq_false_imp,beq_iff_eq]
        intro e;exact absurd e.symm h
      rw [hp,ih,if_neg (by decide)]
      simp only [Wf.cut1,if_neg h]
      cases hb : (Wf.cut1 c l).2.2 with
      | true =>
        simp only [cond_true]
        have : ((((Wf.cut1 c l).1.length : Int)) == -1) = false:=by rw [beq_eq_false_iff_ne];omega
        rw [this,if_neg (by decide),List.length_cons]
        omega
      | false => rfl
theorem cut_one (c : UInt8) (l : List UInt8) : Lib.cut l [c] = Wf.cut1 c l:=by
  unfold Lib.cut
  rw [index_cut1]
  cases hb : (Wf.cut1 c l).2.2 with
  | true =>
    obtain ⟨e1,e2⟩:=pre_parts (Wf.cut1_true hb).1
    simp only [cond_true]
    rw [if_pos (by omega),Int.toNat_natCast,e1,e2]
    exact Prod.ext rfl (Prod.ext rfl hb.symm)
  | false =>
    obtain ⟨h1,h2,h3,h4⟩:=Wf.cut1_false hb
    simp only [cond_false]
    rw [if_neg (by decide)]
    exact Prod.ext h1.symm (Prod.ext h2.symm hb.symm)
theorem split_cut (c : UInt8) : ∀ (n : Nat) (l : List UInt8),l.length ≤ n → Lib.splitK [c] 0 (Lib.count l [c]) l = Wf.cutAt c l:=by
  intro n
  induction n with
  | zero =>
    intro l hl
    have : l = []:=List.eq_nil_of_length_eq_zero (by omega)
    subst this;rfl
  | succ n ih =>
    intro l hl
    cases hb : (Wf.cut1 c l).2.2 with
    | false =>
      have hi : Lib.index l [c] = -1:=by rw [index_cut1,hb];rfl
      rw [Lib.count_miss hi,(Wf.cut1_false hb).2.2.2]
      rfl
    | true =>
      obtain ⟨h1,h2,h3⟩:=Wf.cut1_true hb
      obtain ⟨e1,hd⟩:=pre_parts h1
      have hi : Lib.index l [c] = ((Wf.cut1 c l).1.length : Int):=by rw [index_cut1,hb];rfl
      have hlen : (Wf.cut1 c l).2.1.length ≤ n:=by
        have:=congrArg List.length h1
        rw [List.length_append,List.length_cons] at this
        omega
      rw [Lib.count_hit (by simp) hi,hd,h3,Nat.add_comm 1,Lib.splitK]
      have hx : (Lib.index l [c] == -1) = false:=by rw [hi,beq_eq_false_iff_ne];omega
      rw [hx,if_neg (by decide),hi,Int.toNat_natCast,hd,ih _ hlen,Nat.add_zero,e1]
theorem split_one (c : UInt8) (s : ByteArray) : (Lib.splitB ⟨#[c]⟩ 0 (Lib.countB s ⟨#[c]⟩) s).map Value.string = (Wf.cutAt c s.data.toList).map fun l => Value.string ⟨l.toArray⟩:=by
  have h:=Lib.splitB_data ⟨#[c]⟩ 0 (Lib.countB s ⟨#[c]⟩) s
  have h2 : Lib.splitK (⟨#[c]⟩ : ByteArray).data.toList 0 (Lib.countB s ⟨#[c]⟩) s.data.toList = Wf.cutAt c s.data.toList:=split_cut c _ s.data.toList (Nat.le_refl _)
  rw [h2] at h
  rw [← h,List.map_map]
  exact List.map_congr_left fun x _ => by rfl
theorem count_one (c : UInt8) (s : ByteArray) : Lib.countB s ⟨#[c]⟩ + 1 = (Wf.cutAt c s.data.toList).length:=by
  have h:=congrArg List.length (split_one c s)
  rw [List.length_map,List.length_map] at h
  rw [← h]
  exact (Lib.splitB_all ⟨#[c]⟩ (Nat.le_refl _) 0 _ s rfl).symm
end Go.Proofs.YtmdacedmjbiekaaGreatDoor

namespace Go.Proofs.YtmdacedmjbiekaaGreatDoor
open Go.ChangeShapes Go.WideShapes Go.ChangeAt Go.RowKit Go.Lib
set_option linter.unusedVariables false
def textSet : List UInt8:=[97,98,99,100,101,102,103,104,105,106,107,108,109,110,111,112,113,114,115,116,117,118,119,120,121,122,48,49,50,51,52,53,54,55,56,57,32]
theorem text_is (c : UInt8) : textSet.contains c = Wf.isTxt c:=by
  have h : ∀ n : Fin 256,textSet.contains (UInt8.ofNat n.val) = Wf.isTxt (UInt8.ofNat n.val):=by decide +kernel
  have:=h ⟨c.toNat,c.toNat_lt⟩
  simpa using this
theorem trim_text (l : List UInt8) : Lib.trimS l textSet = [] ↔ l.all Wf.isTxt = true:=by
  have hp : (fun x => textSet.contains x) = Wf.isTxt:=funext text_is
  unfold Lib.trimS Lib.trimLeftS Lib.trimRightS
  rw [hp,drop_nil]
  constructor
  · intro h
    have h2 : l.reverse.all Wf.isTxt = true:=by
      rw [← List.takeWhile_append_dropWhile (p:=Wf.isTxt) (l:=l.reverse),List.all_append,List.all_takeWhile,Bool.true_and]
      simpa using h
    simpa using h2
  · intro h
    have : l.reverse.dropWhile Wf.isTxt = []:=(drop_nil _ _).2 (by simpa using h)
    rw [this];rfl
theorem text_off (s : ByteArray) (w : World) (hs : s.size ≤ 9223372036854775807) : Calls Tryz.prog 155 #[.string s, .string ⟨#[97,98,99,100,101,102,103,104,105,106,107,108,109,110,111,112,113,114,115,116,117,118,119,120,121,122,48,49,50,51,52,53,54,55,56,57,32]⟩] w fun e w' => e = .returned (.string ⟨(Lib.trimS s.data.toList textSet).toArray⟩) ∧ Go.RowKit.Below w.heap.size w w' :=
  Any.strings_Trim_laid Tryz.lays160 (by kernel_rfl) s ⟨#[97,98,99,100,101,102,103,104,105,106,107,108,109,110,111,112,113,114,115,116,117,118,119,120,121,122,48,49,50,51,52,53,54,55,56,57,32]⟩ w hs (by decide) (ascii_of_all (by decide))
def isTextB (l : List UInt8) : Bool:=decide (l.length ≤ 12) && l.all Wf.isTxt
set_option maxRecDepth 20000 in
theorem isText (s : ByteArray) (w : World) (hs : s.size ≤ 9223372036854775807) : Calls Tryz.prog 185 #[.string s] w fun e w' => e = .returned (.bool (isTextB s.data.toList)) ∧ Below w.heap.size w w':=by
  have hl:=size_list s
  by_cases h12 : s.size ≤ 12
  · have HT:=hid fun wz => text_off s wz hs
    have HN:=hid (show (Lib.trimS s.data.toList textSet).isEmpty = isTextB s.data.toList by
      have h:=trim_text s.data.toList
      unfold isTextB
      rw [hl,decide_eq_true h12,Bool.true_and,Bool.eq_iff_iff,List.isEmpty_iff]
      exact h)
    clear hl
    go_enter Tryz.func185,Tryz.ntmps185
    go_wp2_with (go_at_call 155;refine (HT.out _).mono ?_;rintro e w1 ⟨rfl,hb⟩)
    go_ret
    exact ⟨ret_b HN.out,hb⟩
  · have HN:=hid (show false = isTextB s.data.toList by unfold isTextB;rw [hl,decide_eq_false h12];rfl)
    clear hl
    go_enter Tryz.func185,Tryz.ntmps185
    go_wp2
    go_ret
    exact ⟨ret_b HN.out,Below.refl _ _⟩
set_option maxRecDepth 20000 in
theorem standing_n (s : ByteArray) (w : World) : Calls Tryz.prog 166 #[tx [110], .string s] w fun e w' => e = .returned (.bool (Wf.stOk .num s.data.toList)) ∧ Below w.heap.size w w':=by
  have HP:=hid fun wz => plainNumber s 999999 (Nat.le_refl _) wz
  cases hp : Wf.plainN s.data.toList 999999 with
  | none =>
    have HO:=hid fun e (h : NumOut s.data.toList 999999 e) => (by unfold NumOut at h;rw [hp] at h;exact h : ∃ m : Int,e = .returned (.tuple #[.int .i64 m, .bool false]))
    have HN:=hid (show false = Wf.stOk .num s.data.toList by unfold Wf.stOk;rw [hp])
    clear hp
    go_enter Tryz.func166,Tryz.ntmps166
    go_wp2_with (go_at_call 165;refine (HP.out _).mono ?_;rintro e w1 ⟨ho,rfl⟩;obtain ⟨m,rfl⟩:=HO.out _ ho;clear ho)
    go_ret
    exact ⟨ret_b HN.out,Below.refl _ _⟩
  | some n =>
    have HO:=hid fun e (h : NumOut s.data.toList 999999 e) => (by unfold NumOut at h;rw [hp] at h;exact h : e = .returned (.tuple #[.int .i64 n, .bool true]))
    have HN:=hid (show decide ((0 : Int) < n) = Wf.stOk .num s.data.toList by unfold Wf.stOk;rw [hp];dsimp only;rw [decide_eq_decide];omega)
    clear hp
    go_enter Tryz.func166,Tryz.ntmps166
    go_wp2_with (go_at_call 165;refine (HP.out _).mono ?_;rintro e w1 ⟨ho,rfl⟩;obtain rfl:=HO.out _ ho;clear ho)
    go_ret
    exact ⟨ret_b (by rw [← HN.out];simp),Below.refl _ _⟩
set_option maxRecDepth 20000 in
theorem standing_at (s : ByteArray) (w : World) : Calls Tryz.prog 166 #[tx [64], .string s] w fun e w' => e = .returned (.bool false) ∧ Below w.heap.size w w':=by
  go_enter Tryz.func166,Tryz.ntmps166
  go_wp2
  go_ret
  exact ⟨rfl,Below.refl _ _⟩
set_option maxRecDepth 20000 in
theorem standing_f (s : ByteArray) (w : World) : Calls Tryz.prog 166 #[tx [102], .string s] w fun e w' => e = .returned (.bool (Wf.stOk .flag s.data.toList)) ∧ Below w.heap.size w w':=by
  have HN:=hid (show (s.toList == [121,101,115]) = Wf.stOk .flag s.data.toList by unfold Wf.stOk;rw [ByteArray.toList_eq,Bool.beq_eq_decide_eq])
  go_enter Tryz.func166,Tryz.ntmps166
  go_wp2
  go_ret
  exact ⟨ret_b (by rw [← HN.out]),Below.refl _ _⟩
theorem stt_short {l : List UInt8} (h : l.length ≤ 2) : Wf.stOk .txt l = false:=by
  unfold Wf.stOk
  dsimp only
  by_cases h2 : l.length < 2
  · rw [q_short h2];rfl
  · obtain ⟨a,m,z,rfl⟩:=q_mk (show 2 ≤ l.length by omega)
    have hm : m = []:=List.eq_nil_of_length_eq_zero (by simp only [List.length_cons,List.length_append,List.length_nil] at h;omega)
    subst hm
    rw [q_eq]
    by_cases ha : a = 39
    · by_cases hz : z = 39
      · subst ha hz;rfl
      · rw [decide_eq_false hz,Bool.and_false];rfl
    · rw [decide_eq_false ha];rfl
theorem stt_long {l : List UInt8} (h : 2 < l.length) : Wf.stOk .txt l = Wf.quoted l:=by
  unfold Wf.stOk
  dsimp only
  have : l ≠ [39,39]:=by intro e;rw [e] at h;simp at h
  rw [decide_eq_true this,Bool.and_true]
theorem stt_mid {s : ByteArray} (h : 2 < s.size) (h0 : s.data.toList[0]? = some 39) (h9 : s.data.toList[s.size - 1]? = some 39) : isTextB (s.extract 1 (s.size - 1)).data.toList = Wf.stOk .txt s.data.toList:=by
  have hl:=size_list s
  rw [stt_long (by omega)]
  obtain ⟨a,m,z,he⟩:=q_mk (show 2 ≤ s.data.toList.length by omega)
  have hlm : s.size = m.length + 2:=by rw [← hl,he];simp
  rw [he] at h0 h9
  have ha : a = 39:=by simpa using h0
  have hz : z = 39:=by
    rw [hlm,show m.length + 2 - 1 = m.length + 1 by omega,List.getElem?_cons_succ,List.getElem?_append_right (Nat.le_refl _),Nat.sub_self] at h9
    simpa using h9
  have hx : (s.extract 1 (s.size - 1)).data.toList = m:=by
    rw [ext_list,he,List.drop_one,List.tail_cons,hlm,show m.length + 2 - 1 - 1 = m.length by omega,List.take_left' rfl]
  rw [hx,he,q_eq,ha,hz]
  unfold isTextB
  simp [Bool.and_comm]
set_option maxRecDepth 20000 in
set_option maxHeartbeats 1000000 in
theorem standing_t (s : ByteArray) (w : World) (hs : s.size ≤ 1000000) : Calls Tryz.prog 166 #[tx [116], .string s] w fun e w' => e = .returned (.bool (Wf.stOk .txt s.data.toList)) ∧ Below w.heap.size w w':=by
  have hl:=size_list s
  by_cases h2 : 2 < s.size
  · obtain ⟨c0,hc0,e0⟩:=byte_at s 0 (by omega)
    obtain ⟨a,ha⟩ : ∃ a,c0.toNat = a:=⟨_,rfl⟩
    obtain ⟨c9,hc9,e9⟩:=byte_at s (s.size - 1) (by omega)
    obtain ⟨z,hz⟩ : ∃ z,c9.toNat = z:=⟨_,rfl⟩
    rw [ha] at e0
    rw [hz] at e9
    have e0':=e0 (Nat.lt_trans (by decide) h2)
    have e9':=e9 (Nat.sub_lt (Nat.lt_trans (by decide) h2) (by decide))
    by_cases ha39 : a = 39
    · by_cases hz39 : z = 39
      · subst ha39 hz39
        obtain ⟨B,hB⟩ : ∃ B,isTextB (s.extract 1 (s.size - 1)).data.toList = B:=⟨_,rfl⟩
        have HN:=hid (stt_mid h2 (by rw [hc0];exact congrArg some (UInt8.toNat_inj.1 (by rw [ha];rfl))) (by rw [hc9];exact congrArg some (UInt8.toNat_inj.1 (by rw [hz];rfl))))
        have HT:=hid fun wz => isText (s.extract 1 (s.size - 1)) wz (by rw [ByteArray.size_extract];omega)
        rw [hB] at HN HT
        clear hB ha hz hc0 hc9 hl e0 e9
        go_enter Tryz.func166,Tryz.ntmps166
        go_wp2_with (go_at_call 185;refine (HT.out _).mono ?_;rintro e w1 ⟨rfl,hb⟩)
        go_ret
        exact ⟨ret_b HN.out,hb⟩
      · have HN:=hid (show false = Wf.stOk .txt s.data.toList by
          rw [stt_long (by omega),q_last (by omega) (by rw [hl];exact hc9) (by intro e;apply hz39;rw [← hz,e];rfl)])
        have tz : ((z : Int) == 39) = false:=by rw [beq_eq_false_iff_ne];omega
        subst ha39
        clear ha hz hc0 hc9 hl e0 e9 hz39
        go_enter Tryz.func166,Tryz.ntmps166
        go_wp2_with fail
        go_ret
        exact ⟨ret_b HN.out,Below.refl _ _⟩
    · have HN:=hid (show false = Wf.stOk .txt s.data.toList by
        rw [stt_long (by omega),q_first hc0 (by intro e;apply ha39;rw [← ha,e];rfl)])
      have ta : ((a : Int) == 39) = false:=by rw [beq_eq_false_iff_ne];omega
      clear ha hz hc0 hc9 hl e0 e9 ha39
      go_enter Tryz.func166,Tryz.ntmps166
      go_wp2_with fail
      go_ret
      exact ⟨ret_b HN.out,Below.refl _ _⟩
  · have HN:=hid (show false = Wf.stOk .txt s.data.toList by rw [stt_short (by omega)])
    clear hl
    go_enter Tryz.func166,Tryz.ntmps166
    go_wp2_with fail
    go_ret
    exact ⟨ret_b HN.out,Below.refl _ _⟩
theorem standing (k : Wf.K) (h0 : k.signs = []) (s : ByteArray) (w : World) (hs : s.size ≤ 1000000) : Calls Tryz.prog 166 #[tx k.base, .string s] w fun e w' => e = .returned (.bool (Wf.stOk k s.data.toList)) ∧ Below w.heap.size w w':=by
  cases k with
  | num => exact standing_n s w
  | txt => exact standing_t s w hs
  | flag => exact standing_f s w
  | ref n => exact standing_at s w
  | list k => cases h0
  | opt k => cases h0
end Go.Proofs.YtmdacedmjbiekaaGreatDoor
