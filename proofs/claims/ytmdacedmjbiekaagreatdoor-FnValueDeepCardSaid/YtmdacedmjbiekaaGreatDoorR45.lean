/- Packed by pack.py: Vy Vz Wa Xp PlainY Xr. -/
import Derived.Test.YtmdacedmjbiekaaGreatDoorR44
import Derived.Test.YtmdacedmjbiekaaGreatDoorR24
import Derived.Test.YtmdacedmjbiekaaGreatDoorR40
import Derived.Test.YtmdacedmjbiekaaGreatDoorR25
namespace Go.Proofs.YtmdacedmjbiekaaGreatDoor
open Go.ChangeShapes Go.WideShapes Go.ChangeAt Go.RowKit Go.Lib
set_option linter.unusedVariables false
set_option linter.unusedSimpArgs false
def RvOut (x : Wf.Sc) (k : Wf.K) (s : List UInt8) (w : World) (e : Ending) (w' : World) : Prop:=match Wf.valIn x k s with
  | some v => ∃ cs,e = .returned (.tuple #[.agg cs.toArray, .bool true]) ∧ VC w' (fun b => w.heap.size ≤ b) v cs
  | none => e = .returned (.tuple #[.agg #[.int .u8 0, .string ⟨#[]⟩, .int .i64 0, .slice none 0 0], .bool false])
theorem RvOut.no {x : Wf.Sc} {k : Wf.K} {s : List UInt8} {w w' : World} {e : Ending} (h : Wf.valIn x k s = none) (he : e = .returned (.tuple #[.agg #[.int .u8 0, .string ⟨#[]⟩, .int .i64 0, .slice none 0 0], .bool false])) : RvOut x k s w e w':=by
  unfold RvOut;rw [h];exact he
theorem RvOut.yes {x : Wf.Sc} {k : Wf.K} {s : List UInt8} {w w' : World} {e : Ending} {v : Wf.V} {cs : List Value} (h : Wf.valIn x k s = some v) (he : e = .returned (.tuple #[.agg cs.toArray, .bool true])) (hv : VC w' (fun b => w.heap.size ≤ b) v cs) : RvOut x k s w e w':=by
  unfold RvOut;rw [h];exact ⟨cs,he,hv⟩
theorem start_read (w : World) (SG BS NM S : ByteArray) (sb : Nat) (W1 : World) (hW1 : ((w.alloc (.cells #[.string SG, .string BS, .string NM] 57)).alloc (.cells #[.int .u8 0, .string ⟨#[]⟩, .int .i64 0, .slice none 0 0] 92)).alloc (.cells #[ptr sb, .string S, .bool false] 153) = W1) :
    W1.cell? ⟨w.heap.size,0,none⟩ = some (.string SG) ∧ W1.cell? ⟨w.heap.size,1,none⟩ = some (.string BS) ∧ W1.cell? ⟨w.heap.size,2,none⟩ = some (.string NM) ∧ Zero W1 (w.heap.size + 1) ∧ Sn W1 (w.heap.size + 1 + 1) sb S.data.toList false ∧ Below w.heap.size w W1:=by
  have hB : Below w.heap.size w W1:=by
    rw [← hW1]
    exact ((((Below.refl _ _).alloc (Nat.le_refl _) _).alloc (by simp) _).alloc (by simp;omega) _)
  subst hW1
  refine ⟨?_, ?_, ?_,⟨?_, ?_, ?_, ?_, ?_, ?_, ?_, ?_, ?_⟩,⟨?_, ?_, ?_, ?_, ?_, ?_⟩,hB⟩
  all_goals first | (simp [go_sem];done) | (simp [go_sem];omega)
section
variable (x : Wf.Sc) (k : Wf.K) (sb : Nat) (s : List UInt8) (W w : World)
set_option maxRecDepth 20000 in
set_option maxHeartbeats 1000000 in
theorem read_long (hs : ¬ s.length ≤ 400) (hs2 : s.length ≤ 9000000000) : Calls Tryz.prog 66 #[ptr sb,kV k,tx s] w fun e w' => RvOut x k s w e w' ∧ Below w.heap.size w w':=by
  have HV:=hid (Wf.valIn_long (x:=x) (k:=k) hs)
  obtain ⟨SG,hSG⟩ : ∃ SG : ByteArray,(⟨k.signs.toArray⟩ : ByteArray) = SG:=⟨_,rfl⟩
  obtain ⟨BS,hBS⟩ : ∃ BS : ByteArray,(⟨k.base.toArray⟩ : ByteArray) = BS:=⟨_,rfl⟩
  obtain ⟨NM,hNM⟩ : ∃ NM : ByteArray,(⟨k.name.toArray⟩ : ByteArray) = NM:=⟨_,rfl⟩
  obtain ⟨S,hS⟩ : ∃ S : ByteArray,(⟨s.toArray⟩ : ByteArray) = S:=⟨_,rfl⟩
  have hsz : 400 < S.size:=by rw [← hS];show 400 < s.length;omega
  have hsz2 : S.size ≤ 9000000000:=by rw [← hS];exact hs2
  simp only [kV,tx,hSG,hBS,hNM,hS]
  clear hSG hBS hNM hS hs hs2
  go_enter Tryz.func66,Tryz.ntmps66
  go_wp2_with fail
  exact bodyPost_ret (v:=.tuple #[.agg #[.int .u8 0, .string ⟨#[]⟩, .int .i64 0, .slice none 0 0], .bool false]) (by simp [results,Tryz.results66,go_sem, *]) rfl ⟨RvOut.no HV.out rfl,by repeat (first | with_reducible exact Below.refl _ _ | with_reducible refine Below.drew ?_ | with_reducible refine Below.setCell ?_ (by simp) _ | with_reducible refine Below.alloc ?_ (by first | exact Nat.le_refl _ | simp) _)⟩
set_option maxRecDepth 20000 in
set_option maxHeartbeats 2000000 in
theorem read_short (hx : Wf.ScOk x) (lo : Nat) (hsc : ScL W lo sb x) (hk : KOk x k) (hs : s.length ≤ 400) (hW : Below W.heap.size W w) : Calls Tryz.prog 66 #[ptr sb,kV k,tx s] w fun e w' => RvOut x k s w e w' ∧ Below w.heap.size w w':=by
  have HV:=hid (Wf.valIn_deep (x:=x) (k:=k) hs)
  have hrd:=value x hx lo (w.heap.size + 1 + 1) sb W hsc (by have:=hW.size;omega) 401 k hk
  obtain ⟨SG,hSG⟩ : ∃ SG : ByteArray,(⟨k.signs.toArray⟩ : ByteArray) = SG:=⟨_,rfl⟩
  obtain ⟨BS,hBS⟩ : ∃ BS : ByteArray,(⟨k.base.toArray⟩ : ByteArray) = BS:=⟨_,rfl⟩
  obtain ⟨NM,hNM⟩ : ∃ NM : ByteArray,(⟨k.name.toArray⟩ : ByteArray) = NM:=⟨_,rfl⟩
  obtain ⟨S,hS⟩ : ∃ S : ByteArray,(⟨s.toArray⟩ : ByteArray) = S:=⟨_,rfl⟩
  have hsz : S.size ≤ 400:=by rw [← hS];exact hs
  have hsl : S.data.toList = s:=by rw [← hS]
  have HSL:=hid hsl
  have hkv : kV k = .agg #[.string SG, .string BS, .string NM]:=by simp only [kV,tx,hSG,hBS,hNM]
  have HRD:=hid fun (w2 : World) (hb : Below W.heap.size W w2) (h : Sn w2 (w.heap.size + 1 + 1) sb S.data.toList false) => (by rw [hsl] at h;rw [← hkv];exact hrd s w2 hb h (by omega) hs : Calls Tryz.prog 98 #[ptr (w.heap.size + 1 + 1), .agg #[.string SG, .string BS, .string NM]] w2 fun e w' => RdOut (Wf.parse x 401 k s) s (w.heap.size + 1 + 1) sb w2 e w')
  have ST:=hid fun W1 h => start_read w SG BS NM S sb W1 h
  have HW:=hid hW
  simp only [hkv,tx,hS]
  clear hkv hSG hBS hNM hS hsl hrd hs hW hsc hx hk
  have hrb : w.heap.size + 1 < w.heap.size + 1 + 1:=by omega
  cases hp : Wf.parse x 401 k s with
  | none =>
    have HP:=hid hp
    rw [hp] at HRD HV
    have HVN:=hid (show Wf.valIn x k s = none from HV.out)
    clear hp HV
    go_enter Tryz.func66,Tryz.ntmps66
    go_wp2_with (go_at_call 98;obtain ⟨d0,d1,d2,z0,sn0,b0⟩:=ST.out _ rfl;refine (HRD.out _ (HW.out.trans (b0.mono HW.out.size)) sn0).mono ?_;rintro e w2 ⟨cs,v,r,rfl,hvc,hb2,ho⟩;obtain ⟨q2,g2,n2,c2,T2,a2,rfl⟩:=hvc.cells4;have hs2 : Sn w2 (w.heap.size + 1 + 1) sb r true:=(by rcases ho with ⟨h,_⟩ | ⟨_,_,h⟩;(· cases h);(· exact h));have t1:=hs2.c1;have t2:=hs2.c2;have t3:=hs2.lt;have Z2:=hid (z0.step hb2 (by omega));obtain ⟨zl,zr0,zr1,zr2,zr3,zf0,zf1,zf2,zf3⟩:=Z2.out;have BW2:=hid (Beside.below (Below.refl w.heap.size w) (Nat.le_refl _) (by omega) ((Beside.of_below (rb:=w.heap.size + 1 + 1) b0 (Nat.le_refl _)).trans hb2));have SZ0:=hid b0.size;have SZ1:=hid sn0.lt;have HVC:=hid hvc;clear hvc hb2 ho d0 d1 d2 z0 sn0 b0 hs2)
    all_goals exact bodyPost_ret (v:=.tuple #[.agg #[.int .u8 0, .string ⟨#[]⟩, .int .i64 0, .slice none 0 0], .bool false]) (by simp [results,Tryz.results66,go_sem, *]) rfl ⟨RvOut.no HVN.out rfl,by have B:=BW2.out;repeat (first | with_reducible exact B | with_reducible refine Below.drew ?_ | with_reducible refine Below.setCell ?_ (by simp) _ | with_reducible refine Below.alloc ?_ (by first | exact B.size | (simp;omega)) _)⟩
  | some y =>
    obtain ⟨u,q⟩:=y
    have htd:=(Wf.typed_deep 401 k u (Wf.parse_say _ _ _ _ _ hp).1).2
    obtain ⟨Q,hQ⟩ : ∃ Q : ByteArray,(⟨q.toArray⟩ : ByteArray) = Q:=⟨_,rfl⟩
    have HQ:=hid hQ
    rw [hp] at HRD HV
    by_cases hq : q = []
    · have hqe : Q.toList.isEmpty = true:=by rw [← hQ,ByteArray.toList_eq,hq];rfl
      have hqe2 : Q.toList = []:=List.isEmpty_iff.1 hqe
      obtain ⟨D,hD⟩ : ∃ D,u.deep = D:=⟨_,rfl⟩
      have hD6 : D ≤ 401:=by rw [← hD];exact htd
      have HDP:=hid fun (P : Nat → Prop) (cs : List Value) (W2 w2 : World) (hv : VC W2 P u cs) (hb : Below W2.heap.size W2 w2) => (by rw [← hD];exact deep u P cs W2 w2 hv hb (by omega) : Calls Tryz.prog 56 #[.agg cs.toArray] w2 fun e w' => e = .returned (.int .i64 D) ∧ Below w2.heap.size w2 w')
      by_cases hd : D ≤ 12
      · have HVY:=hid (show Wf.valIn x k s = some u by rw [HV.out];dsimp only;rw [if_pos ⟨hq,by omega⟩])
        clear hp HV hq hQ hD
        go_enter Tryz.func66,Tryz.ntmps66
        go_wp2_with (first | (go_at_call 56;have _u:=HVC;refine (HDP.out _ _ w2 _ HVC.out ((Below.refl _ _).alloc (Nat.le_refl _) _)).mono ?_;rintro e w3 ⟨rfl,hb3⟩;have B3:=hid (below_join ((Below.refl w2.heap.size w2).alloc (Nat.le_refl _) _) hb3);obtain ⟨hc3,hf3⟩:=bcell hb3;have hz3 : w2.heap.size < w3.heap.size:=(by have:=hb3.size;simp at this;omega);have Z3:=hid (Z2.out.below B3.out Z2.out.lt);obtain ⟨yl,yr0,yr1,yr2,yr3,yf0,yf1,yf2,yf3⟩:=Z3.out;clear hb3) | (go_at_call 98;obtain ⟨d0,d1,d2,z0,sn0,b0⟩:=ST.out _ rfl;refine (HRD.out _ (HW.out.trans (b0.mono HW.out.size)) sn0).mono ?_;rintro e w2 ⟨cs,v,r,rfl,hvc,hb2,ho⟩;obtain ⟨q2,g2,n2,c2,T2,a2,rfl⟩:=hvc.cells4;obtain ⟨rfl,rfl,hs2⟩ : v = u ∧ r = q ∧ Sn w2 (w.heap.size + 1 + 1) sb r false:=(by rcases ho with ⟨h,h2⟩ | ⟨h,_⟩;(· simp only [Option.some.injEq,Prod.mk.injEq] at h;obtain ⟨rfl,rfl⟩:=h;exact ⟨rfl,rfl,h2⟩);(· cases h));have t1:=hs2.c1;rw [tx,HQ.out] at t1;have t2:=hs2.c2;have t3:=hs2.lt;have Z2:=hid (z0.step hb2 (by omega));obtain ⟨zl,zr0,zr1,zr2,zr3,zf0,zf1,zf2,zf3⟩:=Z2.out;have BW2:=hid (Beside.below (Below.refl w.heap.size w) (Nat.le_refl _) (by omega) ((Beside.of_below (rb:=w.heap.size + 1 + 1) b0 (Nat.le_refl _)).trans hb2));have SZ0:=hid b0.size;have SZ1:=hid sn0.lt;have HVC:=hid hvc;clear hvc hb2 ho d0 d1 d2 z0 sn0 b0 hs2))
        all_goals exact bodyPost_ret (v:=.tuple #[.agg #[.int .u8 q2, .string T2, .int .i64 g2, .slice a2 n2 c2], .bool true]) (by simp [results,Tryz.results66,go_sem, *]) rfl (by
          have hR : ∀ W4,Beside (w.heap.size + 1) w3 W4 → (RvOut x k s w (.returned (.tuple #[.agg #[.int .u8 q2, .string T2, .int .i64 g2, .slice a2 n2 c2], .bool true])) W4 ∧ Below w.heap.size w W4):=fun W4 hb => by
            refine ⟨RvOut.yes HVY.out (cs:=[.int .u8 q2, .string T2, .int .i64 g2, .slice a2 n2 c2]) rfl (VC.keep (fun b hp hlt => ⟨Nat.le_trans SZ0.out hp, ?_⟩) (Nat.le_trans B3.out.size hb.size) _ _ HVC.out),Beside.below (BW2.out.trans (B3.out.mono BW2.out.size)) (Nat.le_trans BW2.out.size B3.out.size) (by omega) hb⟩
            have h1 : w.heap.size + 1 + 1 < b + 0:=by have:=SZ1.out;omega
            exact (hb.block b (Nat.lt_of_lt_of_le hlt B3.out.size) (by omega)).trans (B3.out.block b hlt)
          refine hR _ ?_
          repeat (first | with_reducible exact Beside.refl _ _ | with_reducible refine Beside.drew ?_ | with_reducible refine Beside.trans ?_ (Beside.set _ _ _ _)))
      · have hd2 : 12 < D:=by omega
        have HVN:=hid (show Wf.valIn x k s = none by rw [HV.out];dsimp only;rw [if_neg (by rintro ⟨_,h⟩;omega)])
        clear hp HV hq hQ hD hd
        go_enter Tryz.func66,Tryz.ntmps66
        go_wp2_with (first | (go_at_call 56;have _u:=HVC;refine (HDP.out _ _ w2 _ HVC.out ((Below.refl _ _).alloc (Nat.le_refl _) _)).mono ?_;rintro e w3 ⟨rfl,hb3⟩;have B3:=hid (below_join ((Below.refl w2.heap.size w2).alloc (Nat.le_refl _) _) hb3);obtain ⟨hc3,hf3⟩:=bcell hb3;have hz3 : w2.heap.size < w3.heap.size:=(by have:=hb3.size;simp at this;omega);have Z3:=hid (Z2.out.below B3.out Z2.out.lt);obtain ⟨yl,yr0,yr1,yr2,yr3,yf0,yf1,yf2,yf3⟩:=Z3.out;clear hb3) | (go_at_call 98;obtain ⟨d0,d1,d2,z0,sn0,b0⟩:=ST.out _ rfl;refine (HRD.out _ (HW.out.trans (b0.mono HW.out.size)) sn0).mono ?_;rintro e w2 ⟨cs,v,r,rfl,hvc,hb2,ho⟩;obtain ⟨q2,g2,n2,c2,T2,a2,rfl⟩:=hvc.cells4;obtain ⟨rfl,rfl,hs2⟩ : v = u ∧ r = q ∧ Sn w2 (w.heap.size + 1 + 1) sb r false:=(by rcases ho with ⟨h,h2⟩ | ⟨h,_⟩;(· simp only [Option.some.injEq,Prod.mk.injEq] at h;obtain ⟨rfl,rfl⟩:=h;exact ⟨rfl,rfl,h2⟩);(· cases h));have t1:=hs2.c1;rw [tx,HQ.out] at t1;have t2:=hs2.c2;have t3:=hs2.lt;have Z2:=hid (z0.step hb2 (by omega));obtain ⟨zl,zr0,zr1,zr2,zr3,zf0,zf1,zf2,zf3⟩:=Z2.out;have BW2:=hid (Beside.below (Below.refl w.heap.size w) (Nat.le_refl _) (by omega) ((Beside.of_below (rb:=w.heap.size + 1 + 1) b0 (Nat.le_refl _)).trans hb2));have SZ0:=hid b0.size;have SZ1:=hid sn0.lt;have HVC:=hid hvc;clear hvc hb2 ho d0 d1 d2 z0 sn0 b0 hs2))
        all_goals exact bodyPost_ret (v:=.tuple #[.agg #[.int .u8 0, .string ⟨#[]⟩, .int .i64 0, .slice none 0 0], .bool false]) (by simp [results,Tryz.results66,go_sem, *]) rfl ⟨RvOut.no HVN.out rfl,by have B:=(BW2.out.trans (B3.out.mono BW2.out.size));repeat (first | with_reducible exact B | with_reducible refine Below.drew ?_ | with_reducible refine Below.setCell ?_ (by simp) _ | with_reducible refine Below.alloc ?_ (by first | exact B.size | (simp;omega)) _)⟩
    · have hqe : Q.toList.isEmpty = false:=by rw [← hQ,ByteArray.toList_eq];cases q with | nil => exact absurd rfl hq | cons a r => rfl
      have hqe2 : Q.toList ≠ []:=by rw [← hQ,ByteArray.toList_eq];exact hq
      have HVN:=hid (show Wf.valIn x k s = none by rw [HV.out];dsimp only;rw [if_neg (fun h => hq h.1)])
      clear hp HV hq hQ
      go_enter Tryz.func66,Tryz.ntmps66
      go_wp2_with (go_at_call 98;obtain ⟨d0,d1,d2,z0,sn0,b0⟩:=ST.out _ rfl;refine (HRD.out _ (HW.out.trans (b0.mono HW.out.size)) sn0).mono ?_;rintro e w2 ⟨cs,v,r,rfl,hvc,hb2,ho⟩;obtain ⟨q2,g2,n2,c2,T2,a2,rfl⟩:=hvc.cells4;obtain ⟨rfl,rfl,hs2⟩ : v = u ∧ r = q ∧ Sn w2 (w.heap.size + 1 + 1) sb r false:=(by rcases ho with ⟨h,h2⟩ | ⟨h,_⟩;(· simp only [Option.some.injEq,Prod.mk.injEq] at h;obtain ⟨rfl,rfl⟩:=h;exact ⟨rfl,rfl,h2⟩);(· cases h));have t1:=hs2.c1;rw [tx,HQ.out] at t1;have t2:=hs2.c2;have t3:=hs2.lt;have Z2:=hid (z0.step hb2 (by omega));obtain ⟨zl,zr0,zr1,zr2,zr3,zf0,zf1,zf2,zf3⟩:=Z2.out;have BW2:=hid (Beside.below (Below.refl w.heap.size w) (Nat.le_refl _) (by omega) ((Beside.of_below (rb:=w.heap.size + 1 + 1) b0 (Nat.le_refl _)).trans hb2));have SZ0:=hid b0.size;have SZ1:=hid sn0.lt;have HVC:=hid hvc;clear hvc hb2 ho d0 d1 d2 z0 sn0 b0 hs2)
      all_goals exact bodyPost_ret (v:=.tuple #[.agg #[.int .u8 0, .string ⟨#[]⟩, .int .i64 0, .slice none 0 0], .bool false]) (by simp [results,Tryz.results66,go_sem, *]) rfl ⟨RvOut.no HVN.out rfl,by have B:=BW2.out;repeat (first | with_reducible exact B | with_reducible refine Below.drew ?_ | with_reducible refine Below.setCell ?_ (by simp) _ | with_reducible refine Below.alloc ?_ (by first | exact B.size | (simp;omega)) _)⟩
end

theorem read (x : Wf.Sc) (hx : Wf.ScOk x) (k : Wf.K) (hk : KOk x k) (lo sb : Nat) (s : List UInt8) (hs : s.length ≤ 9000000000) (W w : World) (hsc : ScL W lo sb x) (hW : Below W.heap.size W w) : Calls Tryz.prog 66 #[ptr sb,kV k,tx s] w fun e w' => RvOut x k s w e w' ∧ Below w.heap.size w w':=by
  by_cases h : s.length ≤ 400
  · exact read_short x k sb s W w hx lo hsc hk h hW
  · exact read_long x k sb s w h hs
def valOf (l kt s : List UInt8) : Option ((Wf.Sc × Wf.K) × Wf.V):=match kindOf l kt with
  | some y => (match Wf.valIn y.1 y.2 s with
    | some v => some (y,v)
    | none => none)
  | none => none
def GivOut (l kt s : List UInt8) (lo : Nat) (e : Ending) (w' : World) : Prop:=match valOf l kt s with
  | some y => ∃ sb cs,e = .returned (.tuple #[ptr sb,kV y.1.2, .agg cs.toArray, .bool true]) ∧ ScL w' lo sb y.1.1 ∧ VC w' (fun b => lo ≤ b) y.2 cs
  | none => ∃ p a b c,e = .returned (.tuple #[.pointer p, .agg #[.string a, .string b, .string c], .agg #[.int .u8 0, .string ⟨#[]⟩, .int .i64 0, .slice none 0 0], .bool false])
theorem GivOut.no {l kt s : List UInt8} {lo : Nat} {e : Ending} {w' : World} (h : valOf l kt s = none) (he : ∃ p a b c,e = .returned (.tuple #[.pointer p, .agg #[.string a, .string b, .string c], .agg #[.int .u8 0, .string ⟨#[]⟩, .int .i64 0, .slice none 0 0], .bool false])) : GivOut l kt s lo e w':=by
  unfold GivOut;rw [h];exact he
theorem GivOut.yes {l kt s : List UInt8} {lo : Nat} {e : Ending} {w' : World} {y : (Wf.Sc × Wf.K) × Wf.V} (h : valOf l kt s = some y) (he : ∃ sb cs,e = .returned (.tuple #[ptr sb,kV y.1.2, .agg cs.toArray, .bool true]) ∧ ScL w' lo sb y.1.1 ∧ VC w' (fun b => lo ≤ b) y.2 cs) : GivOut l kt s lo e w':=by
  unfold GivOut;rw [h];exact he
theorem kindOf_ok {l kt : List UInt8} {y : Wf.Sc × Wf.K} (h : kindOf l kt = some y) : Wf.ScOk y.1 ∧ KOk y.1 y.2:=by
  obtain ⟨h1,h2,h3,h4,h5⟩:=kindOf_text h
  exact ⟨Wf.schemaOf_ok h1,⟨by rw [h4];exact h5,h3⟩⟩
structure ZeroK (wr : World) (b : Nat) : Prop where
  lt : b < wr.heap.size
  r0 : wr.cell? ⟨b,0,none⟩ = some (.string ⟨#[]⟩)
  r1 : wr.cell? ⟨b,1,none⟩ = some (.string ⟨#[]⟩)
  r2 : wr.cell? ⟨b,2,none⟩ = some (.string ⟨#[]⟩)
  f0 : wr.frozen? ⟨b,0,none⟩ = false
  f1 : wr.frozen? ⟨b,1,none⟩ = false
  f2 : wr.frozen? ⟨b,2,none⟩ = false
theorem ZeroK.below {wr w2 : World} {b B : Nat} (h : ZeroK wr b) (hb : Below B wr w2) (hr : b < B) : ZeroK w2 b:=by
  have h1:=hb.block b hr
  have cd:=fun o => World.cell?_of_block (w:=wr) (w':=w2) (a:=⟨b,o,none⟩) h1
  have cf:=fun o => World.frozen?_of_block (w:=wr) (w':=w2) (a:=⟨b,o,none⟩) h1
  exact ⟨Nat.lt_of_lt_of_le h.lt hb.size,(cd 0).trans h.r0,(cd 1).trans h.r1,(cd 2).trans h.r2,(cf 0).trans h.f0,(cf 1).trans h.f1,(cf 2).trans h.f2⟩
theorem start_given (w : World) (W1 : World) (hW1 : (w.alloc (.cells #[.string ⟨#[]⟩, .string ⟨#[]⟩, .string ⟨#[]⟩] 57)).alloc (.cells #[.int .u8 0, .string ⟨#[]⟩, .int .i64 0, .slice none 0 0] 92) = W1) :
    ZeroK W1 w.heap.size ∧ Zero W1 (w.heap.size + 1) ∧ Below w.heap.size w W1:=by
  have hB : Below w.heap.size w W1:=by
    rw [← hW1]
    exact (((Below.refl _ _).alloc (Nat.le_refl _) _).alloc (by simp) _)
  subst hW1
  refine ⟨⟨?_, ?_, ?_, ?_, ?_, ?_, ?_⟩,⟨?_, ?_, ?_, ?_, ?_, ?_, ?_, ?_, ?_⟩,hB⟩
  all_goals first | (simp [go_sem];done) | (simp [go_sem];omega)
structure Over (B : Nat) (w w' : World) : Prop where
  size : w.heap.size ≤ w'.heap.size
  block : ∀ k,B ≤ k → k < w.heap.size → w'.heap[k]? = w.heap[k]?
theorem Over.refl (B : Nat) (w : World) : Over B w w:=⟨Nat.le_refl _,fun _ _ _ => rfl⟩
theorem Over.drew {B : Nat} {w w' : World} (h : Over B w w') : Over B w w'.drew:=⟨h.size,h.block⟩
theorem Over.setCell {B : Nat} {w w' : World} (h : Over B w w') {p : Addr} (hp : p.block < B) (v : Value) : Over B w (w'.setCell p v):=by
  have hs : (w'.setCell p v).heap.size = w'.heap.size:=by simp
  refine ⟨by rw [hs];exact h.size,fun k hk hl => (Below.heap_setCell w' p v k (by omega)).trans (h.block k hk hl)⟩
theorem Over.alloc {B : Nat} {w w' : World} (h : Over B w w') (o : Obj) : Over B w (w'.alloc o):=by
  have hb:=(Below.refl w'.heap.size w').alloc (Nat.le_refl _) o
  exact ⟨Nat.le_trans h.size hb.size,fun k hk hl => (hb.block k (Nat.lt_of_lt_of_le hl h.size)).trans (h.block k hk hl)⟩
theorem Over.below {B : Nat} {w w1 w2 : World} (h : Over B w1 w2) (hb : Below w.heap.size w w1) : ∀ k,B ≤ k → k < w.heap.size → w2.heap[k]? = w.heap[k]?:=fun k hk hl => (h.block k hk (Nat.lt_of_lt_of_le hl hb.size)).trans (hb.block k hl)
set_option maxRecDepth 20000 in
set_option maxHeartbeats 2000000 in
theorem given_no (s kt : ByteArray) (v : ByteArray) (m : Int) (w : World) (hm : ML m w) (hs : s.size ≤ 1048576) (hkt : kt.size ≤ 1048576) (h : kindOf s.data.toList kt.data.toList = none) : Calls Tryz.prog 52 #[.string s, .string kt, .string v] w fun e w' => GivOut s.data.toList kt.data.toList v.data.toList w.heap.size e w' ∧ Below w.heap.size w w':=by
  have HN:=hid (show valOf s.data.toList kt.data.toList v.data.toList = none by unfold valOf;rw [h])
  have HB:=hid fun w2 (h2 : Below w.heap.size w w2) => (both s kt m w2 (hm.below h2) hs hkt).mono (R':=fun e w' => (∃ p a b c,e = .returned (.tuple #[.pointer p, .agg #[.string a, .string b, .string c], .bool false])) ∧ Below w2.heap.size w2 w') fun e w' ⟨h3,h4⟩ => ⟨by unfold BothOut at h3;rw [h] at h3;exact h3,h4⟩
  have ST:=hid fun W1 h => start_given w W1 h
  clear h hm
  go_enter Tryz.func52,Tryz.ntmps52
  go_wp2_with (go_at_call 37;obtain ⟨zk,zv,b0⟩:=ST.out _ rfl;refine (HB.out _ b0).mono ?_;rintro e w1 ⟨⟨p,a,b,c,rfl⟩,hb1⟩;have B1:=hid (below_join b0 hb1);obtain ⟨kl,kr0,kr1,kr2,kf0,kf1,kf2⟩:=zk.below hb1 zk.lt;obtain ⟨zl,zr0,zr1,zr2,zr3,zf0,zf1,zf2,zf3⟩:=zv.below hb1 zv.lt;clear hb1 zk zv b0)
  exact bodyPost_ret (v:=.tuple #[.pointer none, .agg #[.string ⟨#[]⟩, .string ⟨#[]⟩, .string ⟨#[]⟩], .agg #[.int .u8 0, .string ⟨#[]⟩, .int .i64 0, .slice none 0 0], .bool false]) (by simp [results,Tryz.results52,go_sem, *]) rfl ⟨GivOut.no HN.out ⟨_,_,_,_,rfl⟩,by have B:=B1.out;repeat (first | with_reducible exact B | with_reducible refine Below.drew ?_ | with_reducible refine Below.setCell ?_ (by simp) _ | with_reducible refine Below.alloc ?_ (by first | exact B.size | (simp;omega)) _)⟩
set_option maxRecDepth 20000 in
set_option maxHeartbeats 4000000 in
theorem given_yes (s kt : ByteArray) (v : ByteArray) (m : Int) (w : World) (hm : ML m w) (hs : s.size ≤ 1048576) (hkt : kt.size ≤ 1048576) (hv : v.size ≤ 1048576) (x : Wf.Sc) (k : Wf.K) (h : kindOf s.data.toList kt.data.toList = some (x,k)) : Calls Tryz.prog 52 #[.string s, .string kt, .string v] w fun e w' => GivOut s.data.toList kt.data.toList v.data.toList w.heap.size e w' ∧ Below w.heap.size w w':=by
  have HB:=hid fun w2 (h2 : Below w.heap.size w w2) => (both s kt m w2 (hm.below h2) hs hkt).mono (R':=fun e w' => (∃ sb,e = .returned (.tuple #[ptr sb,kV k, .bool true]) ∧ ScL w' w2.heap.size sb x) ∧ Below w2.heap.size w2 w') fun e w' ⟨h3,h4⟩ => ⟨by unfold BothOut at h3;rw [h] at h3;obtain ⟨sb,h5,h6⟩:=h3;exact ⟨sb,h5,h6⟩,h4⟩
  obtain ⟨hx,hk⟩:=kindOf_ok h
  have HRD:=hid fun (w2 w3 : World) (sb : Nat) (hsl : ScL w2 (w.heap.size + 1 + 1) sb x) (hb : Below w2.heap.size w2 w3) => read x hx k hk (w.heap.size + 1 + 1) sb v.data.toList (by rw [size_list];omega) w2 w3 hsl hb
  obtain ⟨SG,hSG⟩ : ∃ SG : ByteArray,(⟨k.signs.toArray⟩ : ByteArray) = SG:=⟨_,rfl⟩
  obtain ⟨BS,hBS⟩ : ∃ BS : ByteArray,(⟨k.base.toArray⟩ : ByteArray) = BS:=⟨_,rfl⟩
  obtain ⟨NM,hNM⟩ : ∃ NM : ByteArray,(⟨k.name.toArray⟩ : ByteArray) = NM:=⟨_,rfl⟩
  have hkv : kV k = .agg #[.string SG, .string BS, .string NM]:=by simp only [kV,tx,hSG,hBS,hNM]
  have hvv : tx v.data.toList = .string v:=rfl
  rw [hkv,hvv] at HRD
  rw [hkv] at HB
  have HKV:=hid hkv
  have ST:=hid fun W1 h => start_given w W1 h
  cases hvi : Wf.valIn x k v.data.toList with
  | none =>
    have HN:=hid (show valOf s.data.toList kt.data.toList v.data.toList = none by unfold valOf;rw [h];dsimp only;rw [hvi])
    have HO:=hid fun (wz : World) e w' (ho : RvOut x k v.data.toList wz e w') => (by unfold RvOut at ho;rw [hvi] at ho;exact ho : e = .returned (.tuple #[.agg #[.int .u8 0, .string ⟨#[]⟩, .int .i64 0, .slice none 0 0], .bool false]))
    clear h hm hx hk hSG hBS hNM hkv hvi hvv
    go_enter Tryz.func52,Tryz.ntmps52
    go_wp2_with (first | (go_at_call 66;have hal:=(Below.refl w1.heap.size w1).alloc (Nat.le_refl _) (.cells #[.string SG, .string BS, .string NM] 57);refine (HRD.out _ _ _ SL1.out hal).mono ?_;rintro e w3 ⟨ho,hb3⟩;obtain rfl:=HO.out _ _ _ ho;clear ho;have B3:=hid (below_join hal hb3);obtain ⟨kl,kr0,kr1,kr2,kf0,kf1,kf2⟩:=K1.out.below B3.out K1.out.lt;obtain ⟨zl,zr0,zr1,zr2,zr3,zf0,zf1,zf2,zf3⟩:=Z1.out.below B3.out Z1.out.lt;have hw1 : w1.heap.size < w3.heap.size:=Nat.lt_of_lt_of_le (by simp) hb3.size;have q0 : w3.cell? ⟨w1.heap.size,0,none⟩ = some (.string SG):=(hb3.cell (p:=⟨w1.heap.size,0,none⟩) (by simp)).trans (by simp [go_sem]);have q1 : w3.cell? ⟨w1.heap.size,1,none⟩ = some (.string BS):=(hb3.cell (p:=⟨w1.heap.size,1,none⟩) (by simp)).trans (by simp [go_sem]);have q2 : w3.cell? ⟨w1.heap.size,2,none⟩ = some (.string NM):=(hb3.cell (p:=⟨w1.heap.size,2,none⟩) (by simp)).trans (by simp [go_sem]);clear hb3 hal) | (go_at_call 37;obtain ⟨zk,zv,b0⟩:=ST.out _ rfl;refine (HB.out _ b0).mono ?_;rintro e w1 ⟨⟨sb,rfl,hsl⟩,hb1⟩;have B1:=hid (below_join b0 hb1);have K1:=hid (zk.below hb1 zk.lt);have Z1:=hid (zv.below hb1 zv.lt);have SL1:=hid (hsl.mono (Nat.succ_le_of_lt zv.lt));have kl:=K1.out.lt;have zl:=Z1.out.lt;clear hb1 zk zv b0 hsl))
    go_region
    all_goals (go_wp2_with fail)
    all_goals exact bodyPost_ret (v:=.tuple #[ptr sb, .agg #[.string SG, .string BS, .string NM], .agg #[.int .u8 0, .string ⟨#[]⟩, .int .i64 0, .slice none 0 0], .bool false]) (by simp [results,Tryz.results52,go_sem, *]) rfl ⟨GivOut.no HN.out ⟨_,_,_,_,rfl⟩,by have B:=B1.out.trans (B3.out.mono B1.out.size);repeat (first | with_reducible exact B | with_reducible refine Below.drew ?_ | with_reducible refine Below.setCell ?_ (by simp) _ | with_reducible refine Below.alloc ?_ (by first | exact B.size | (simp;omega)) _)⟩
  | some u =>
    have HN:=hid (show valOf s.data.toList kt.data.toList v.data.toList = some ((x,k),u) by unfold valOf;rw [h];dsimp only;rw [hvi])
    have HO:=hid fun (wz : World) e w' (ho : RvOut x k v.data.toList wz e w') => (by unfold RvOut at ho;rw [hvi] at ho;exact ho : ∃ cs,e = .returned (.tuple #[.agg cs.toArray, .bool true]) ∧ VC w' (fun b => wz.heap.size ≤ b) u cs)
    clear h hm hx hk hSG hBS hNM hkv hvi hvv
    go_enter Tryz.func52,Tryz.ntmps52
    go_wp2_with (first | (go_at_call 66;have hal:=(Below.refl w1.heap.size w1).alloc (Nat.le_refl _) (.cells #[.string SG, .string BS, .string NM] 57);refine (HRD.out _ _ _ SL1.out hal).mono ?_;rintro e w3 ⟨ho,hb3⟩;obtain ⟨cs,rfl,hvc⟩:=HO.out _ _ _ ho;obtain ⟨g0,g1,g2,g3,T2,a2,rfl⟩:=hvc.cells4;have HVC:=hid hvc;have HAL:=hid hal;have HB3':=hid hb3;clear ho hvc;have B3:=hid (below_join hal hb3);obtain ⟨kl,kr0,kr1,kr2,kf0,kf1,kf2⟩:=K1.out.below B3.out K1.out.lt;obtain ⟨zl,zr0,zr1,zr2,zr3,zf0,zf1,zf2,zf3⟩:=Z1.out.below B3.out Z1.out.lt;have hw1 : w1.heap.size < w3.heap.size:=Nat.lt_of_lt_of_le (by simp) hb3.size;have q0 : w3.cell? ⟨w1.heap.size,0,none⟩ = some (.string SG):=(hb3.cell (p:=⟨w1.heap.size,0,none⟩) (by simp)).trans (by simp [go_sem]);have q1 : w3.cell? ⟨w1.heap.size,1,none⟩ = some (.string BS):=(hb3.cell (p:=⟨w1.heap.size,1,none⟩) (by simp)).trans (by simp [go_sem]);have q2 : w3.cell? ⟨w1.heap.size,2,none⟩ = some (.string NM):=(hb3.cell (p:=⟨w1.heap.size,2,none⟩) (by simp)).trans (by simp [go_sem]);clear hb3 hal) | (go_at_call 37;obtain ⟨zk,zv,b0⟩:=ST.out _ rfl;refine (HB.out _ b0).mono ?_;rintro e w1 ⟨⟨sb,rfl,hsl⟩,hb1⟩;have B1:=hid (below_join b0 hb1);have K1:=hid (zk.below hb1 zk.lt);have Z1:=hid (zv.below hb1 zv.lt);have SL1:=hid (hsl.mono (Nat.succ_le_of_lt zv.lt));have kl:=K1.out.lt;have zl:=Z1.out.lt;clear hb1 zk zv b0 hsl))
    go_region
    all_goals (go_wp2_with fail)
    all_goals exact bodyPost_ret (v:=.tuple #[ptr sb, .agg #[.string SG, .string BS, .string NM], .agg #[.int .u8 g0, .string T2, .int .i64 g1, .slice a2 g2 g3], .bool true]) (by simp [results,Tryz.results52,go_sem, *]) rfl (by
      have hR : ∀ W4,Over (w.heap.size + 1 + 1) w3 W4 → Below w.heap.size w W4 → (GivOut s.data.toList kt.data.toList v.data.toList w.heap.size (.returned (.tuple #[ptr sb, .agg #[.string SG, .string BS, .string NM], .agg #[.int .u8 g0, .string T2, .int .i64 g1, .slice a2 g2 g3], .bool true])) W4 ∧ Below w.heap.size w W4):=fun W4 ho hb => by
        refine ⟨GivOut.yes HN.out ⟨sb,[.int .u8 g0, .string T2, .int .i64 g1, .slice a2 g2 g3],by rw [HKV.out],(SL1.out.keep (Nat.le_trans B3.out.size ho.size) (ho.below B3.out)).mono (by omega),VC.keep (fun b hp hlt => ⟨?_, ?_⟩) ho.size _ _ HVC.out⟩,hb⟩
        · have h1:=HAL.out.size
          have h2:=Z1.out.lt
          have h3 : (w1.alloc (.cells #[.string SG, .string BS, .string NM] 57)).heap.size ≤ b:=hp
          omega
        · have h1:=HAL.out.size
          have h2:=Z1.out.lt
          have h3 : (w1.alloc (.cells #[.string SG, .string BS, .string NM] 57)).heap.size ≤ b:=hp
          exact ho.block b (by omega) hlt
      refine hR _ ?_ ?_
      · repeat (first | with_reducible exact Over.refl _ _ | with_reducible refine Over.drew ?_ | with_reducible refine Over.setCell ?_ (by first | (simp;done) | (simp;omega)) _ | with_reducible refine Over.alloc ?_ _)
      · have B:=B1.out.trans (B3.out.mono B1.out.size)
        repeat (first | with_reducible exact B | with_reducible refine Below.drew ?_ | with_reducible refine Below.setCell ?_ (by simp) _ | with_reducible refine Below.alloc ?_ (by first | exact B.size | (simp;omega)) _))
theorem given (s kt : ByteArray) (v : ByteArray) (m : Int) (w : World) (hm : ML m w) (hs : s.size ≤ 1048576) (hkt : kt.size ≤ 1048576) (hv : v.size ≤ 1048576) : Calls Tryz.prog 52 #[.string s, .string kt, .string v] w fun e w' => GivOut s.data.toList kt.data.toList v.data.toList w.heap.size e w' ∧ Below w.heap.size w w':=by
  cases h : kindOf s.data.toList kt.data.toList with
  | none => exact given_no s kt v m w hm hs hkt h
  | some y => exact given_yes s kt v m w hm hs hkt hv y.1 y.2 h

def vOkB (l kt s : List UInt8) : Bool:=(valOf l kt s).isSome
def deepI (l kt s : List UInt8) : Int:=match valOf l kt s with | some y => (y.2.deep : Int) | none => -1
theorem GivOut.form {l kt s : List UInt8} {lo : Nat} {e : Ending} {w' : World} (h : GivOut l kt s lo e w') : ∃ (p : Option Addr) (a b c : ByteArray) (q g n d : Nat) (T : ByteArray) (sa : Option Addr),e = .returned (.tuple #[.pointer p, .agg #[.string a, .string b, .string c], .agg #[.int .u8 q, .string T, .int .i64 g, .slice sa n d], .bool (vOkB l kt s)]):=by
  unfold GivOut at h
  unfold vOkB
  cases hv : valOf l kt s with
  | none =>
    rw [hv] at h
    obtain ⟨p,a,b,c,rfl⟩:=h
    exact ⟨p,a,b,c,0,0,0,0,⟨#[]⟩,none,rfl⟩
  | some y =>
    rw [hv] at h
    obtain ⟨sb,cs,rfl,_,hvc⟩:=h
    obtain ⟨q,g,n,d,T,sa,rfl⟩:=hvc.cells4
    exact ⟨_,_,_,_,q,g,n,d,T,sa,rfl⟩
theorem valOf_some {l kt s : List UInt8} {y : (Wf.Sc × Wf.K) × Wf.V} (h : valOf l kt s = some y) : kindOf l kt = some y.1 ∧ Wf.valIn y.1.1 y.1.2 s = some y.2:=by
  unfold valOf at h
  cases hk : kindOf l kt with
  | none => rw [hk] at h;cases h
  | some z =>
    rw [hk] at h
    dsimp only at h
    cases hv : Wf.valIn z.1 z.2 s with
    | none => rw [hv] at h;cases h
    | some v =>
      rw [hv] at h
      simp only [Option.some.injEq] at h
      subst h
      exact ⟨rfl,hv⟩
set_option maxRecDepth 20000 in
set_option maxHeartbeats 1000000 in
theorem valueDeep_i (s kt v : ByteArray) (m : Int) (w : World) (hm : ML m w) (hs : s.size ≤ 1048576) (hkt : kt.size ≤ 1048576) (hv : v.size ≤ 1048576) : Calls Tryz.prog 27 #[.string s, .string kt, .string v] w fun e w' => e = .returned (.int .i64 (deepI s.data.toList kt.data.toList v.data.toList)) ∧ Below w.heap.size w w':=by
  have HG:=hid (given s kt v m w hm hs hkt hv)
  clear hm
  cases hvo : valOf s.data.toList kt.data.toList v.data.toList with
  | none =>
    have HO:=hid fun lo e w' (h : GivOut s.data.toList kt.data.toList v.data.toList lo e w') => (by unfold GivOut at h;rw [hvo] at h;exact h : ∃ p a b c,e = .returned (.tuple #[.pointer p, .agg #[.string a, .string b, .string c], .agg #[.int .u8 0, .string ⟨#[]⟩, .int .i64 0, .slice none 0 0], .bool false]))
    have HD:=hid (show deepI s.data.toList kt.data.toList v.data.toList = -1 by unfold deepI;rw [hvo])
    clear hvo
    go_enter Tryz.func27,Tryz.ntmps27
    go_wp2_with (go_at_call 52;refine HG.out.mono ?_;rintro e w2 ⟨ho,hb2⟩;obtain ⟨p,a,b,c,rfl⟩:=HO.out _ _ _ ho;have HB2:=hid hb2;clear ho hb2)
    go_ret
    exact ⟨by rw [HD.out];rfl,by have B:=HB2.out;have hB:=B.size;repeat (first | with_reducible exact B | with_reducible refine Below.drew ?_ | with_reducible refine Below.setCell ?_ (by simp) _ | with_reducible refine Below.alloc ?_ (by first | exact B.size | (simp;omega)) _)⟩
  | some y =>
    have HO:=hid fun lo e w' (h : GivOut s.data.toList kt.data.toList v.data.toList lo e w') => (by unfold GivOut at h;rw [hvo] at h;exact h : ∃ sb cs,e = .returned (.tuple #[ptr sb,kV y.1.2, .agg cs.toArray, .bool true]) ∧ ScL w' lo sb y.1.1 ∧ VC w' (fun b => lo ≤ b) y.2 cs)
    have HD:=hid (show deepI s.data.toList kt.data.toList v.data.toList = (y.2.deep : Int) by unfold deepI;rw [hvo])
    have hd12:=(Wf.typed_deep 12 _ _ (Wf.valIn_some (valOf_some hvo).2).1).2
    have HDP:=hid fun (P : Nat → Prop) (cs : List Value) (W2 w2 : World) (hv : VC W2 P y.2 cs) (hb : Below W2.heap.size W2 w2) => deep y.2 P cs W2 w2 hv hb (by omega)
    obtain ⟨SG,hSG⟩ : ∃ SG : ByteArray,(⟨y.1.2.signs.toArray⟩ : ByteArray) = SG:=⟨_,rfl⟩
    obtain ⟨BS,hBS⟩ : ∃ BS : ByteArray,(⟨y.1.2.base.toArray⟩ : ByteArray) = BS:=⟨_,rfl⟩
    obtain ⟨NM,hNM⟩ : ∃ NM : ByteArray,(⟨y.1.2.name.toArray⟩ : ByteArray) = NM:=⟨_,rfl⟩
    have hkv : kV y.1.2 = .agg #[.string SG, .string BS, .string NM]:=by simp only [kV,tx,hSG,hBS,hNM]
    rw [hkv] at HO
    obtain ⟨D,hD⟩ : ∃ D,y.2.deep = D:=⟨_,rfl⟩
    rw [hD] at HDP HD
    clear hvo hSG hBS hNM hkv hD hd12
    go_enter Tryz.func27,Tryz.ntmps27
    go_wp2_with (first | (go_at_call 56;have _u:=HVC;refine (HDP.out _ _ w2 _ HVC.out (((Below.refl _ _).alloc (Nat.le_refl _) _).alloc (by simp) _)).mono ?_;rintro e w3 ⟨rfl,hb3⟩;have B3:=hid (below_join (((Below.refl w2.heap.size w2).alloc (Nat.le_refl _) _).alloc (by simp) _) hb3);clear hb3) | (go_at_call 52;refine HG.out.mono ?_;rintro e w2 ⟨ho,hb2⟩;obtain ⟨sb,cs,rfl,_,hvc⟩:=HO.out _ _ _ ho;obtain ⟨q,g,n,d,T,sa,rfl⟩:=hvc.cells4;have HVC:=hid hvc;have HB2:=hid hb2;clear ho hb2 hvc))
    go_ret
    exact ⟨by rw [HD.out];rfl,HB2.out.trans (B3.out.mono HB2.out.size)⟩

theorem ref_at {x : Wf.Sc} {v : Value} {W : World} (hx : Wf.ScOk x) (lo bsc : Nat) (hsp : ScSp W lo bsc v x) {nm : List UInt8} {t : Wf.Ty} (hf : x.find nm = some t) (hnm : (Wf.K.ref nm).text.length ≤ 1000000) (q : Nat) (hq : t.sort.toNat = q) (wz : World) (hz : Below W.heap.size W wz) : Calls Tryz.prog 87 #[v,tx (Wf.K.ref nm).text] wz fun e w' => (∃ fb fa fc,e = .returned (.tuple #[.agg #[.int .u8 q, .string ⟨t.name.toArray⟩, .slice fa t.fields.length fc], .bool true]) ∧ RowK W fb (.slice fa t.fields.length fc) 4 (t.fields.map (fdS t.sort))) ∧ Below wz.heap.size wz w':=by
  rw [← hq]
  exact ref_found x v W t nm hx lo bsc hsp hf hnm wz hz
theorem l4read (x : Wf.Sc) (hx : Wf.ScOk x) (v : Value) (lo bsc : Nat) (W : World) (hsp : ScSp W lo bsc v x) : ∀ (n : Nat),n ≤ 1000 → ∀ (k : Wf.K),KOk x k → LR x v W n k:=by
  intro n
  induction n with
  | zero =>
    intro _ k hk S w hS hW
    refine read_no v S ⟨k.text.toArray⟩ (0 : Nat) w _ ?_ (Wf.parse_zero x k _)
    by_cases h : S.toList.isEmpty = true
    · exact .inl h
    · exact .inr ⟨by simpa using h,by decide⟩
  | succ n ih =>
    intro hn k hk S w hS hW
    have hD : decide (((n + 1 : Nat) : Int) < 1) = false:=decide_eq_false (by omega)
    have hDe : ((n + 1 : Nat) : Int) = (n : Int) + 1:=by omega
    have kd : IntKind.i64.wrap (((n + 1 : Nat) : Int) - 1) = (n : Int):=by rw [hDe,Int.add_sub_cancel];exact IntWalk.i64_in _ (by omega)
    cases hl : S.data.toList with
    | nil =>
      refine read_no v S ⟨k.text.toArray⟩ _ w _ (.inl ?_) (Wf.parse_nil x (n + 1) k)
      rw [ByteArray.toList_eq,hl];rfl
    | cons c q =>
      obtain ⟨e1,e2,e3,e4,e5,e6⟩:=str_ne hl
      have hRs : (S.extract 1 S.size).size ≤ 1048576:=by rw [ByteArray.size_extract];omega
      rw [← hl]
      cases k with
      | num => exact read_plain v S ⟨(Wf.K.text .num).toArray⟩ _ w _ e1 hD 110 (by decide) (fun _ => rfl) (.inl rfl) (fun wz => plain_num x n v S hS wz)
      | txt => exact read_plain v S ⟨(Wf.K.text .txt).toArray⟩ _ w _ e1 hD 116 (by decide) (fun _ => rfl) (.inr (.inl rfl)) (fun wz => plain_txt x n v S hS wz)
      | flag => exact read_plain v S ⟨(Wf.K.text .flag).toArray⟩ _ w _ e1 hD 102 (by decide) (fun _ => rfl) (.inr (.inr rfl)) (fun wz => plain_flag x n v S hS wz)
      | list k =>
        obtain ⟨hk0,ek⟩:=kd_first (kd:=(Wf.K.list k).text) (c:=91) rfl
        by_cases hc : c = 91
        · subst hc
          rw [hl]
          have h:=fun wz (hz : Below w.heap.size w wz) => l4list x v W n k (S.extract 1 S.size) ((n + 1 : Nat) : Int) wz hRs hDe (by omega) (ih (by omega) k hk.list) (hW.trans (hz.mono hW.size))
          rw [e6] at h
          exact read_list v S _ _ w _ _ e1 e3 e4 rfl hD hk0 ek e5 h
        · refine read_list_no v S _ _ w _ e1 e3 hD hk0 ek c.toNat e5 ?_ (Wf.parse_list_no x n k (by rw [hl];simpa using hc))
          rw [bne_iff_ne]
          intro h
          exact hc (UInt8.toNat_inj.1 (by show c.toNat = 91;omega))
      | opt k =>
        obtain ⟨hk0,ek⟩:=kd_first (kd:=(Wf.K.opt k).text) (c:=63) rfl
        have hK1 : (⟨(Wf.K.opt k).text.toArray⟩ : ByteArray).extract 1 (⟨(Wf.K.opt k).text.toArray⟩ : ByteArray).size = ⟨k.text.toArray⟩:=by rw [eq_list,suf_list];rfl
        by_cases h45 : c = 45
        · subst h45
          exact read_opt_none v S _ _ w _ _ e1 e3 e4 rfl hD hk0 ek rfl e5 (by rw [e6,hl];exact Wf.parse_opt_none x n k q)
        · by_cases h43 : c = 43
          · subst h43
            refine read_opt_some v n S _ _ w _ k _ _ e1 e3 e4 rfl hD hk0 (by simp [ByteArray.size,Wf.K.text]) hK1 ek rfl e5 kd (Wf.parse x n k (S.extract 1 S.size).data.toList) (by rw [hl,e6];exact Wf.parse_opt_some x n k q) (fun wz hz => ih (by omega) k hk.opt _ wz hRs (hW.trans (hz.mono hW.size)))
          · refine read_opt_no v S _ _ w _ e1 e3 hD hk0 ek c.toNat e5 ?_ ?_ (Wf.parse_opt_no x n k (by rw [hl];simpa using h45) (by rw [hl];simpa using h43))
            · rw [beq_eq_false_iff_ne]
              intro h
              exact h45 (UInt8.toNat_inj.1 (by show c.toNat = 45;omega))
            · rw [bne_iff_ne]
              intro h
              exact h43 (UInt8.toNat_inj.1 (by show c.toNat = 43;omega))
      | ref nm =>
        obtain ⟨hk0,ek⟩:=kd_first (kd:=(Wf.K.ref nm).text) (c:=64) rfl
        obtain ⟨t,hf⟩:=Wf.hasRef_ref hk.ref
        have htx:=(Wf.find_mem hf).1
        have hto:=hx.tys t htx
        have hnm : (Wf.K.ref nm).text.length ≤ 1000000:=by have:=hk.len;omega
        have htl : t.fields.length ≤ 1000:=by have:=hto.len;omega
        have hR:=fun (h69 : t.sort ≠ 69) f hfm => ih (by omega) f.kind (KOk.fld hx htx h69 (f:=f) hfm)
        refine read_ref v S _ _ w _ e1 hD hk0 ek fun wz hz => ?_
        have hWz:=hW.trans (hz.mono hW.size)
        rcases hto.sort with hs | hs | hs
        · have hr:=fun wy (hy : Below wz.heap.size wz wy) => ref_at hx lo bsc hsp hf hnm 82 (by rw [hs];rfl) wy (hWz.trans (hy.mono hWz.size))
          by_cases hc : c = 123
          · subst hc
            rw [hl]
            have h:=fun fb fa fc wy (hrow : RowK W fb (.slice fa t.fields.length fc) 4 (t.fields.map (fdS t.sort))) (hy : Below wz.heap.size wz wy) => l4record x v W n t nm (S.extract 1 S.size) ((n + 1 : Nat) : Int) wy hx lo bsc hsp htx hf fb fc fa hrow hs hRs hDe (by omega) (hR (by rw [hs];decide)) (hWz.trans (hy.mono hWz.size))
            rw [e6] at h
            exact nm_rec v W t S _ wz _ _ _ _ e4 e5 rfl _ hr h
          · refine nm_no v S _ wz 82 c.toNat _ _ t.fields.length e3 e5 (.inl ⟨rfl, ?_⟩) (fun wy hy => (hr wy hy).mono fun e w' ⟨⟨fb,fa,fc,h1,_⟩,h2⟩ => ⟨⟨fa,fc,h1⟩,h2⟩) _ (Wf.parse_rec_no x n hf hs (by rw [hl];simpa using hc))
            rw [beq_eq_false_iff_ne]
            intro h
            exact hc (UInt8.toNat_inj.1 (by show c.toNat = 123;omega))
        · have hr:=fun wy (hy : Below wz.heap.size wz wy) => ref_at hx lo bsc hsp hf hnm 85 (by rw [hs];rfl) wy (hWz.trans (hy.mono hWz.size))
          by_cases hc : c = 60
          · subst hc
            rw [hl]
            have h:=nm_uni x v W n t nm S ((n + 1 : Nat) : Int) wz ⟨(Wf.K.ref nm).text.toArray⟩ ⟨t.name.toArray⟩ (S.extract 1 S.size) t.fields.length hx htx hf e4 hRs rfl e5 rfl hs hDe (by omega) hWz (hR (by rw [hs];decide)) hr (fun fb fa fc wy hrow hy => by
              have h:=l4tag t htl v (S.extract 1 S.size) hRs fb fc fa W wy (hWz.trans (hy.mono hWz.size)) hrow
              rw [hs] at h
              exact h)
            rw [e6] at h
            exact h
          · refine nm_no v S _ wz 85 c.toNat _ _ t.fields.length e3 e5 (.inr (.inr ⟨rfl, ?_⟩)) (fun wy hy => (hr wy hy).mono fun e w' ⟨⟨fb,fa,fc,h1,_⟩,h2⟩ => ⟨⟨fa,fc,h1⟩,h2⟩) _ (Wf.parse_uni_no x n hf hs (by rw [hl];simpa using hc))
            rw [beq_eq_false_iff_ne]
            intro h
            exact hc (UInt8.toNat_inj.1 (by show c.toNat = 60;omega))
        · have hr:=fun wy (hy : Below wz.heap.size wz wy) => ref_at hx lo bsc hsp hf hnm 69 (by rw [hs];rfl) wy (hWz.trans (hy.mono hWz.size))
          by_cases hc : c = 35
          · subst hc
            rw [hl,parse_enm_tagF x n hf hs q]
            have h:=nm_enm v W t S ((n + 1 : Nat) : Int) wz ⟨(Wf.K.ref nm).text.toArray⟩ ⟨t.name.toArray⟩ (S.extract 1 S.size) t.fields.length e4 rfl e5 rfl hs hr (fun fb fa fc wy hrow hy => by
              have h:=l4tag t htl v (S.extract 1 S.size) hRs fb fc fa W wy (hWz.trans (hy.mono hWz.size)) hrow
              rw [hs] at h
              exact h)
            rw [e6] at h
            exact h
          · refine nm_no v S _ wz 69 c.toNat _ _ t.fields.length e3 e5 (.inr (.inl ⟨rfl, ?_⟩)) (fun wy hy => (hr wy hy).mono fun e w' ⟨⟨fb,fa,fc,h1,_⟩,h2⟩ => ⟨⟨fa,fc,h1⟩,h2⟩) _ (Wf.parse_enm_no x n hf hs (by rw [hl];simpa using hc))
            rw [beq_eq_false_iff_ne]
            intro h
            exact hc (UInt8.toNat_inj.1 (by show c.toNat = 35;omega))
def LoOut (l kt s : List UInt8) (lo : Nat) (e : Ending) (w' : World) : Prop:=match valOf l kt s with
  | some y => ∃ b a c p,e = .returned (.tuple #[.slice a y.1.1.length c,ptr p, .bool true]) ∧ ScSp w' lo b (.slice a y.1.1.length c) y.1.1 ∧ LV w' (fun z => lo ≤ z) y.2 p
  | none => ∃ a n c p,e = .returned (.tuple #[.slice a n c, .pointer p, .bool false])
theorem LoOut.no {l kt s : List UInt8} {lo : Nat} {e : Ending} {w' : World} (h : valOf l kt s = none) (he : ∃ a n c p,e = .returned (.tuple #[.slice a n c, .pointer p, .bool false])) : LoOut l kt s lo e w':=by
  unfold LoOut;rw [h];exact he
theorem LoOut.yes {l kt s : List UInt8} {lo : Nat} {e : Ending} {w' : World} {y : (Wf.Sc × Wf.K) × Wf.V} (h : valOf l kt s = some y) (he : ∃ b a c p,e = .returned (.tuple #[.slice a y.1.1.length c,ptr p, .bool true]) ∧ ScSp w' lo b (.slice a y.1.1.length c) y.1.1 ∧ LV w' (fun z => lo ≤ z) y.2 p) : LoOut l kt s lo e w':=by
  unfold LoOut;rw [h];exact he
set_option maxRecDepth 20000 in
set_option maxHeartbeats 2000000 in
theorem l4Of (s kt v : ByteArray) (w : World) (hs : s.size ≤ 1048576) (hv : v.size ≤ 1048576) : Calls Tryz.prog 54 #[.string s, .string kt, .string v] w fun e w' => LoOut s.data.toList kt.data.toList v.data.toList w.heap.size e w' ∧ Below w.heap.size w w':=by
  have HLK:=hid (l3Kind s kt w hs)
  cases hty : kindOf s.data.toList kt.data.toList with
  | none =>
    have HO:=hid fun lo e wz (h : LkOut s.data.toList kt.data.toList lo e wz) => (by unfold LkOut at h;rw [hty] at h;exact h : ∃ a n c,e = .returned (.tuple #[.slice a n c, .bool false]))
    have HF:=hid (show valOf s.data.toList kt.data.toList v.data.toList = none by unfold valOf;rw [hty])
    clear hty
    go_enter Tryz.func54,Tryz.ntmps54
    go_wp2_with (go_at_call 35;refine HLK.out.mono ?_;rintro e w2 ⟨ho,hb2⟩;obtain ⟨a,n,c,rfl⟩:=HO.out _ _ _ ho;have HB2:=hid hb2;clear ho hb2)
    all_goals exact bodyPost_ret (v:=.tuple #[.slice none 0 0, .pointer none, .bool false]) (by simp [results,Tryz.results54,go_sem, *]) rfl ⟨LoOut.no HF.out ⟨_,_,_,_,rfl⟩,HB2.out⟩
  | some y =>
    obtain ⟨x,k⟩:=y
    obtain ⟨hsc,hpk,hhas,hkt,hkl⟩:=kindOf_text hty
    have hx:=Wf.schemaOf_ok hsc
    have hk : KOk x k:=⟨by rw [hkt];exact hkl,hhas⟩
    have HO:=hid fun lo e wz (h : LkOut s.data.toList kt.data.toList lo e wz) => (by unfold LkOut at h;rw [hty] at h;exact h : ∃ b a c,e = .returned (.tuple #[.slice a x.length c, .bool true]) ∧ ScSp wz lo b (.slice a x.length c) x)
    obtain ⟨xn,hxn⟩ : ∃ xn,x.length = xn:=⟨_,rfl⟩
    rw [hxn] at HO
    have hkk : tx k.text = .string kt:=by rw [tx,show k.text = kt.data.toList from hkt]
    by_cases h400 : v.size ≤ 400
    · have HRD:=hid fun (wz : World) (vv : Value) (lo b : Nat) (hsp : ScSp wz lo b vv x) => (by
        have h:=l4read x hx vv lo b wz hsp 12 (by omega) k hk v wz hv (Below.refl _ _)
        rw [hkk] at h
        exact h : Calls Tryz.prog 63 #[.agg #[vv], .string v, .string kt, .int .i64 12] wz fun e w' => LrOut (Wf.parse x 12 k v.data.toList) wz e w' ∧ Below wz.heap.size wz w')
      have HV:=hid (show valOf s.data.toList kt.data.toList v.data.toList = match (match Wf.parse x 12 k v.data.toList with | some (u,[]) => some u | _ => none) with | some u => some ((x,k),u) | none => none by
        unfold valOf
        rw [hty]
        dsimp only
        rw [Wf.valIn,if_pos (by rw [size_list];exact h400)]
        rfl)
      have hd : decide ((400 : Int) < (v.size : Int)) = false:=decide_eq_false (by omega)
      clear hty hsc hpk hhas hkt hkl hkk
      cases hp : Wf.parse x 12 k v.data.toList with
      | none =>
        have HF:=hid (show valOf s.data.toList kt.data.toList v.data.toList = none by rw [HV.out,hp])
        have HO2:=hid fun (e : Ending) (w w' : World) (h : LrOut (Wf.parse x 12 k v.data.toList) w e w') => (by rw [hp] at h;exact h : ∃ (p : Option Addr) (r : ByteArray),e = .returned (.tuple #[.pointer p, .string r, .bool false]))
        clear hp
        go_enter Tryz.func54,Tryz.ntmps54
        go_wp2_with (first | (go_at_call 63;refine (HRD.out _ _ _ _ HSP.out).mono ?_;rintro e w3 ⟨ho,hb3⟩;obtain ⟨p,r,rfl⟩:=HO2.out _ _ _ ho;have HB3:=hid (below_join HB2.out hb3);clear ho hb3) | (go_at_call 35;refine HLK.out.mono ?_;rintro e w2 ⟨ho,hb2⟩;obtain ⟨b,a,c,rfl,hsp⟩:=HO.out _ _ _ ho;have HSP:=hid hsp;have HB2:=hid hb2;clear ho hb2 hsp))
        all_goals exact bodyPost_ret (v:=.tuple #[.slice a xn c, .pointer p, .bool false]) (by simp [results,Tryz.results54,go_sem, *]) rfl ⟨LoOut.no HF.out ⟨_,_,_,_,rfl⟩,HB3.out⟩
      | some y =>
        obtain ⟨u,rr⟩:=y
        obtain ⟨RR,hRR⟩ : ∃ RR : ByteArray,(⟨rr.toArray⟩ : ByteArray) = RR:=⟨_,rfl⟩
        have HO2:=hid fun (e : Ending) (w w' : World) (h : LrOut (Wf.parse x 12 k v.data.toList) w e w') => (by unfold LrOut at h;rw [hp] at h;dsimp only at h;rw [tx,hRR] at h;exact h : ∃ b,e = .returned (.tuple #[ptr b, .string RR, .bool true]) ∧ LV w' (fun z => w.heap.size ≤ z) u b)
        cases rr with
        | nil =>
          have HF:=hid (show valOf s.data.toList kt.data.toList v.data.toList = some ((x,k),u) by rw [HV.out,hp])
          have hre : RR.toList.isEmpty = true:=by rw [← hRR,ByteArray.toList_eq];rfl
          have hre2 : RR.toList = []:=List.isEmpty_iff.1 hre
          have HXN:=hid hxn
          clear hp hRR hxn
          go_enter Tryz.func54,Tryz.ntmps54
          go_wp2_with (first | (go_at_call 63;refine (HRD.out _ _ _ _ HSP.out).mono ?_;rintro e w3 ⟨ho,hb3⟩;obtain ⟨pb,rfl,hlv⟩:=HO2.out _ _ _ ho;have HLV:=hid hlv;have HB3:=hid (below_join HB2.out hb3);have HSP3:=hid (HSP.out.below hb3);clear ho hb3 hlv) | (go_at_call 35;refine HLK.out.mono ?_;rintro e w2 ⟨ho,hb2⟩;obtain ⟨b,a,c,rfl,hsp⟩:=HO.out _ _ _ ho;have HSP:=hid hsp;have HB2:=hid hb2;clear ho hb2 hsp))
          all_goals exact bodyPost_ret (v:=.tuple #[.slice a xn c,ptr pb, .bool true]) (by simp [results,Tryz.results54,go_sem, *]) rfl ⟨LoOut.yes HF.out ⟨b,a,c,pb,by rw [HXN.out],by rw [HXN.out];exact HSP3.out,LV.mono HLV.out fun z hz _ => Nat.le_trans HB2.out.size hz⟩,HB3.out⟩
        | cons c0 q0 =>
          have HF:=hid (show valOf s.data.toList kt.data.toList v.data.toList = none by rw [HV.out,hp])
          have hre : RR.toList.isEmpty = false:=by rw [← hRR,ByteArray.toList_eq];rfl
          have hre2 : RR.toList ≠ []:=by rw [← hRR,ByteArray.toList_eq];exact List.cons_ne_nil _ _
          clear hp hRR
          go_enter Tryz.func54,Tryz.ntmps54
          go_wp2_with (first | (go_at_call 63;refine (HRD.out _ _ _ _ HSP.out).mono ?_;rintro e w3 ⟨ho,hb3⟩;obtain ⟨pb,rfl,hlv⟩:=HO2.out _ _ _ ho;have HB3:=hid (below_join HB2.out hb3);clear ho hb3 hlv) | (go_at_call 35;refine HLK.out.mono ?_;rintro e w2 ⟨ho,hb2⟩;obtain ⟨b,a,c,rfl,hsp⟩:=HO.out _ _ _ ho;have HSP:=hid hsp;have HB2:=hid hb2;clear ho hb2 hsp))
          all_goals exact bodyPost_ret (v:=.tuple #[.slice a xn c,ptr pb, .bool false]) (by simp [results,Tryz.results54,go_sem, *]) rfl ⟨LoOut.no HF.out ⟨_,_,_,_,rfl⟩,HB3.out⟩
    · have HF:=hid (show valOf s.data.toList kt.data.toList v.data.toList = none by
        unfold valOf
        rw [hty]
        dsimp only
        rw [Wf.valIn_long (by rw [size_list];exact h400)])
      have hd : decide ((400 : Int) < (v.size : Int)) = true:=decide_eq_true (by omega)
      clear hty hsc hpk hhas hkt hkl hkk
      go_enter Tryz.func54,Tryz.ntmps54
      go_wp2_with (go_at_call 35;refine HLK.out.mono ?_;rintro e w2 ⟨ho,hb2⟩;obtain ⟨b,a,c,rfl,hsp⟩:=HO.out _ _ _ ho;have HB2:=hid hb2;clear ho hb2 hsp)
      all_goals exact bodyPost_ret (v:=.tuple #[.slice none 0 0, .pointer none, .bool false]) (by simp [results,Tryz.results54,go_sem, *]) rfl ⟨LoOut.no HF.out ⟨_,_,_,_,rfl⟩,HB2.out⟩
theorem LoOut.form {l kt s : List UInt8} {lo : Nat} {e : Ending} {w' : World} (h : LoOut l kt s lo e w') : ∃ (a : Option Addr) (n c : Nat) (p : Option Addr),e = .returned (.tuple #[.slice a n c, .pointer p, .bool (vOkB l kt s)]):=by
  unfold LoOut at h
  unfold vOkB
  cases hv : valOf l kt s with
  | none =>
    rw [hv] at h
    exact h
  | some y =>
    rw [hv] at h
    obtain ⟨b,a,c,p,rfl,_⟩:=h
    exact ⟨_,_,_,_,rfl⟩
set_option maxRecDepth 20000 in
theorem valueDeep_s (s kt v : ByteArray) (w : World) (hs : s.size ≤ 1048576) (hv : v.size ≤ 1048576) : Calls Tryz.prog 26 #[.string s, .string kt, .string v] w fun e w' => e = .returned (.int .i64 (deepI s.data.toList kt.data.toList v.data.toList)) ∧ Below w.heap.size w w':=by
  have HG:=hid (l4Of s kt v w hs hv)
  cases hvo : valOf s.data.toList kt.data.toList v.data.toList with
  | none =>
    have HD:=hid (show deepI s.data.toList kt.data.toList v.data.toList = -1 by unfold deepI;rw [hvo])
    have HO:=hid fun (e : Ending) (w' : World) (h : LoOut s.data.toList kt.data.toList v.data.toList w.heap.size e w') => (by unfold LoOut at h;rw [hvo] at h;exact h : ∃ a n c p,e = .returned (.tuple #[.slice a n c, .pointer p, .bool false]))
    clear hvo
    go_enter Tryz.func26,Tryz.ntmps26
    go_wp2_with (go_at_call 54;refine HG.out.mono ?_;rintro e w2 ⟨ho,hb2⟩;obtain ⟨a,n,c,p,rfl⟩:=HO.out _ _ ho;have HB2:=hid hb2;clear ho hb2)
    go_ret
    exact ⟨by rw [HD.out];rfl,HB2.out⟩
  | some y =>
    obtain ⟨⟨x,k⟩,u⟩:=y
    obtain ⟨_,hvi⟩:=valOf_some hvo
    have hty:=(Wf.valIn_some hvi).1
    have HD:=hid (show deepI s.data.toList kt.data.toList v.data.toList = (u.deep : Int) by unfold deepI;rw [hvo])
    have HDP:=hid fun (pb : Nat) (wz : World) (hlv : LV wz (fun z => w.heap.size ≤ z) u pb) => ldeep 12 k u hty (by omega) _ pb wz wz hlv (Below.refl _ _)
    have HO:=hid fun (e : Ending) (w' : World) (h : LoOut s.data.toList kt.data.toList v.data.toList w.heap.size e w') => (by unfold LoOut at h;rw [hvo] at h;exact h : ∃ b a c p,e = .returned (.tuple #[.slice a x.length c,ptr p, .bool true]) ∧ ScSp w' w.heap.size b (.slice a x.length c) x ∧ LV w' (fun z => w.heap.size ≤ z) u p)
    clear hvo hvi hty
    go_enter Tryz.func26,Tryz.ntmps26
    go_wp2_with (first | (go_at_call 55;refine (HDP.out _ _ HLV.out).mono ?_;rintro e w3 ⟨rfl,hb3⟩;have HB3:=hid (below_join HB2.out hb3);clear hb3) | (go_at_call 54;refine HG.out.mono ?_;rintro e w2 ⟨ho,hb2⟩;obtain ⟨b,a,c,p,rfl,_,hlv⟩:=HO.out _ _ ho;have HLV:=hid hlv;have HB2:=hid hb2;clear ho hb2 hlv))
    go_ret
    exact ⟨by rw [HD.out];rfl,HB3.out⟩
end Go.Proofs.YtmdacedmjbiekaaGreatDoor

namespace Wf
set_option linter.unusedVariables false
set_option linter.unusedSimpArgs false
def RecOf (x : Sc) (t : Ty) (n : Nat) (es : List (Fd × V)) : Prop :=
  Asc es ∧ ∀ e,e ∈ es → 0 < e.1.tag ∧ t.field e.1.tag = some e.1 ∧ e.1.tag ≤ 200 ∧ Typed x n e.1.kind e.2 ∧ e.2.print ≠ standF x e.1
abbrev recV (es : List (Fd × V)) : V:=.mk 82 [] 0 (es.map tagged)
theorem rec_typed {x : Sc} {n : Nat} {nm : Bs} {t : Ty} {es : List (Fd × V)} (h : RecOf x t n es) (ht : x.find nm = some t) (h82 : t.sort = 82) : Typed x (n + 1) (.ref nm) (recV es):=by
  simp only [Typed]
  exact ⟨t,ht, .inr (.inr ⟨by rw [h82];decide,by rw [h82];decide,es,h.1,h.2,rfl⟩)⟩
end Wf

namespace Go.Proofs.YtmdacedmjbiekaaGreatDoor
open Go.ChangeShapes Go.WideShapes Go.ChangeAt Go.RowKit Go.Lib
set_option linter.unusedVariables false
set_option linter.unusedSimpArgs false
end Go.Proofs.YtmdacedmjbiekaaGreatDoor
