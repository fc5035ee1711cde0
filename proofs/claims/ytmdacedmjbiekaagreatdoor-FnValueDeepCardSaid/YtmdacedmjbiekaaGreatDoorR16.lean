/- Packed by pack.py: Sw So St. -/
import Derived.Test.YtmdacedmjbiekaaGreatDoorR15
namespace Go.Proofs.YtmdacedmjbiekaaGreatDoor
open Go.ChangeShapes Go.WideShapes Go.ChangeAt Go.RowKit Go.Lib
set_option linter.unusedVariables false
theorem l3findAny (x : Wf.Sc) (lo b : Nat) (v : Value) (nm : ByteArray) (W w : World) (hW : Below W.heap.size W w) (hx8 : x.length ≤ 1000) (H : ScSp W lo b v x) : Calls Tryz.prog 75 #[v, .string nm] w fun e w' => (∃ (q : Nat) (N : ByteArray) (a : Option Addr) (m c : Nat),e = .returned (.tuple #[.agg #[.int .u8 q, .string N, .slice a m c], .bool (x.find nm.data.toList).isSome])) ∧ Below w.heap.size w w' :=
  (l3find x lo b v nm W w hW hx8 H).mono fun e w' h => ⟨find_any h.1,h.2⟩
set_option maxRecDepth 20000 in
set_option maxHeartbeats 4000000 in
theorem l3valid (x : Wf.Sc) (lo b : Nat) (v : Value) (w : World) (hx8 : x.length ≤ 1000) (H : ScSp w lo b v x) (hx : ∀ u ∈ x,Good u) :
    Calls Tryz.prog 103 #[v] w fun e w' => e = .returned (.bool (validB x)) ∧ Below w.heap.size w w':=by
  obtain ⟨va,vc,rfl,hc1,hc2⟩:=H.slice
  have HX:=hid H
  have HG:=hid hx
  obtain ⟨n,hn⟩ : ∃ n,x.length = n:=⟨_,rfl⟩
  have HN:=hid hn
  rw [hn] at hx8 hc1 HX ⊢
  obtain ⟨VB,hVB⟩ : ∃ VB,validB x = VB:=⟨_,rfl⟩
  have HV:=hid hVB
  rw [hVB]
  clear H hn hx hVB
  go_enter Tryz.func103,Tryz.ntmps103
  go_wp2
  go_loopw [3] (fun v3 wr => ∃ i : Nat,v3 = .int .i64 i ∧ i ≤ n ∧ Hid (Seen x i) ∧ Hid (Below w.heap.size w wr)) (fun v3 _ => n - (RowKit.intOf v3).toNat)
  case atStart => exact ⟨0,rfl,Nat.zero_le _,hid ⟨fun _ _ _ _ h => by omega,fun _ _ h => by omega⟩,hid (Below.refl _ _)⟩
  case round =>
    obtain ⟨i,rfl,hi,hseen,hbel⟩:=hrel
    by_cases hlt : i < n
    · have hix : i < x.length:=by rw [HN.out];exact hlt
      obtain ⟨o,fb,fa,fc,hva,hbw,g0',g1',g2',hrow,_⟩:=HX.out.get hix
      obtain ⟨T,hT⟩ : ∃ T,x[i] = T:=⟨_,rfl⟩
      rw [hT] at g0' g1' g2' hrow
      obtain ⟨q,hq⟩ : ∃ q,T.sort.toNat = q:=⟨_,rfl⟩
      obtain ⟨m,hm⟩ : ∃ m,T.fields.length = m:=⟨_,rfl⟩
      obtain ⟨TN,hTN⟩ : ∃ TN : ByteArray,(⟨T.name.toArray⟩ : ByteArray) = TN:=⟨_,rfl⟩
      rw [hq] at g0'
      rw [tx,hTN] at g1'
      rw [hm] at g2' hrow
      have g0 : wr.cell? ⟨b,o + i * 3,none⟩ = some (.int .u8 q):=(hbel.out.cell (p:=⟨b,o + i * 3,none⟩) hbw).trans g0'
      have g1 : wr.cell? ⟨b,o + i * 3 + 1,none⟩ = some (.string TN):=(hbel.out.cell (p:=⟨b,o + i * 3 + 1,none⟩) hbw).trans g1'
      have g2 : wr.cell? ⟨b,o + i * 3 + 2,none⟩ = some (.slice fa m fc):=(hbel.out.cell (p:=⟨b,o + i * 3 + 2,none⟩) hbw).trans g2'
      have HT:=hid hT
      have HQ:=hid hq
      have HM:=hid hm
      have HTN:=hid hTN
      have HROW:=hid hrow
      have HG0:=hid g0'
      have HG2:=hid g2'
      have hbwr : b < wr.heap.size:=Nat.lt_of_lt_of_le hbw hbel.out.size
      have hvv : Hid (va = some ⟨b,o,none⟩):=hid hva
      subst hva
      clear g0' g1' g2' hT hq hm hTN hrow hvv
      go_wp2
      go_loopw [4] (fun v4 wy => ∃ (k d : Nat),v4 = .int .i64 k ∧ k ≤ i ∧ wy = wr.drewN d ∧ Hid (∀ a (ha : a < x.length),a < k → (x[a]).name ≠ T.name)) (fun v4 _ => i - (RowKit.intOf v4).toNat)
      case atStart => exact ⟨0,0,rfl,Nat.zero_le _,rfl,hid fun a _ h => by omega⟩
      case round =>
        obtain ⟨k,d,rfl,hk,rfl,hno⟩:=hrel
        by_cases hki : k < i
        · have hkx : k < x.length:=by omega
          obtain ⟨o',_,_,_,hva',_,_,k1',_,_,_⟩:=HX.out.get hkx
          have ho : o' = o:=by simpa using hva'.symm
          subst ho
          obtain ⟨KN,hKN⟩ : ∃ KN : ByteArray,(⟨(x[k]).name.toArray⟩ : ByteArray) = KN:=⟨_,rfl⟩
          rw [tx,hKN] at k1'
          have k1 : wr.cell? ⟨b,o' + k * 3 + 1,none⟩ = some (.string KN):=(hbel.out.cell (p:=⟨b,o' + k * 3 + 1,none⟩) hbw).trans k1'
          have HEQ:=hid (show (KN.toList == TN.toList) = decide ((x[k]).name = T.name) by rw [← hKN,← HTN.out,ByteArray.toList_eq,ByteArray.toList_eq,Bool.beq_eq_decide_eq])
          clear k1' hKN hva'
          cases hqq : (KN.toList == TN.toList) with
          | true =>
            have HF:=hid (show false = VB by rw [← HV.out];exact (valid_name hki hix (by rw [HT.out];exact of_decide_eq_true (by rw [← HEQ.out];exact hqq))).symm)
            go_wp2
            go_quiet (fail)
            go_wp2
            go_ret
            exact ⟨ret_b HF.out,hbel.out.trans ⟨rfl,rfl,rfl,Nat.le_refl _,fun _ _ => rfl⟩⟩
          | false =>
            have HNE:=hid (show (x[k]).name ≠ T.name from of_decide_eq_false (by rw [← HEQ.out];exact hqq))
            go_wp2
            go_quiet (fail)
            go_wp2
            go_roundw
            case rel => exact ⟨k + 1,_,by go_num,by omega,rfl,hid fun a ha hak => by
              by_cases hak2 : a = k
              · subst hak2;exact HNE.out
              · exact hno.out a ha (by omega)⟩
            case measure => simp [RowKit.intOf];omega
        · have hki2 : k = i:=by omega
          subst hki2
          go_wp2
          have HNO:=hid hno.out
          go_loopw [5] (fun v5 wz => ∃ j : Nat,v5 = .int .i64 j ∧ j ≤ m ∧ Hid (Below w.heap.size w wz) ∧ Hid (∀ a (ha : a < T.fields.length),a < j → Wf.hasRef x (T.fields[a]).kind = true)) (fun v5 _ => m - (RowKit.intOf v5).toNat)
          case atStart => exact ⟨0,rfl,Nat.zero_le _,hid (hbel.out.trans ⟨rfl,rfl,rfl,Nat.le_refl _,fun _ _ => rfl⟩),hid fun a _ h => by omega⟩
          case round =>
            obtain ⟨j,rfl,hj,hbz,hok⟩:=hrel
            have z0:=(hbz.out.cell (p:=⟨b,o + k * 3,none⟩) hbw).trans HG0.out
            have z2:=(hbz.out.cell (p:=⟨b,o + k * 3 + 2,none⟩) hbw).trans HG2.out
            have hbwz : b < wr.heap.size:=Nat.lt_of_lt_of_le hbw hbz.out.size
            by_cases h69 : q = 69
            · subst h69
              have HS:=hid (seen_step hseen.out hix (by rw [HT.out];exact HNO.out) (.inl (by rw [HT.out];exact UInt8.toNat_inj.1 (by rw [HQ.out];rfl))))
              by_cases hjm : j < m
              · go_wp2
                go_roundw
                case rel => exact ⟨k + 1,by go_num,by omega,HS,hbz⟩
                case measure => simp [RowKit.intOf];omega
              · have hjm2 : j = m:=by omega
                subst hjm2
                go_wp2
                go_roundw
                case rel => exact ⟨k + 1,by go_num,by omega,HS,hbz⟩
                case measure => simp [RowKit.intOf];omega
            · have t69 : ((q : Int) != 69) = true:=by rw [bne_iff_ne];omega
              by_cases hjm : j < m
              · have hjt : j < T.fields.length:=by rw [HM.out];exact hjm
                obtain ⟨F,hF⟩ : ∃ F,T.fields[j] = F:=⟨_,rfl⟩
                have hjl : j < (T.fields.map (fdS T.sort)).length:=by rw [List.length_map];exact hjt
                obtain ⟨go,rfl,hgw,hgm,hgc,hcell⟩:=RowK.get HROW.out hjl
                have hmx : m ≤ 9223372036854775807:=Nat.le_trans hgm (Nat.le_trans hgc (by unfold maxLen;omega))
                have ht69 : T.sort ≠ 69:=fun h => h69 (by rw [← HQ.out,h];rfl)
                have e0 : (T.fields.map (fdS T.sort))[j]'hjl = fdS T.sort F:=by rw [List.getElem_map,hF]
                have k2':=hcell 2 (tx F.kind.text) (by decide) (by rw [e0,fdS,if_neg ht69];rfl)
                have k2 : wr.cell? ⟨fb,go + j * 4 + 2,none⟩ = some (tx F.kind.text):=(hbz.out.cell (p:=⟨fb,go + j * 4 + 2,none⟩) hgw).trans k2'
                have hFm : F ∈ T.fields:=by rw [← hF];exact List.getElem_mem hjt
                have hxT : T ∈ x:=by rw [← HT.out];exact List.getElem_mem hix
                have hkl:=(HG.out T hxT).2 F hFm
                have HCORE:=hid fun wz => l2Core_text F.kind hkl wz
                have hcl:=core_len F.kind
                have HREF:=hid fun wz => l2Ref_text F.kind.core (by omega) wz
                obtain ⟨NM,is,hri,hhas⟩:=core_is x F.kind
                rw [hri] at HREF
                have HFIND:=hid fun wz (hz : Below w.heap.size w wz) => (l3findAny x lo b (.slice (some ⟨b,o,none⟩) n vc) NM w wz hz (by rw [HN.out];exact hx8) HX.out)
                obtain ⟨KT,hKT⟩ : ∃ KT : ByteArray,(⟨F.kind.text.toArray⟩ : ByteArray) = KT:=⟨_,rfl⟩
                obtain ⟨CT,hCT⟩ : ∃ CT : ByteArray,(⟨F.kind.core.text.toArray⟩ : ByteArray) = CT:=⟨_,rfl⟩
                rw [tx,hKT] at k2
                simp only [tx,hKT,hCT] at HCORE HREF
                obtain ⟨ok,hokk⟩ : ∃ ok,(x.find NM.data.toList).isSome = ok:=⟨_,rfl⟩
                rw [hokk] at hhas HFIND
                have HHAS:=hid hhas
                have HF':=hid hF
                have HJT:=hid hjt
                clear hhas hokk hCT hKT hri hcl hkl hxT hFm k2' e0 ht69 hcell hjl hF
                by_cases hbad : is = true ∧ ok = false
                · obtain ⟨rfl,rfl⟩:=hbad
                  have HFF:=hid (show false = VB by
                    rw [← HV.out]
                    refine (valid_ref hix (j:=j) ?_ ?_ ?_).symm
                    · rw [HT.out];exact fun h => h69 (by rw [← HQ.out,h];rfl)
                    · rw [HT.out];exact HJT.out
                    · simp only [HT.out,HF'.out];exact HHAS.out)
                  go_wp2_with (first | (go_at_call 75;refine (HFIND.out _ hbz.out).mono ?_;rintro e w3 ⟨⟨fq,fN,fA,fM,fC,rfl⟩,hb3⟩;have HB3:=hid hb3;clear hb3) | (go_at_call 73;refine (HREF.out _).mono ?_;rintro e w2 ⟨rfl,rfl⟩) | (go_at_call 74;refine (HCORE.out _).mono ?_;rintro e w1 ⟨rfl,rfl⟩))
                  go_ret
                  exact ⟨ret_b HFF.out,by have B:=hbz.out.trans (HB3.out.mono hbz.out.size);repeat (first | with_reducible exact B | with_reducible refine Below.drew ?_ | with_reducible refine Below.setCell ?_ (by simp) _ | with_reducible refine Below.alloc ?_ (by first | exact B.size | (simp;omega)) _)⟩
                · have HK:=hid (show Wf.hasRef x F.kind = true by
                    rw [HHAS.out];cases is <;> cases ok <;> simp_all)
                  have HREL:=hid (show ∀ a (ha : a < T.fields.length),a < j + 1 → Wf.hasRef x (T.fields[a]).kind = true from fun a ha haj => by
                    by_cases haj2 : a = j
                    · subst haj2;rw [HF'.out];exact HK.out
                    · exact hok.out a ha (by omega))
                  have hio : (is && !ok) = false:=by cases is <;> cases ok <;> simp_all
                  clear hbad
                  rcases Bool.eq_false_or_eq_true is with rfl | rfl
                  · have hok1 : ok = true:=by cases ok <;> simp_all
                    subst hok1
                    go_wp2_with (first | (go_at_call 75;refine (HFIND.out _ hbz.out).mono ?_;rintro e w3 ⟨⟨fq,fN,fA,fM,fC,rfl⟩,hb3⟩;have HB3:=hid hb3;clear hb3) | (go_at_call 73;refine (HREF.out _).mono ?_;rintro e w2 ⟨rfl,rfl⟩) | (go_at_call 74;refine (HCORE.out _).mono ?_;rintro e w1 ⟨rfl,rfl⟩))
                    go_roundw
                    case rel => exact ⟨j + 1,by go_num,by omega,hid (by have B:=hbz.out.trans (HB3.out.mono hbz.out.size);repeat (first | with_reducible exact B | with_reducible refine Below.drew ?_ | with_reducible refine Below.setCell ?_ (by simp) _ | with_reducible refine Below.alloc ?_ (by first | exact B.size | (simp;omega)) _)),HREL⟩
                    case measure => simp [RowKit.intOf];omega
                  · go_wp2_with (first | (go_at_call 75;refine (HFIND.out _ hbz.out).mono ?_;rintro e w3 ⟨⟨fq,fN,fA,fM,fC,rfl⟩,hb3⟩;have HB3:=hid hb3;clear hb3) | (go_at_call 73;refine (HREF.out _).mono ?_;rintro e w2 ⟨rfl,rfl⟩) | (go_at_call 74;refine (HCORE.out _).mono ?_;rintro e w1 ⟨rfl,rfl⟩))
                    go_roundw
                    case rel => exact ⟨j + 1,by go_num,by omega,hid (by have B:=hbz.out.trans (HB3.out.mono hbz.out.size);repeat (first | with_reducible exact B | with_reducible refine Below.drew ?_ | with_reducible refine Below.setCell ?_ (by simp) _ | with_reducible refine Below.alloc ?_ (by first | exact B.size | (simp;omega)) _)),HREL⟩
                    case measure => simp [RowKit.intOf];omega
              · have hjm2 : j = m:=by omega
                subst hjm2
                have HS:=hid (seen_step hseen.out hix (by rw [HT.out];exact HNO.out) (.inr (by
                  rw [HT.out];intro f hf
                  obtain ⟨a,ha,rfl⟩:=List.mem_iff_getElem.1 hf
                  exact hok.out a ha (by rw [← HM.out];exact ha))))
                go_wp2
                go_roundw
                case rel => exact ⟨k + 1,by go_num,by omega,HS,hbz⟩
                case measure => simp [RowKit.intOf];omega
    · have hin : i = n:=by omega
      subst hin
      have HSEEN:=hid (show Seen x x.length by rw [HN.out];exact hseen.out)
      go_wp2
      go_loopw [10] (fun v10 wz => ∃ j : Nat,v10 = .int .i64 j ∧ j ≤ i ∧ Hid (Below w.heap.size w wz) ∧ Hid (∀ a (ha : a < x.length),a < j → Wf.endsIn x (x.length + 1) x[a] = true)) (fun v10 _ => i - (RowKit.intOf v10).toNat)
      case atStart => exact ⟨0,rfl,Nat.zero_le _,hbel,hid fun a _ h => by omega⟩
      case round =>
        obtain ⟨j,rfl,hj,hbz,hok⟩:=hrel
        by_cases hjn : j < i
        · have hjx : j < x.length:=by rw [HN.out];exact hjn
          obtain ⟨o,fb,fa,fc,rfl,hbw,g0',g1',g2',hrow,_⟩:=HX.out.get hjx
          have hbwr : b < wr.heap.size:=Nat.lt_of_lt_of_le hbw hbz.out.size
          obtain ⟨T,hT⟩ : ∃ T,x[j] = T:=⟨_,rfl⟩
          rw [hT] at g0' g1' g2' hrow
          have g0:=(hbz.out.cell (p:=⟨b,o + j * 3,none⟩) hbw).trans g0'
          have g1:=(hbz.out.cell (p:=⟨b,o + j * 3 + 1,none⟩) hbw).trans g1'
          have g2:=(hbz.out.cell (p:=⟨b,o + j * 3 + 2,none⟩) hbw).trans g2'
          have HEND:=hid (l3ends x lo b (.slice (some ⟨b,o,none⟩) i vc) w wr hbz.out (by rw [HN.out];exact hx8) HX.out HG.out T (by rw [← hT];exact HG.out _ (List.getElem_mem hjx)) fb fa fc hrow)
          have HT:=hid hT
          have HJX:=hid hjx
          clear g0' g1' g2' hrow hT
          cases hEE : Wf.endsIn x (x.length + 1) T with
          | false =>
            rw [hEE] at HEND
            have HFF:=hid (show false = VB by rw [← HV.out];exact (valid_end HJX.out (by rw [HT.out];exact hEE)).symm)
            clear hEE
            go_wp2_with (go_at_call 147;refine HEND.out.mono ?_;rintro e w3 ⟨rfl,hb3⟩;have HB3:=hid hb3;clear hb3)
            go_ret
            exact ⟨ret_b HFF.out,by have B:=hbz.out.trans (HB3.out.mono hbz.out.size);repeat (first | with_reducible exact B | with_reducible refine Below.drew ?_)⟩
          | true =>
            rw [hEE] at HEND
            have HREL:=hid (show ∀ a (ha : a < x.length),a < j + 1 → Wf.endsIn x (x.length + 1) x[a] = true from fun a ha haj => by
              by_cases haj2 : a = j
              · subst haj2;rw [HT.out];exact hEE
              · exact hok.out a ha (by omega))
            clear hEE
            go_wp2_with (go_at_call 147;refine HEND.out.mono ?_;rintro e w3 ⟨rfl,hb3⟩;have HB3:=hid hb3;clear hb3)
            go_roundw
            case rel => exact ⟨j + 1,by go_num,by omega,hid (by have B:=hbz.out.trans (HB3.out.mono hbz.out.size);repeat (first | with_reducible exact B | with_reducible refine Below.drew ?_)),HREL⟩
            case measure => simp [RowKit.intOf];omega
        · have hji : j = i:=by omega
          subst hji
          have HFF:=hid (show true = VB by rw [← HV.out];exact (valid_yes HSEEN.out fun a ha => hok.out a ha (by rw [← HN.out];exact ha)).symm)
          go_wp2
          go_ret
          exact ⟨ret_b HFF.out,hbz.out⟩

theorem info_ty3 : (Tryz.prog.info? 82).map (fun i => (i.zero,i.size,i.bytes)) = some (some (.agg #[.int .u8 0,tx [], .slice none 0 0]),3,48):=by kernel_rfl
theorem new3 (W : World) (x0 x1 x2 : Value) (et : TypeId) : ∀ (j : Nat) (u : Value),[x0,x1,x2][j]? = some u → (W.alloc (.cells #[x0,x1,x2] et)).cell? (Addr.add ⟨W.heap.size,0,none⟩ j) = some u:=by
  intro j u hj
  match j,hj with
  | 0,hj => simp at hj;subst hj;simp [Addr.add]
  | 1,hj => simp at hj;subst hj;simp [Addr.add]
  | 2,hj => simp at hj;subst hj;simp [Addr.add]
theorem new3b (W : World) (o : Obj) (x0 x1 x2 : Value) (et : TypeId) : ∀ (j : Nat) (u : Value),[x0,x1,x2][j]? = some u → ((W.alloc o).alloc (.cells #[x0,x1,x2] et)).cell? (Addr.add ⟨W.heap.size + 1,0,none⟩ j) = some u:=by
  intro j u hj
  have h:=new3 (W.alloc o) x0 x1 x2 et j u hj
  simpa using h
theorem one3 (q : Int) (a : ByteArray) (b : Option Addr) (n c : Nat) : ∀ u ∈ [Value.int .u8 q,Value.string a,Value.slice b n c],u.oneCell' = true:=by
  intro u hu
  simp only [List.mem_cons,List.not_mem_nil,or_false] at hu
  rcases hu with rfl | rfl | rfl <;> rfl
theorem mapTys_snoc : ∀ (l : List Wf.Bs) (s : Wf.Bs) (acc : List Wf.Ty) (t : Wf.Ty),Wf.mapTys l = some acc → Wf.lineTy s = some t → Wf.mapTys (l ++ [s]) = some (acc ++ [t]):=by
  intro l
  induction l with
  | nil => intro s acc t h1 h2;simp only [Wf.mapTys,Option.some.injEq] at h1;subst h1;simp [Wf.mapTys,h2]
  | cons a l ih =>
    intro s acc t h1 h2
    simp only [Wf.mapTys] at h1
    cases ha : Wf.lineTy a with
    | none => rw [ha] at h1;cases h1
    | some u =>
      rw [ha] at h1
      cases hl : Wf.mapTys l with
      | none => rw [hl] at h1;cases h1
      | some r =>
        rw [hl] at h1
        simp only [Option.map_some,Option.some.injEq] at h1
        subst h1
        simp [Wf.mapTys,ha,ih s r t hl h2]
theorem mapTys_bad : ∀ (l : List Wf.Bs) (s : Wf.Bs) (m : List Wf.Bs),Wf.lineTy s = none → Wf.mapTys (l ++ s :: m) = none:=by
  intro l
  induction l with
  | nil => intro s m h;simp [Wf.mapTys,h]
  | cons a l ih =>
    intro s m h
    simp only [List.cons_append,Wf.mapTys,ih s m h]
    cases Wf.lineTy a <;> rfl
theorem mapTys_ok : ∀ (l : List Wf.Bs) (acc : List Wf.Ty),Wf.mapTys l = some acc → ∀ t ∈ acc,Wf.TyOk t:=by
  intro l
  induction l with
  | nil => intro acc h t ht;simp only [Wf.mapTys,Option.some.injEq] at h;subst h;cases ht
  | cons a l ih =>
    intro acc h t ht
    simp only [Wf.mapTys] at h
    cases ha : Wf.lineTy a with
    | none => rw [ha] at h;cases h
    | some u =>
      rw [ha] at h
      cases hl : Wf.mapTys l with
      | none => rw [hl] at h;cases h
      | some r =>
        rw [hl] at h
        simp only [Option.map_some,Option.some.injEq] at h
        subst h
        rcases List.mem_cons.1 ht with rfl | ht
        · exact Wf.lineTy_ok ha
        · exact ih r hl t ht
theorem parseK_len {s : List UInt8} {k : Wf.K} (h : Wf.parseK s = some k) : k.text.length ≤ 12:=by
  unfold Wf.parseK at h
  split at h
  · rw [Wf.kindIn_text h];assumption
  · cases h
theorem fd_kind {q : UInt8} {f : Wf.Fd} (h : Wf.FdOk q f) : f.kind.text.length ≤ 12:=by
  by_cases hq : q = 69
  · rw [(h.enum hq).1];decide
  · obtain ⟨s,hs⟩:=h.kind hq
    exact parseK_len hs
theorem good_of {t : Wf.Ty} (h : Wf.TyOk t) : Good t:=⟨fun hs => h.some (by rw [hs];decide),fun f hf => by have:=fd_kind (h.fds f hf);omega⟩
theorem ScSp.mono {w : World} {lo lo' b : Nat} {v : Value} {x : Wf.Sc} (h : ScSp w lo b v x) (hl : lo' ≤ lo) : ScSp w lo' b v x:=by
  obtain ⟨cs,h0,h1,h2,h3⟩:=h
  refine ⟨cs,Nat.le_trans hl h0,h1,h2,fun i hi hi' => ?_⟩
  obtain ⟨fb,a,c,g1,g2,g3⟩:=h3 i hi hi'
  exact ⟨fb,a,c,g1,Nat.le_trans hl g2,g3⟩
structure Above (lo : Nat) (w w' : World) : Prop where
  size : w.heap.size ≤ w'.heap.size
  block : ∀ k,lo ≤ k → k < w.heap.size → w'.heap[k]? = w.heap[k]?
theorem Above.refl (lo : Nat) (w : World) : Above lo w w:=⟨Nat.le_refl _,fun _ _ _ => rfl⟩
theorem Above.trans {lo : Nat} {a b c : World} (h : Above lo a b) (k : Above lo b c) : Above lo a c:=⟨Nat.le_trans h.size k.size,fun i hi hs => (k.block i hi (Nat.lt_of_lt_of_le hs h.size)).trans (h.block i hi hs)⟩
theorem Above.of_below {lo : Nat} {a b : World} (h : Below a.heap.size a b) : Above lo a b:=⟨h.size,fun k _ hk => h.block k hk⟩
theorem Above.set {lo : Nat} {a b : World} (h : Above lo a b) {r : Nat} (hr : r < lo) (o : Nat) (u : Value) : Above lo a (b.setCell ⟨r,o,none⟩ u) :=
  h.trans ⟨by simp,fun k hk _ => Below.heap_setCell b ⟨r,o,none⟩ u k (by simp;omega)⟩
theorem Above.drew {lo : Nat} {a b : World} (h : Above lo a b) : Above lo a b.drew:=h.trans ⟨Nat.le_refl _,fun _ _ _ => rfl⟩
theorem Above.drewN {lo : Nat} {a b : World} (h : Above lo a b) (n : Nat) : Above lo a (b.drewN n):=h.trans ⟨Nat.le_refl _,fun _ _ _ => rfl⟩
theorem Above.alloc {lo : Nat} {a b : World} (h : Above lo a b) (o : Obj) : Above lo a (b.alloc o):=h.trans (Above.of_below ((Below.refl _ _).alloc (Nat.le_refl _) _))
theorem RowK.above {w w' : World} {lo b k : Nat} {v : Value} {es : List (List Value)} (h : RowK w b v k es) (ha : Above lo w w') (hb : lo ≤ b) : RowK w' b v k es:=h.keep ha.size fun hx => ha.block b hb hx
theorem ScSp.above {w w' : World} {lo b : Nat} {v : Value} {x : Wf.Sc} (h : ScSp w lo b v x) (ha : Above lo w w') : ScSp w' lo b v x:=by
  obtain ⟨cs,h0,h1,h2,h3⟩:=h
  refine ⟨cs,h0,h1.above ha h0,h2,fun i hi hi' => ?_⟩
  obtain ⟨fb,a,c,g1,g2,g3⟩:=h3 i hi hi'
  exact ⟨fb,a,c,g1,g2,g3.above ha g2⟩
def OfOut (l : List UInt8) (lo : Nat) (e : Ending) (w' : World) : Prop:=match Wf.schemaOf l with
  | some x => ∃ b v,e = .returned (.tuple #[v, .bool true]) ∧ ScSp w' lo b v x
  | none => ∃ a n c,e = .returned (.tuple #[.slice a n c, .bool false])
theorem of_none {l : List UInt8} {lo : Nat} {e : Ending} {w' : World} (h : Wf.schemaOf l = none) (he : ∃ a n c,e = .returned (.tuple #[.slice a n c, .bool false])) : OfOut l lo e w':=by
  unfold OfOut;rw [h];exact he
theorem of_valid {l : List UInt8} {lo : Nat} {e : Ending} {w' : World} {x : Wf.Sc} {b n : Nat} {a : Option Addr} {c : Nat} (h : Wf.schemaOf l = if validB x = true then some x else none) (hs : ScSp w' lo b (.slice a n c) x) (he : e = .returned (.tuple #[.slice a n c, .bool (validB x)])) : OfOut l lo e w':=by
  cases hv : validB x with
  | true => rw [hv,if_pos rfl] at h;rw [hv] at he;unfold OfOut;rw [h];exact ⟨b,_,he,hs⟩
  | false => rw [hv,if_neg (by decide)] at h;rw [hv] at he;exact of_none h ⟨_,_,_,he⟩
def TyX (w : World) (lo : Nat) (g : Option Nat) (cs : List Value) (t : Wf.Ty) : Prop:=∃ fb a c,cs = [.int .u8 t.sort.toNat,tx t.name, .slice a t.fields.length c] ∧ lo ≤ fb ∧ (t.fields = [] ∨ some fb ≠ g ∧ fb < w.heap.size) ∧ RowK w fb (.slice a t.fields.length c) 4 (t.fields.map (fdS t.sort))
theorem TyX.sp {w : World} {lo : Nat} {g : Option Nat} {cs : List Value} {t : Wf.Ty} (h : TyX w lo g cs t) : TySp w lo cs t:=by
  obtain ⟨fb,a,c,h1,h0,h2,h3⟩:=h
  exact ⟨fb,a,c,h1,h0,h3⟩
theorem TyX.below {w w' : World} {lo : Nat} {g : Option Nat} {cs : List Value} {t : Wf.Ty} (h : TyX w lo g cs t) (hb : Below w.heap.size w w') : TyX w' lo g cs t:=by
  obtain ⟨fb,a,c,h1,h0,h2,h3⟩:=h
  exact ⟨fb,a,c,h1,h0,h2.imp_right fun h => ⟨h.1,Nat.lt_of_lt_of_le h.2 hb.size⟩,h3.below hb⟩
theorem RowK.grown {w w' : World} {b k : Nat} {v : Value} {es : List (List Value)} {g : Option Nat} (h : RowK w b v k es) (hg : w.grownBy w' g) (hb : es = [] ∨ some b ≠ g) : RowK w' b v k es:=by
  obtain ⟨a,cap,h1,h2,h3,h4⟩:=h
  refine ⟨a,cap,h1,h2,h3, ?_⟩
  rcases h4 with h4 | ⟨o,h5,h6,h7⟩
  · exact .inl h4
  · rcases hb with hb | hb
    · exact .inl hb
    · exact .inr ⟨o,h5,Nat.lt_of_lt_of_le h6 hg.size,fun i hi j u hj hu => (World.cell?_of_block (w:=w) (a:=⟨b,o + i * k + j,none⟩) (hg.block b h6 hb)).trans (h7 i hi j u hj hu)⟩
theorem TyX.grown {w w' : World} {lo : Nat} {g g' : Option Nat} {cs : List Value} {t : Wf.Ty} (h : TyX w lo g cs t) (hg : w.grownBy w' g) (hg' : g' = g ∨ g' = some w.heap.size) : TyX w' lo g' cs t:=by
  obtain ⟨fb,a,c,h1,h0,h2,h3⟩:=h
  refine ⟨fb,a,c,h1,h0,h2.imp_right fun h => ⟨?_,Nat.lt_of_lt_of_le h.2 hg.size⟩,h3.grown hg (by
    rcases h2 with h | h
    · left;rw [h];rfl
    · exact .inr h.1)⟩
  rcases hg' with rfl | rfl
  · exact h.1
  · intro e;have:=Option.some.inj e;omega
structure OfSt (w1 wr : World) (ps : List (List UInt8)) (k : Nat) (acc : List Wf.Ty) (a : Option Addr) (c : Nat) (es : List (List Value)) : Prop where
  map : Wf.mapTys (ps.take k) = some acc
  len : acc.length = k
  elen : es.length = k
  own : wr.ownsRow w1.heap.size 82 3 (.slice a k c) k es.flatten
  e3 : ∀ e ∈ es,e.length = 3
  tys : ∀ i (h : i < es.length) (h' : i < acc.length),TyX wr w1.heap.size (Value.slice a k c).ownBlock es[i] acc[i]
  below : Below w1.heap.size w1 wr
theorem OfSt.step {w1 wr w2 : World} {ps : List (List UInt8)} {k : Nat} {acc : List Wf.Ty} {a : Option Addr} {c : Nat} {es : List (List Value)} (h : OfSt w1 wr ps k acc a c es) (hb : Below wr.heap.size wr w2) : OfSt w1 w2 ps k acc a c es :=
  ⟨h.map,h.len,h.elen,owns_below h.own hb,h.e3,fun i hi hi' => (h.tys i hi hi').below hb,h.below.trans (hb.mono h.below.size)⟩
theorem OfSt.start (w1 : World) (ps : List (List UInt8)) : OfSt w1 (w1.alloc (.cells #[] 82)) ps 0 [] (some ⟨w1.heap.size,0,none⟩) 0 [] :=
  ⟨rfl,rfl,rfl,World.ownsRow_made w1 #[] 0 (Nat.le_refl _) (by decide) rfl,(fun _ h => by cases h),(fun i h => by simp at h),(Below.refl _ _).alloc (Nat.le_refl _) _⟩
theorem owns_lt {w : World} {base : Nat} {e : TypeId} {size n : Nat} {v : Value} {xs : List Value} (h : w.ownsRow base e size v n xs) : ∀ g,v.ownBlock = some g → base ≤ g ∧ g < w.heap.size:=by
  obtain ⟨_,⟨rfl,_⟩ | ⟨g,cap,cur,rfl,h4,h5,_⟩⟩:=h
  · intro g hg;cases hg
  · intro g' hg'
    simp only [Value.ownBlock,Option.some.injEq] at hg'
    subst hg'
    exact ⟨h4,(Array.getElem?_eq_some_iff.1 h5).1⟩
theorem below_grown2 {base : Nat} {w w' : World} {g : Option Nat} (hg : w.grownBy w' g) (h : ∀ k,g = some k → base ≤ k) (hb : base ≤ w.heap.size) : Below base w w':=(Below.refl base w).grown hg hb h
theorem OfSt.put {w1 wr wx w' : World} {ps : List (List UInt8)} {k : Nat} {acc : List Wf.Ty} {a a' : Option Addr} {c c' : Nat} {es : List (List Value)} {t : Wf.Ty} {fb : Nat} {fa : Option Addr} {fc : Nat} (h : OfSt w1 wr ps k acc a c es) (hx : Below wr.heap.size wr wx) (hg : wx.grownBy w' (Value.slice a k c).ownBlock) (hk : k < ps.length) (ht : Wf.lineTy ps[k] = some t)
    (hloc : (Value.slice a' (k + 1) c').ownBlock = (Value.slice a k c).ownBlock ∨ (Value.slice a' (k + 1) c').ownBlock = some wx.heap.size)
    (hfb : wr.heap.size ≤ fb) (hrow : RowK wx fb (.slice fa t.fields.length fc) 4 (t.fields.map (fdS t.sort))) (ho : w'.ownsRow w1.heap.size 82 3 (.slice a' (k + 1) c') (k + 1) (es.flatten ++ [.int .u8 t.sort.toNat,tx t.name, .slice fa t.fields.length fc])) : OfSt w1 w' ps (k + 1) (acc ++ [t]) a' c' (es ++ [[.int .u8 t.sort.toNat,tx t.name, .slice fa t.fields.length fc]]):=by
  have hl : (es ++ [[Value.int .u8 t.sort.toNat,tx t.name, .slice fa t.fields.length fc]]).length = k + 1:=by rw [List.length_append,h.elen];rfl
  have hs:=h.step hx
  have hlt:=owns_lt h.own
  have new : TyX wx w1.heap.size (Value.slice a k c).ownBlock [.int .u8 t.sort.toNat,tx t.name, .slice fa t.fields.length fc] t:=by
    refine ⟨fb,fa,fc,rfl,Nat.le_trans h.below.size hfb, ?_,hrow⟩
    by_cases h0 : t.fields = []
    · exact .inl h0
    · right
      obtain ⟨_,_,_,_,_,h4⟩:=hrow
      rcases h4 with h4 | ⟨_,_,h6,_⟩
      · exact absurd (List.map_eq_nil_iff.1 h4) h0
      · refine ⟨fun e => ?_,h6⟩
        have:=(hlt fb e.symm).2;omega
  refine ⟨?_,by rw [List.length_append,h.len];rfl,hl, ?_, ?_, ?_, ?_⟩
  · rw [List.take_add_one,List.getElem?_eq_getElem hk];exact mapTys_snoc _ _ _ _ h.map ht
  · rw [List.flatten_append,List.flatten_cons,List.flatten_nil,List.append_nil];exact ho
  · intro x hx
    rcases List.mem_append.1 hx with hx | hx
    · exact h.e3 x hx
    · rw [List.mem_singleton.1 hx];rfl
  · intro i hi hi'
    have e1:=h.elen
    have e2:=h.len
    by_cases hik : i < k
    · rw [List.getElem_append_left (by omega),List.getElem_append_left (by omega)];exact (hs.tys i (by omega) (by omega)).grown hg hloc
    · have : i = k:=by omega
      subst this
      rw [List.getElem_append_right (by omega),List.getElem_append_right (by omega)]
      simpa [e1,e2] using new.grown hg hloc
  · exact hs.below.trans (below_grown2 hg (fun g hgk => (hlt g hgk).1) hs.below.size)
theorem OfSt.sc {w1 wr : World} {ps : List (List UInt8)} {k : Nat} {acc : List Wf.Ty} {a : Option Addr} {c : Nat} {es : List (List Value)} (h : OfSt w1 wr ps k acc a c es) : ∃ b,ScSp wr w1.heap.size b (.slice a k c) acc:=by
  have ho:=h.own
  have he:=h.elen
  rw [← he] at ho
  obtain ⟨b,hb,hr⟩:=RowK.of_owns ho h.e3
  rw [he] at hr
  exact ⟨b,es,hb,hr,by rw [h.elen,h.len],fun i hi hi' => (h.tys i hi hi').sp⟩
set_option maxRecDepth 20000 in
set_option maxHeartbeats 1000000 in
theorem of_bad (s : ByteArray) (w : World) (hs : s.size ≤ 1048576) (ps : List (List UInt8)) (hcut : ∀ w,Calls Tryz.prog 101 #[.string s, .int .u8 10] w fun e w' => CutOut w ps e w') (h : 400 < s.size ∨ 9 < ps.length) :
    Calls Tryz.prog 71 #[.string s] w fun e w' => e = .returned (.tuple #[.slice none 0 0, .bool false]) ∧ Below w.heap.size w w':=by
  have HC:=hid hcut
  clear hcut
  obtain ⟨n,hn⟩ : ∃ n,ps.length = n:=⟨_,rfl⟩
  rw [hn] at h
  have HN:=hid hn
  clear hn
  by_cases h4 : 400 < s.size
  · clear h
    go_enter Tryz.func71,Tryz.ntmps71
    go_wp2_with (go_at_call 101;refine (HC.out _).mono ?_;rintro e w1 ⟨b1,v1,rfl,hb1,hr1,hB1⟩;obtain ⟨a1,c1,rfl⟩:=hr1.len (n:=n) (by rw [List.length_map];exact HN.out);clear hr1)
    go_ret2
    exact ⟨rfl,hB1⟩
  · have h9 : 9 < n:=by omega
    clear h
    go_enter Tryz.func71,Tryz.ntmps71
    go_wp2_with (go_at_call 101;refine (HC.out _).mono ?_;rintro e w1 ⟨b1,v1,rfl,hb1,hr1,hB1⟩;obtain ⟨a1,c1,rfl⟩:=hr1.len (n:=n) (by rw [List.length_map];exact HN.out);clear hr1)
    go_ret2
    exact ⟨rfl,hB1⟩
set_option maxRecDepth 20000 in
set_option maxHeartbeats 1000000 in
theorem of_last (s : ByteArray) (w : World) (hs : s.size ≤ 400) (ps : List (List UInt8)) (hcut : ∀ w,Calls Tryz.prog 101 #[.string s, .int .u8 10] w fun e w' => CutOut w ps e w') (m : Nat) (hm : ps.length = m + 1) (h9 : m ≤ 8) (hl : ps.getLast? ≠ some []) :
    Calls Tryz.prog 71 #[.string s] w fun e w' => e = .returned (.tuple #[.slice none 0 0, .bool false]) ∧ Below w.heap.size w w':=by
  have HC:=hid hcut
  have HN:=hid hm
  have hx : Hid (∀ h : m < ps.length,ps[m]'h ≠ []):=hid (fun h => by
    rw [List.getLast?_eq_getElem?,hm,Nat.add_sub_cancel,List.getElem?_eq_getElem (by omega)] at hl
    exact fun e => hl (by rw [e]))
  clear hcut hm hl
  go_enter Tryz.func71,Tryz.ntmps71
  go_wp2_with (go_at_call 101;refine (HC.out _).mono ?_;rintro e w1 ⟨b1,v1,rfl,hb1,hr1,hB1⟩;obtain ⟨a1,c1,rfl⟩:=hr1.len (n:=m + 1) (by rw [List.length_map];exact HN.out);obtain ⟨o1,rfl,h1,h2,h3,h4⟩:=hr1.some (i:=m) (by rw [List.length_map,HN.out];omega);obtain ⟨L,hL⟩ : ∃ L : ByteArray,(⟨(ps[m]'(by rw [HN.out];omega)).toArray⟩ : ByteArray) = L:=⟨_,rfl⟩;rw [List.getElem_map,tx,hL] at h1;have hne : L.toList.isEmpty = false:=(by rw [← hL,ByteArray.toList_eq];have:=hx.out (by rw [HN.out];omega);simpa using this);clear hr1 hL)
  go_ret2
  exact ⟨rfl,hB1⟩
set_option maxRecDepth 20000 in
set_option maxHeartbeats 2000000 in
theorem of_loop (s : ByteArray) (w : World) (hs : s.size ≤ 400) (ps : List (List UInt8)) (hcut : ∀ w,Calls Tryz.prog 101 #[.string s, .int .u8 10] w fun e w' => CutOut w ps e w') (m : Nat) (hm : ps.length = m + 1) (h9 : m ≤ 8) (hl : ps.getLast? = some []) (hpl : ∀ x ∈ ps,x.length ≤ 1000000)
    (hsc : Wf.schemaOf s.data.toList = match Wf.mapTys ps.dropLast with | none => none | some x => if validB x = true then some x else none) :
    Calls Tryz.prog 71 #[.string s] w fun e w' => OfOut s.data.toList w.heap.size e w' ∧ Below w.heap.size w w':=by
  have HC:=hid hcut
  have HN:=hid hm
  have HP:=hid hpl
  have HSC:=hid hsc
  have hdl : Hid (ps.dropLast = ps.take m):=hid (by rw [List.dropLast_eq_take,hm,Nat.add_sub_cancel])
  have hx : Hid (∀ h : m < ps.length,ps[m]'h = []):=hid (fun h => by
    rw [List.getLast?_eq_getElem?,hm,Nat.add_sub_cancel,List.getElem?_eq_getElem (by omega)] at hl
    exact Option.some.inj hl)
  clear hcut hm hl hpl hsc
  go_enter Tryz.func71,Tryz.ntmps71
  go_wp2_with (go_at_call 101;refine (HC.out _).mono ?_;rintro e w1 ⟨b1,v1,rfl,hb1,hr1,hB1⟩;obtain ⟨a1,c1,rfl⟩:=hr1.len (n:=m + 1) (by rw [List.length_map];exact HN.out);obtain ⟨o1,rfl,h1,h2,h3,h4⟩:=hr1.some (i:=m) (by rw [List.length_map,HN.out];omega);obtain ⟨L,hL⟩ : ∃ L : ByteArray,(⟨(ps[m]'(by rw [HN.out];omega)).toArray⟩ : ByteArray) = L:=⟨_,rfl⟩;rw [List.getElem_map,tx,hL] at h1;have hne : L.toList.isEmpty = true:=(by rw [← hL,ByteArray.toList_eq,hx.out (by rw [HN.out];omega)];rfl);have HR1:=hid hr1;have HB1:=hid hB1;clear hr1 hL hB1)
  go_loopw [5,6] (fun v5 v6 wr => ∃ (k : Nat) (a : Option Addr) (c : Nat),v5 = .slice a k c ∧ v6 = .int .i64 k ∧ k ≤ m ∧ Hid (∃ acc es,OfSt w1 wr ps k acc a c es)) (fun _ v6 _ => m - (RowKit.intOf v6).toNat)
  case atStart => exact ⟨0,_,_,rfl,rfl,Nat.zero_le _,hid ⟨_,_,OfSt.start w1 ps⟩⟩
  case round =>
    obtain ⟨k,a,c,rfl,rfl,hk,hst⟩:=hrel
    by_cases hlt : k < m
    · obtain ⟨acc,es,st⟩:=hst.out
      have hkp : k < ps.length:=by rw [HN.out];omega
      have hlx : (ps[k]).length ≤ 1000000:=HP.out _ (List.getElem_mem hkp)
      obtain ⟨X,hX⟩ : ∃ X,ps[k] = X:=⟨_,rfl⟩
      obtain ⟨o',ho',l1,_⟩:=HR1.out.some (i:=k) (by rw [List.length_map];exact hkp)
      have ho2 : o1 = o':=by simpa using ho'
      subst ho2
      rw [List.getElem_map,hX] at l1
      have l1r : wr.cell? ⟨b1,o1 + k,none⟩ = some (tx X):=(st.below.cell (p:=⟨b1,o1 + k,none⟩) h2).trans l1
      rw [hX] at hlx
      have HRT:=hid fun wz => l3ReadType ⟨X.toArray⟩ wz (by rw [tx_size];exact hlx)
      obtain ⟨L,hL⟩ : ∃ L : ByteArray,(⟨X.toArray⟩ : ByteArray) = L:=⟨_,rfl⟩
      have hLX : L.data.toList = X:=by rw [← hL]
      rw [hL] at HRT
      rw [tx,hL] at l1r
      have HX:=hid hX
      have HST:=hid st
      clear hX hL l1 ho' st hst
      cases hty : Wf.lineTy X with
      | none =>
        have HO:=hid fun e wz w' (h : RtOut L.data.toList wz e w') => (by unfold RtOut at h;rw [hLX,hty] at h;exact h : ∃ (q : Nat) (b : ByteArray) (a : Option Addr) (n c : Nat),e = .returned (.tuple #[.agg #[.int .u8 q, .string b, .slice a n c], .bool false]))
        have HF:=hid (show Wf.schemaOf s.data.toList = none by
          have hd : ps.dropLast = ps.take k ++ ps[k] :: (ps.drop (k + 1)).take (m - k - 1):=by
            rw [hdl.out]
            have h1:=List.take_append_drop k (ps.take m)
            rw [List.take_take,Nat.min_eq_left (by omega),List.drop_take,List.drop_eq_getElem_cons hkp,List.take_cons (by omega)] at h1
            exact h1.symm
          rw [HSC.out,hd,mapTys_bad _ _ _ (by rw [HX.out];exact hty)])
        clear hty hLX
        go_wp2_with (go_at_call 102;refine (HRT.out _).mono ?_;rintro e w2 ⟨ho,hb2⟩;obtain ⟨q,tn,ta,tl,tc,rfl⟩:=HO.out _ _ _ ho;have HB2:=hid hb2;clear ho hb2)
        go_ret2
        exact ⟨of_none HF.out ⟨_,_,_,rfl⟩,by have B:=HB1.out.trans ((HST.out.below.trans (HB2.out.mono HST.out.below.size)).mono HB1.out.size);repeat (first | with_reducible exact B | with_reducible refine Below.drew ?_ | with_reducible refine Below.alloc ?_ (by first | exact B.size | (simp;omega)) _)⟩
      | some t =>
        have HO:=hid fun e wz w' (h : RtOut L.data.toList wz e w') => (by unfold RtOut at h;rw [hLX,hty] at h;exact h : ∃ fb a c,e = .returned (.tuple #[.agg #[.int .u8 t.sort.toNat,tx t.name, .slice a t.fields.length c], .bool true]) ∧ wz.heap.size ≤ fb ∧ RowK w' fb (.slice a t.fields.length c) 4 (t.fields.map (fdS t.sort)))
        have HT:=hid hty
        obtain ⟨i0,hi0,hz0,hz1,hz2⟩:=info_parts info_ty3
        have HI0:=hid hi0
        have HZ0:=hid hz0
        have HZ1:=hid hz1
        have HZ2:=hid hz2
        clear hty hLX hi0 hz0 hz1 hz2
        go_wp2_with (first | (at_builtin;refine wpList_append_own_at _ rfl (.tmp 46) (.tmp 48) 51 rfl w1.heap.size 82 i0 (.agg #[.int .u8 0,tx [], .slice none 0 0]) 3 48 Tryz.underlying51 HI0.out HZ0.out HZ1.out HZ2.out rfl (by decide) (.slice a k c) k es.flatten rfl ((HOWN.out.alloc _).alloc _) ⟨w2.heap.size + 1,0,none⟩ 1 1 [.int .u8 t.sort.toNat,tx t.name, .slice fa t.fields.length fc] rfl rfl ?hn ?h1 (by unfold maxLen;omega) (by omega) ?hb ?next) | (go_at_call 102;refine (HRT.out _).mono ?_;rintro e w2 ⟨ho,hb2⟩;obtain ⟨fb,fa,fc,rfl,hfb,hrow⟩:=HO.out _ _ _ ho;have HB2:=hid hb2;have HFB:=hid hfb;have HROW:=hid hrow;have HOWN:=hid (HST.out.step hb2).own;have hbs:=Nat.le_trans HST.out.below.size hb2.size;clear ho hb2 hfb hrow))
        case hn => exact new3b w2 _ _ _ _ _
        case h1 => exact one3 _ _ _ _ _
        case hb => simp;omega
        case next =>
          intro v1 w3 ho3 hg3 _ hloc
          obtain ⟨a',c',rfl⟩:=owns_slice ho3
          have BX : Below wr.heap.size wr ((w2.alloc (.cells #[.int .u8 t.sort.toNat,tx t.name, .slice fa t.fields.length fc] 82)).alloc (.cells #[.int .u8 t.sort.toNat,tx t.name, .slice fa t.fields.length fc] 82)):=((HB2.out.alloc HB2.out.size _).alloc (by have:=HB2.out.size;simp;omega) _)
          have HPUT:=hid (HST.out.put BX hg3 hkp (by rw [HX.out];exact HT.out) (by simpa using hloc) HFB.out (HROW.out.below ((Below.refl _ _).alloc (Nat.le_refl _) _) |>.below ((Below.refl _ _).alloc (Nat.le_refl _) _)) ho3)
          clear ho3 hg3 hloc BX
          go_wp2
          go_roundw
          case rel => exact ⟨k + 1,a',c',rfl,by go_num,by omega,hid ⟨_,_,HPUT.out⟩⟩
          case measure => simp [RowKit.intOf];omega
    · have hkm : k = m:=by omega
      subst hkm
      obtain ⟨acc,es,st⟩:=hst.out
      obtain ⟨b,hsc⟩:=st.sc
      have HF:=hid (show Wf.schemaOf s.data.toList = if validB acc = true then some acc else none by rw [HSC.out,hdl.out,st.map])
      have hacc:=st.len
      have HV:=hid fun wz (hz : wz = wr) => (by subst hz;exact l3valid acc w1.heap.size b (.slice a k c) wz (by omega) hsc (fun u hu => good_of (mapTys_ok _ _ st.map u hu)) : Calls Tryz.prog 103 #[.slice a k c] wz fun e w' => e = .returned (.bool (validB acc)) ∧ Below wz.heap.size wz w')
      have HS:=hid hsc
      have HST:=hid st
      clear hacc hsc st hst
      go_wp2_with (go_at_call 103;refine (HV.out _ rfl).mono ?_;rintro e w2 ⟨rfl,hb2⟩;have HB2:=hid hb2;clear hb2)
      go_ret2
      exact ⟨of_valid HF.out ((HS.out.below HB2.out).mono HB1.out.size) rfl,HB1.out.trans ((HST.out.below.trans (HB2.out.mono HST.out.below.size)).mono HB1.out.size)⟩
theorem l3Of (s : ByteArray) (w : World) (hs : s.size ≤ 1048576) : Calls Tryz.prog 71 #[.string s] w fun e w' => OfOut s.data.toList w.heap.size e w' ∧ Below w.heap.size w w':=by
  have hl:=size_list s
  have hcut : ∀ w,Calls Tryz.prog 101 #[.string s, .int .u8 10] w fun e w' => CutOut w (Wf.cutAt 10 s.data.toList) e w':=fun w => l3Cut s 10 (by omega) w
  have hsc:=Wf.schemaB_eq s.data.toList
  unfold Wf.schemaB at hsc
  obtain ⟨m,hm⟩ : ∃ m,(Wf.cutAt 10 s.data.toList).length = m + 1:=⟨(Wf.cutAt 10 s.data.toList).length - 1,by have:=List.length_pos_iff.2 (Wf.cutAt_ne 10 s.data.toList);omega⟩
  by_cases h1 : 400 < s.size ∨ 9 < (Wf.cutAt 10 s.data.toList).length
  · refine (of_bad s w hs _ hcut h1).mono fun e w' ⟨he,hb⟩ => ⟨of_none ?_ ⟨_,_,_,he⟩,hb⟩
    rw [← hsc,if_pos (by rw [hl];rcases h1 with h | h;exact .inl h;exact .inr (.inl h))]
  · have hs4 : s.size ≤ 400:=by omega
    have h9 : m ≤ 8:=by omega
    by_cases h2 : (Wf.cutAt 10 s.data.toList).getLast? = some []
    · refine of_loop s w hs4 _ hcut m hm h9 h2 (fun x hx => by have:=cutAt_mem hx;omega) ?_
      rw [← hsc,if_neg (by rw [hl];rintro (h | h | h);omega;omega;exact h h2)]
      cases Wf.mapTys (Wf.cutAt 10 s.data.toList).dropLast with
      | none => rfl
      | some x =>
        dsimp only
        have : (Wf.namesOk x = true ∧ Wf.refsOk x = true ∧ x.all (Wf.endsIn x (x.length + 1)) = true) ↔ validB x = true:=by
          unfold validB;rw [Bool.and_eq_true,Bool.and_eq_true,and_assoc]
        by_cases hv : validB x = true
        · rw [if_pos hv,if_pos (this.2 hv)]
        · rw [if_neg hv,if_neg (fun h => hv (this.1 h))]
    · refine (of_last s w hs4 _ hcut m hm h9 h2).mono fun e w' ⟨he,hb⟩ => ⟨of_none ?_ ⟨_,_,_,he⟩,hb⟩
      rw [← hsc,if_pos (.inr (.inr h2))]

def typeIn (l nm : List UInt8) : Option (Wf.Sc × Wf.Ty):=match Wf.schemaOf l with
  | none => none
  | some x => (x.find nm).map fun t => (x,t)
def LfOut (l nm : List UInt8) (lo : Nat) (e : Ending) (w' : World) : Prop:=match typeIn l nm with
  | some y => ∃ b a c fb fa fc,e = .returned (.tuple #[.slice a y.1.length c, .agg #[.int .u8 y.2.sort.toNat,tx y.2.name, .slice fa y.2.fields.length fc], .bool true]) ∧ ScSp w' lo b (.slice a y.1.length c) y.1 ∧ lo ≤ fb ∧ RowK w' fb (.slice fa y.2.fields.length fc) 4 (y.2.fields.map (fdS y.2.sort))
  | none => ∃ a n c,e = .returned (.tuple #[.slice a n c, .agg #[.int .u8 0,tx [], .slice none 0 0], .bool false])
set_option maxRecDepth 20000 in
set_option maxHeartbeats 1000000 in
theorem l3Find (s nm : ByteArray) (w : World) (hs : s.size ≤ 1048576) : Calls Tryz.prog 49 #[.string s, .string nm] w fun e w' => LfOut s.data.toList nm.data.toList w.heap.size e w' ∧ Below w.heap.size w w':=by
  have HOF:=hid fun wz => l3Of s wz hs
  cases hsc : Wf.schemaOf s.data.toList with
  | none =>
    have HO:=hid fun e lo wz (h : OfOut s.data.toList lo e wz) => (by unfold OfOut at h;rw [hsc] at h;exact h : ∃ a n c,e = .returned (.tuple #[.slice a n c, .bool false]))
    have HF:=hid (show typeIn s.data.toList nm.data.toList = none by unfold typeIn;rw [hsc])
    clear hsc
    go_enter Tryz.func49,Tryz.ntmps49
    go_wp2_with (go_at_call 71;refine (HOF.out _).mono ?_;rintro e w2 ⟨ho,hb2⟩;obtain ⟨a,n,c,rfl⟩:=HO.out _ _ _ ho;have HB2:=hid hb2;obtain ⟨hc3,hc4⟩:=bcell hb2;have hz : w.heap.size < w2.heap.size:=(by have:=hb2.size;simp at this;omega);clear ho)
    exact bodyPost_ret (v:=.tuple #[.slice none 0 0, .agg #[.int .u8 0,tx [], .slice none 0 0], .bool false]) (by simp [results,Tryz.results49,go_sem, *]) rfl ⟨by unfold LfOut;rw [HF.out];exact ⟨_,_,_,rfl⟩,by have B:=below_join ((Below.refl _ _).alloc (Nat.le_refl _) _) HB2.out;repeat (first | with_reducible exact B | with_reducible refine Below.drew ?_ | with_reducible refine Below.setCell ?_ (by simp) _ | with_reducible refine Below.alloc ?_ (by first | exact B.size | (simp;omega)) _)⟩
  | some x =>
    have hx8:=(Wf.schemaOf_ok hsc).len
    have HO:=hid fun e lo wz (h : OfOut s.data.toList lo e wz) => (by unfold OfOut at h;rw [hsc] at h;obtain ⟨b,v,he,hsp⟩:=h;obtain ⟨a,c,rfl,_⟩:=hsp.slice;exact ⟨b,a,c,he,hsp⟩ : ∃ b a c,e = .returned (.tuple #[.slice a x.length c, .bool true]) ∧ ScSp wz lo b (.slice a x.length c) x)
    obtain ⟨n,hn⟩ : ∃ n,x.length = n:=⟨_,rfl⟩
    rw [hn] at HO
    have HN:=hid hn
    cases hf : x.find nm.data.toList with
    | none =>
      have HF:=hid (show typeIn s.data.toList nm.data.toList = none by unfold typeIn;rw [hsc];simp [hf])
      have HFI:=hid fun wz lo b v (h : ScSp wz lo b v x) => (by
        refine (l3find x lo b v nm wz wz (Below.refl _ _) (by omega) h).mono fun e w' ⟨h1,h2⟩ => ⟨?_,h2⟩
        unfold FindOut at h1;rw [hf] at h1;exact h1 : Calls Tryz.prog 75 #[v, .string nm] wz fun e w' => e = .returned (.tuple #[.agg #[.int .u8 0,tx [], .slice none 0 0], .bool false]) ∧ Below wz.heap.size wz w')
      clear hsc hf hn
      go_enter Tryz.func49,Tryz.ntmps49
      go_wp2_with (first | (go_at_call 75;refine (HFI.out _ _ _ _ HS.out).mono ?_;rintro e w3 ⟨rfl,hb3⟩;have B3:=hid (B2.out.trans (hb3.mono B2.out.size));obtain ⟨hc5,hc6⟩:=bcell hb3;have hz3 : w.heap.size < w3.heap.size:=Nat.lt_of_lt_of_le hz hb3.size;clear hb3) | (go_at_call 71;refine (HOF.out _).mono ?_;rintro e w2 ⟨ho,hb2⟩;obtain ⟨b,a,c,rfl,hs2⟩:=HO.out _ _ _ ho;have HS:=hid hs2;have B2:=hid (below_join ((Below.refl _ _).alloc (Nat.le_refl _) _) hb2);obtain ⟨hc3,hc4⟩:=bcell hb2;have hz : w.heap.size < w2.heap.size:=(by have:=hb2.size;simp at this;omega);clear ho hs2))
      go_region
      all_goals go_wp2
      all_goals exact bodyPost_ret (v:=.tuple #[.slice a n c, .agg #[.int .u8 0,tx [], .slice none 0 0], .bool false]) (by simp [results,Tryz.results49,go_sem, *]) rfl ⟨by unfold LfOut;rw [HF.out];exact ⟨_,_,_,rfl⟩,by have B:=B3.out;repeat (first | with_reducible exact B | with_reducible refine Below.drew ?_ | with_reducible refine Below.setCell ?_ (by simp) _ | with_reducible refine Below.alloc ?_ (by first | exact B.size | (simp;omega)) _)⟩
    | some t =>
      have HF:=hid (show typeIn s.data.toList nm.data.toList = some (x,t) by unfold typeIn;rw [hsc];simp [hf])
      have HFI:=hid fun wz lo b v (h : ScSp wz lo b v x) => (by
        refine (l3find x lo b v nm wz wz (Below.refl _ _) (by omega) h).mono fun e w' ⟨h1,h2⟩ => ⟨?_,h2⟩
        unfold FindOut at h1;rw [hf] at h1;exact h1 : Calls Tryz.prog 75 #[v, .string nm] wz fun e w' => (∃ fb a c,e = .returned (.tuple #[.agg #[.int .u8 t.sort.toNat,tx t.name, .slice a t.fields.length c], .bool true]) ∧ lo ≤ fb ∧ RowK wz fb (.slice a t.fields.length c) 4 (t.fields.map (fdS t.sort))) ∧ Below wz.heap.size wz w')
      clear hsc hf hn
      go_enter Tryz.func49,Tryz.ntmps49
      go_wp2_with (first | (go_at_call 75;refine (HFI.out _ _ _ _ HS.out).mono ?_;rintro e w3 ⟨⟨fb,fa,fc,rfl,hlo,hrow⟩,hb3⟩;have HROW:=hid hrow;have HLO:=hid hlo;have HB3:=hid hb3;have B3:=hid (B2.out.trans (hb3.mono B2.out.size));obtain ⟨hc5,hc6⟩:=bcell hb3;have hz3 : w.heap.size < w3.heap.size:=Nat.lt_of_lt_of_le hz hb3.size;clear hb3 hlo hrow) | (go_at_call 71;refine (HOF.out _).mono ?_;rintro e w2 ⟨ho,hb2⟩;obtain ⟨b,a,c,rfl,hs2⟩:=HO.out _ _ _ ho;have HS:=hid hs2;have B2:=hid (below_join ((Below.refl _ _).alloc (Nat.le_refl _) _) hb2);obtain ⟨hc3,hc4⟩:=bcell hb2;have hz : w.heap.size < w2.heap.size:=(by have:=hb2.size;simp at this;omega);clear ho hs2))
      go_region
      all_goals go_wp2
      all_goals exact bodyPost_ret (v:=.tuple #[.slice a n c, .agg #[.int .u8 t.sort.toNat,tx t.name, .slice fa t.fields.length fc], .bool true]) (by simp [results,Tryz.results49,go_sem, *]) rfl ⟨by
        unfold LfOut;rw [HF.out]
        have A : ∀ w',Above (w.heap.size + 1) w2 w' → ScSp w' w.heap.size b (.slice a n c) x ∧ w.heap.size ≤ fb ∧ RowK w' fb (.slice fa t.fields.length fc) 4 (t.fields.map (fdS t.sort)):=fun w' ha => by
          have hl : w.heap.size + 1 ≤ fb:=by have:=HLO.out;simpa using this
          have h2 : ScSp w2 (w.heap.size + 1) b (.slice a n c) x:=HS.out.mono (by simp)
          exact ⟨(h2.above ha).mono (Nat.le_succ _),by omega,HROW.out.above ha hl⟩
        refine ⟨b,a,c,fb,fa,fc,by rw [HN.out], ?_⟩
        dsimp only
        rw [HN.out]
        refine A _ ?_
        have AB:=Above.of_below (lo:=w.heap.size + 1) HB3.out
        repeat (first | with_reducible exact AB | with_reducible refine Above.drew ?_ | with_reducible refine Above.set ?_ (by omega) _ _ | with_reducible refine Above.alloc ?_ _),by have B:=B3.out;repeat (first | with_reducible exact B | with_reducible refine Below.drew ?_ | with_reducible refine Below.setCell ?_ (by simp) _ | with_reducible refine Below.alloc ?_ (by first | exact B.size | (simp;omega)) _)⟩
def fieldI (t : Wf.Ty) (g : Int) : Option Wf.Fd:=t.fields.find? fun f => (f.tag : Int) == g
theorem fieldI_nat (t : Wf.Ty) (g : Nat) : fieldI t g = t.field g:=by
  unfold fieldI Wf.Ty.field
  congr 1
  funext f
  rw [Bool.eq_iff_iff,beq_iff_eq,beq_iff_eq]
  omega
theorem fieldI_at {t : Wf.Ty} {g : Int} {k : Nat} (hk : k < t.fields.length) (h0 : ∀ j (hj : j < t.fields.length),j < k → ((t.fields[j]).tag : Int) ≠ g) (h1 : ((t.fields[k]).tag : Int) = g) : fieldI t g = some t.fields[k]:=by
  unfold fieldI
  rw [List.find?_eq_some_iff_getElem]
  refine ⟨by simp [h1],k,hk,rfl,fun j hj => ?_⟩
  simpa using h0 j (by omega) hj
theorem fieldI_not {t : Wf.Ty} {g : Int} (h0 : ∀ j (hj : j < t.fields.length),((t.fields[j]).tag : Int) ≠ g) : fieldI t g = none:=by
  unfold fieldI
  rw [List.find?_eq_none]
  intro f hf
  obtain ⟨j,hj,rfl⟩:=List.mem_iff_getElem.1 hf
  simpa using h0 j hj
def fldV (sort : UInt8) : Option Wf.Fd → Value
  | some f => .tuple #[.agg #[.int .i64 f.tag,tx f.name,tx (if sort = 69 then [] else f.kind.text),tx f.given], .bool true]
  | none => .tuple #[.agg #[.int .i64 0,tx [],tx [],tx []], .bool false]
set_option maxRecDepth 20000 in
set_option maxHeartbeats 1000000 in
theorem l3field (t : Wf.Ty) (ht : t.fields.length ≤ 1000) (g : Int) (q : Int) (N : ByteArray) (fb : Nat) (fa : Option Addr) (fc : Nat) (W w : World) (hW : Below W.heap.size W w) (H : RowK W fb (.slice fa t.fields.length fc) 4 (t.fields.map (fdS t.sort))) :
    Calls Tryz.prog 50 #[.agg #[.int .u8 q, .string N, .slice fa t.fields.length fc], .int .i64 g] w fun e w' => e = .returned (fldV t.sort (fieldI t g)) ∧ Below w.heap.size w w':=by
  have HX:=hid H
  obtain ⟨n,hn⟩ : ∃ n,t.fields.length = n:=⟨_,rfl⟩
  have HN:=hid hn
  rw [hn] at HX ht ⊢
  have HW:=hid hW
  clear H hn hW
  go_enter Tryz.func50,Tryz.ntmps50
  go_wp2
  go_loop [6] (fun i => ∃ k : Nat,k ≤ n ∧ i = .int .i64 k ∧ Hid (∀ j (hj : j < t.fields.length),j < k → ((t.fields[j]).tag : Int) ≠ g)) (fun i => n - (RowKit.intOf i).toNat)
  case atStart => exact ⟨0,Nat.zero_le _,rfl,hid fun j hj h => by omega⟩
  case round =>
    obtain ⟨k,hk,rfl,hno⟩:=hrel
    by_cases hlt : k < n
    · have hkx : k < t.fields.length:=by rw [HN.out];exact hlt
      obtain ⟨o,rfl,hbW,h1,h2,hcell⟩:=RowK.get HX.out (i:=k) (by rw [List.length_map];exact hkx)
      have hbw : fb < w.heap.size:=Nat.lt_of_lt_of_le hbW HW.out.size
      obtain ⟨F,hF⟩ : ∃ F,t.fields[k] = F:=⟨_,rfl⟩
      have e0 : (t.fields.map (fdS t.sort))[k]'(by rw [List.length_map];exact hkx) = fdS t.sort F:=by rw [List.getElem_map,hF]
      have g0:=(HW.out.cell (p:=⟨fb,o + k * 4 + 0,none⟩) hbW).trans (hcell 0 (.int .i64 F.tag) (by decide) (by rw [e0];rfl))
      have g1:=(HW.out.cell (p:=⟨fb,o + k * 4 + 1,none⟩) hbW).trans (hcell 1 (tx F.name) (by decide) (by rw [e0];rfl))
      have g2:=(HW.out.cell (p:=⟨fb,o + k * 4 + 2,none⟩) hbW).trans (hcell 2 (tx (if t.sort = 69 then [] else F.kind.text)) (by decide) (by rw [e0];rfl))
      have g3:=(HW.out.cell (p:=⟨fb,o + k * 4 + 3,none⟩) hbW).trans (hcell 3 (tx F.given) (by decide) (by rw [e0];rfl))
      rw [Nat.add_zero] at g0
      have HFF:=hid hF
      clear hcell e0
      by_cases hg : (F.tag : Int) = g
      · have HR:=hid (show fieldI t g = some F by rw [← hF];exact fieldI_at hkx hno.out (by rw [hF];exact hg))
        have tg : ((F.tag : Int) == g) = true:=beq_iff_eq.2 hg
        obtain ⟨K,hK⟩ : ∃ K,(if t.sort = 69 then [] else F.kind.text) = K:=⟨_,rfl⟩
        rw [hK] at g2
        have HK:=hid hK
        clear hF hg hK
        go_wp2
        exact bodyPost_ret (v:=.tuple #[.agg #[.int .i64 F.tag,tx F.name,tx K,tx F.given], .bool true]) (by simp [results,Tryz.results50,go_sem, *]) rfl ⟨by rw [HR.out,fldV,HK.out],by repeat (first | with_reducible exact Below.refl _ _ | with_reducible refine Below.drew ?_ | with_reducible refine Below.setCell ?_ (by simp) _ | with_reducible refine Below.alloc ?_ (by first | exact Nat.le_refl _ | simp) _)⟩
      · have tg : ((F.tag : Int) == g) = false:=beq_eq_false_iff_ne.2 hg
        have HG:=hid hg
        clear hF hg
        go_wp2
        go_round
        case rel => exact ⟨k + 1,by omega,by go_num,hid fun j hj hjk => by
          by_cases hj2 : j = k
          · subst hj2;rw [HFF.out];exact HG.out
          · exact hno.out j hj (by omega)⟩
        case measure => simp [RowKit.intOf];omega
    · have hkn : k = n:=by omega
      subst hkn
      have HR:=hid (show fieldI t g = none from fieldI_not fun j hj => hno.out j hj (by rw [← HN.out];exact hj))
      go_wp2
      exact bodyPost_ret (v:=.tuple #[.agg #[.int .i64 0,tx [],tx [],tx []], .bool false]) (by simp [results,Tryz.results50,go_sem, *]) rfl ⟨by rw [HR.out,fldV],by repeat (first | with_reducible exact Below.refl _ _ | with_reducible refine Below.drew ?_ | with_reducible refine Below.setCell ?_ (by simp) _ | with_reducible refine Below.alloc ?_ (by first | exact Nat.le_refl _ | simp) _)⟩
end Go.Proofs.YtmdacedmjbiekaaGreatDoor
