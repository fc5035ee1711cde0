/- Packed by pack.py: Lw. -/
import Derived.Test.YtidjpalnmnehmaaF12
import Derived.Test.YtidjpalnmnehmaaF13
import Derived.Deep.RegionHeld3
import Derived.Deep.DeepCutAuto
namespace Go.Proofs.Ytidjpalnmnehmaa
open Go.ChangeShapes Go.WideShapes Go.ChangeAt Go.RowKit Go.Lib
set_option linter.unusedVariables false
set_option maxRecDepth 20000 in
set_option maxHeartbeats 8000000 in
theorem rt_fields (s : ByteArray) (w : World) (hs : s.size ≤ 1000000) (p : Nat) (he : EqAt s p) (h1 : 1 ≤ p) (h2 : p < s.size) (q : UInt8) (Q : Nat) (hQ : q.toNat = Q) (hq : ((Q : Int) != 82) = false ∨ ((Q : Int) != 82) = true ∧ ((Q : Int) != 85) = false ∨ ((Q : Int) != 82) = true ∧ ((Q : Int) != 85) = true ∧ ((Q : Int) != 69) = false) (e0 : ∀ h,(s[0]'h).toNat = Q) (hn : ∀ w,Calls Try.prog 51 #[.string (s.extract 1 p)] w fun e w' => e = .returned (.bool true) ∧ w = w') (hr : (s.extract (p + 1) s.size).toList.isEmpty = false) (ps : List (List UInt8)) (hps : Wf.cutAt 44 (s.extract (p + 1) s.size).data.toList = ps) (hcut : ∀ w,Calls Try.prog 48 #[.string (s.extract (p + 1) s.size), .int .u8 44] w fun e w' => CutOut w ps e w') (hmem : ∀ x,x ∈ ps → x.length ≤ 1000000) (hpl : ps.length ≤ 1000001) (hrf : ∀ x,x ∈ ps → ∀ w,Calls Try.prog 58 #[tx x, .int .u8 Q] w fun e w' => RfOut q x e ∧ Below w.heap.size w w') :
    Calls Try.prog 49 #[.string s] w fun e w' => TyOut q (s.extract 1 p) ps w e w' ∧ Below w.heap.size w w':=by
  have hple:=he.le
  have HE:=hid he
  clear he
  have HRF:=hid hrf
  clear hrf
  have HN:=hid hn
  have HC:=hid hcut
  have HMEM:=hid hmem
  have HPS:=hid hps
  clear hn hcut hmem hps
  obtain ⟨n,hn⟩ : ∃ n,ps.length = n:=⟨_,rfl⟩
  have HPL:=hid hn
  rw [hn] at hpl
  clear hn
  have HQ:=hid hQ
  clear hQ
  rcases hq with f1 | ⟨f1,f2⟩ | ⟨f1,f2,f3⟩
  all_goals
    go_enter Try.func49,Try.ntmps49
    go_wp2
    go_loop [4] (fun i => ∃ k : Nat,k ≤ p ∧ i = .int .i64 k) (fun i => s.size - (RowKit.intOf i).toNat)
    case atStart => exact ⟨0,Nat.zero_le _,rfl⟩
    case round =>
      obtain ⟨k,hk,rfl⟩:=hrel
      by_cases hlt : k < p
      · have hks : k < s.size:=by omega
        have e1:=HE.out.no k hlt hks
        go_wp2
        go_round
        case rel => exact ⟨k + 1,by omega,by go_num⟩
        case measure => simp [RowKit.intOf];omega
      · have hkp : p = k:=by omega
        subst hkp
        have e1:=HE.out.yes h2
        go_wp2_with fail
        go_region
        go_wp2_with (first | (go_at_call 48;refine (HC.out _).mono ?_;rintro e w2 ⟨lb,lv,rfl,hlb,hrow,hB2⟩;obtain ⟨la,lc,rfl⟩:=hrow.len (n:=n) (by rw [List.length_map];exact HPL.out);have HROW:=hid hrow;have HB2:=hid hB2;clear hrow hB2) | (go_at_call 51;refine (HN.out _).mono ?_;rintro e w1 ⟨rfl,rfl⟩))
        have hw2 : w.heap.size + 1 + 1 ≤ w2.heap.size:=by have:=HB2.out.size;simp at this;omega
        have HT0 : Hid (TSt w w2 (w.heap.size + 1) lb w2.heap.size Q (s.extract 1 p) (.slice la n lc) none 0 ps []):=by
          have hps0 : 0 < (ps.map tx).length:=by rw [List.length_map,← HPS.out];exact List.length_pos_iff.2 (Wf.cutAt_ne _ _)
          obtain ⟨_,_,_,g3,_⟩:=RowAt.some HROW.out hps0
          have g4 : w.heap.size + 1 < lb:=by simp at hlb;omega
          refine hid ⟨?_,by omega,by omega,g3,g4,Nat.le_refl _, ?_, ?_, ?_, ?_,HROW.out,World.ownsRow_nil _ _ _ _,by simp⟩
          · first
              | exact (((Below.refl _ _).alloc (by simp) _).drew).trans (HB2.out.mono (by simp))
              | exact ((Below.refl _ _).alloc (by simp) _).trans (HB2.out.mono (by simp))
          · exact (HB2.out.cell (p:=⟨w.heap.size + 1,0,none⟩) (by simp)).trans (by simp)
          · exact (HB2.out.cell (p:=⟨w.heap.size + 1,1,none⟩) (by simp)).trans (by simp)
          · exact (HB2.out.cell (p:=⟨w.heap.size + 1,2,none⟩) (by simp)).trans (by simp)
          · exact (HB2.out.frozen (p:=⟨w.heap.size + 1,2,none⟩) (by simp)).trans (by simp)
        go_loopw [7] (fun v7 wr => ∃ (i : Nat) (acc : List Wf.Fd) (a : Option Addr) (c : Nat),v7 = .int .i64 i ∧ i ≤ n ∧ Hid (Sofar q ps i acc ∧ TSt w wr (w.heap.size + 1) lb w2.heap.size Q (s.extract 1 p) (.slice la n lc) a c ps (acc.map (fdS q)))) (fun v7 _ => n - (RowKit.intOf v7).toNat)
        case atStart => exact ⟨0,[],none,0,rfl,Nat.zero_le _,hid ⟨Sofar.start _ _,HT0.out⟩⟩
        case round =>
          obtain ⟨i,acc,a,c,rfl,hi,hh⟩:=hrel
          by_cases hlt : i < n
          · have hip : i < ps.length:=by rw [HPL.out];exact hlt
            obtain ⟨x,hx⟩ : ∃ x,ps[i] = x:=⟨_,rfl⟩
            obtain ⟨lo,hla,hcx0,hbw,hnc,hcm⟩:=RowAt.some hh.out.2.row (i:=i) (by rw [List.length_map];exact hip)
            have hcx : wr.cell? ⟨lb,lo + i,none⟩ = some (tx x):=by rw [hcx0,List.getElem_map,hx]
            clear hcx0
            subst hla
            obtain ⟨X,hX⟩ : ∃ X : ByteArray,(⟨x.toArray⟩ : ByteArray) = X:=⟨_,rfl⟩
            have HRX:=hid fun w => HRF.out x (by rw [← hx];exact List.getElem_mem _) w
            rw [tx,hX] at HRX hcx
            have HX:=hid hx
            have h0:=hh.out.2.c0
            have h1c:=hh.out.2.c1
            have h2c:=hh.out.2.c2
            have h2f:=hh.out.2.f2
            obtain ⟨r0,r1,r2,r3,r4,r5⟩:=hh.out.2.res
            have htw : w.heap.size + 1 < wr.heap.size:=Nat.lt_of_lt_of_le hh.out.2.htB hh.out.2.hB0
            have n1 : ¬ lb = wr.heap.size:=by omega
            have n2 : ¬ wr.heap.size = lb:=by omega
            have n3 : ¬ w.heap.size + 1 = wr.heap.size:=by omega
            have n4 : ¬ wr.heap.size = w.heap.size + 1:=by omega
            clear hx hX
            go_upto_region 15 with fail
            go_cut [8,9] (fun s8 s9 wx => ∃ (g : Nat) (ok : Bool) (ft : Int) (fa fb fc : ByteArray),s8 = .pointer (some ⟨g,0,none⟩) ∧ s9 = .bool ok ∧ w2.heap.size ≤ g ∧ g < wx.heap.size ∧ Hid (((ok = true → 0 ≤ ft) ∧ FdSays q x ok ft.toNat fa fb fc) ∧ TSt w wx (w.heap.size + 1) lb w2.heap.size Q (s.extract 1 p) (.slice (some ⟨lb,lo,none⟩) n lc) a c ps (acc.map (fdS q)) ∧ wx.cell? ⟨g,0,none⟩ = some (.int .i64 ft) ∧ wx.cell? ⟨g,1,none⟩ = some (.string fa) ∧ wx.cell? ⟨g,2,none⟩ = some (.string fb) ∧ wx.cell? ⟨g,3,none⟩ = some (.string fc)))
            case first =>
              go_region_held3 (fun w' => w'.cell? ⟨lb,lo + i,none⟩ = some (.string X) ∧ w'.cell? ⟨w.heap.size + 1,0,none⟩ = some (.int .u8 Q)) (first | exact ⟨s1,s2⟩ | go_keep) (first | (go_at_call 58;refine (HRX.out _).mono ?_;rintro e w3 ⟨ho,hB3⟩;obtain ⟨ok,ft,fa,fb,fc,rfl,HSAY⟩:=RfOut.shape ho;clear ho;obtain ⟨hc3,hc4⟩:=bcell hB3;have hz3 : wr.heap.size < w3.heap.size + 1:=(by have:=hB3.size;simp at this;omega);have B3 : Below wr.heap.size wr w3:=(by first | exact below_join ((Below.refl _ _).drew) hB3 | exact below_join (((Below.refl _ _).alloc (Nat.le_refl _) _).drew) hB3);have s1 : w3.cell? ⟨lb,lo + i,none⟩ = some (.string X):=(by refine (hB3.cell (p:=⟨lb,lo + i,none⟩) (by first | exact hbw | (simp;omega))).trans (by first | exact hcx | exact (World.cell?_alloc_lt wr _ _ hbw).trans hcx));have s2 : w3.cell? ⟨w.heap.size + 1,0,none⟩ = some (.int .u8 Q):=(by refine (hB3.cell (p:=⟨w.heap.size + 1,0,none⟩) (by first | exact htw | (simp;omega))).trans (by first | exact h0 | exact (World.cell?_alloc_lt wr _ _ htw).trans h0))))
              all_goals (go_wp2_with fail;go_meet)
              · exact ⟨_,ok,ft,fa,fb,fc,rfl,rfl,Nat.le_trans hh.out.2.hB0 B3.size,by simp,hid ⟨HSAY.out,hh.out.2.step (by repeat (first | with_reducible exact B3 | with_reducible refine Below.drew ?_ | with_reducible refine Below.setCell ?_ (by simp) _ | with_reducible refine Below.alloc ?_ B3.size _)),by simp,by simp,by simp,by simp⟩⟩
              · exact ⟨_,ok,ft,fa,fb,fc,rfl,rfl,hh.out.2.hB0,by have:=hB3.size;simp at this ⊢;omega,hid ⟨HSAY.out,hh.out.2.step (by repeat (first | with_reducible exact B3 | with_reducible refine Below.drew ?_ | with_reducible refine Below.setCell ?_ (by simp) _ | with_reducible refine Below.alloc ?_ B3.size _)),by simp [go_sem,hc3],by simp [go_sem,hc3],by simp [go_sem,hc3],by simp [go_sem,hc3]⟩⟩
            case rest =>
              obtain ⟨g,ok,ft,fa,fb,fc,rfl,rfl,hg,hgs,hx2⟩:=hcut
              cases ok with
              | false =>
                have hres:=hx2.out.2.1.res
                have k0:=hx2.out.2.1.c0
                have k1:=hx2.out.2.1.c1
                have k2:=hx2.out.2.1.c2
                obtain ⟨r0,r1,r2,r3,r4,r5⟩:=hres
                have HNO:=hid (show Wf.addFds q [] ps = none by
                  rw [hh.out.1.next hip]
                  rcases hx2.out.1.2 with ⟨h,_⟩ | ⟨_,h⟩
                  · cases h
                  · have hfx : Wf.fdB q ps[i] = none:=by rw [HX.out];exact h
                    rw [hfx])
                have BB:=hx2.out.2.1.all
                go_wp2
                exact bodyPost_ret (v:=.tuple #[.agg #[.int .u8 Q, .string (s.extract 1 p), .slice a (acc.map (fdS q)).length c], .bool false]) (by simp [results,Try.results49,go_sem, *]) rfl ⟨by unfold TyOut;rw [HNO.out,HQ.out];exact ⟨_,_,_,rfl⟩,(by repeat (first | with_reducible exact BB | with_reducible refine Below.drew ?_ | with_reducible refine Below.setCell ?_ (by first | (simp;done) | (simp;omega) | omega) _ | with_reducible refine Below.alloc ?_ (by first | exact BB.size | (simp;done) | (simp;omega) | omega) _))⟩
              | true =>
                obtain ⟨f,ftn,hfx,hfc,rfl,hfn,htg⟩ : ∃ (f : Wf.Fd) (ftn : Nat),Wf.fdB q ps[i] = some f ∧ fdS q f = [.int .i64 ftn, .string fa, .string fb, .string fc] ∧ ft = ftn ∧ fa.data.toList = f.name ∧ f.tag = ftn:=by
                  obtain ⟨hft,h | ⟨h,_⟩⟩:=hx2.out.1
                  · obtain ⟨_,f,h1,h2,h3,h4⟩:=h
                    have h0:=hft rfl
                    exact ⟨f,ft.toNat,by rw [HX.out];exact h1,h2,by omega,h4,h3⟩
                  · cases h
                have HFX:=hid hfx
                have HFC:=hid hfc
                have HFN:=hid hfn
                have HTG:=hid htg
                have f0:=hx2.out.2.2.1
                have f1:=hx2.out.2.2.2.1
                have f2':=hx2.out.2.2.2.2.1
                have f3:=hx2.out.2.2.2.2.2
                have k0:=hx2.out.2.1.c0
                have k1:=hx2.out.2.1.c1
                have k2:=hx2.out.2.1.c2
                have kf:=hx2.out.2.1.f2
                have HTS:=hid hx2.out.2.1
                obtain ⟨m,hm⟩ : ∃ m,acc.length = m:=⟨_,rfl⟩
                have hml : (acc.map (fdS q)).length = m:=by rw [List.length_map,hm]
                have HM:=hid hm
                have HML:=hid hml
                rw [hml] at k2
                have hmi : m ≤ i:=by rw [← hm];exact hh.out.1.len
                clear hfx hfc hfn htg hx2 hm hml
                go_wp2
                go_loopw [10] (fun v10 wy => ∃ (k d : Nat),v10 = .int .i64 k ∧ k ≤ m ∧ wy = wc.drewN d ∧ Hid (∀ j (hj : j < acc.length),j < k → badF f acc[j] = false)) (fun v10 _ => m - (RowKit.intOf v10).toNat)
                case atStart => exact ⟨0,0,rfl,Nat.zero_le _,rfl,hid fun j _ h => by omega⟩
                case round =>
                  obtain ⟨k,d,rfl,hk,rfl,hgood⟩:=hrel
                  by_cases hkm : k < m
                  · have hka : k < acc.length:=by rw [HM.out];exact hkm
                    obtain ⟨gb,hga,hgb,hgw,hmc,hcm,hcell⟩:=owns_cell HTS.out.own HTS.out.he (k:=k) (by rw [HML.out];exact hkm)
                    subst hga
                    obtain ⟨G,hG⟩ : ∃ G,acc[k] = G:=⟨_,rfl⟩
                    have e0 : (acc.map (fdS q))[k]'(by rw [HML.out];exact hkm) = fdS q G:=by rw [List.getElem_map,hG]
                    have g0 : wc.cell? ⟨gb,k * 4,none⟩ = some (.int .i64 G.tag):=hcell 0 (.int .i64 G.tag) (by decide) (by rw [e0];rfl)
                    have g1 : wc.cell? ⟨gb,k * 4 + 1,none⟩ = some (tx G.name):=hcell 1 (tx G.name) (by decide) (by rw [e0];rfl)
                    obtain ⟨gt,hgt⟩ : ∃ gt,G.tag = gt:=⟨_,rfl⟩
                    obtain ⟨GN,hGN⟩ : ∃ GN : ByteArray,(⟨G.name.toArray⟩ : ByteArray) = GN:=⟨_,rfl⟩
                    rw [hgt] at g0
                    rw [tx,hGN] at g1
                    rw [HML.out] at hmc
                    have HG:=hid hG
                    have HGT:=hid hgt
                    have HGN:=hid (show (GN.toList == fa.toList) = (G.name == f.name) by rw [← hGN,ByteArray.toList_eq,ByteArray.toList_eq,HFN.out])
                    clear hcell e0 hG hgt hGN
                    obtain ⟨r0,r1,r2,r3,r4,r5⟩:=HTS.out.res
                    by_cases htag : gt < ftn
                    · have d1 : decide (ftn ≤ gt) = false:=decide_eq_false (by omega)
                      have d2 : decide ((ftn : Int) ≤ (gt : Int)) = false:=decide_eq_false (by omega)
                      cases hnm : (GN.toList == fa.toList) with
                      | true =>
                        have HNO:=hid (show Wf.addFds q [] ps = none by
                          rw [hh.out.1.next hip,HFX.out]
                          dsimp only
                          rw [if_pos (bad_any hka (by rw [HG.out,badF,← HGN.out,hnm,Bool.or_true]))])
                        go_wp2
                        go_quiet (fail)
                        have BB:=fun e => (HTS.out.all).trans (c:=wc.drewN e) ⟨rfl,rfl,rfl,Nat.le_refl _,fun _ _ => rfl⟩
                        go_wp2
                        all_goals exact bodyPost_ret (v:=.tuple #[.agg #[.int .u8 Q, .string (s.extract 1 p), .slice (some ⟨gb,0,none⟩) m c], .bool false]) (by simp [results,Try.results49,go_sem, *]) rfl ⟨by unfold TyOut;rw [HNO.out,HQ.out];exact ⟨_,_,_,rfl⟩,(by repeat (first | with_reducible exact BB _ | with_reducible refine Below.drew ?_ | with_reducible refine Below.setCell ?_ (by first | (simp;done) | (simp;omega) | omega) _ | with_reducible refine Below.alloc ?_ (by first | (simp;done) | (simp;omega) | omega) _))⟩
                      | false =>
                        go_wp2
                        go_quiet (fail)
                        go_wp2
                        go_roundw
                        case rel => exact ⟨k + 1,_,by go_num,by omega,rfl,hid fun j hj hjk => by
                          by_cases hjk2 : j = k
                          · subst hjk2;rw [HG.out,badF,← HGN.out,hnm,Bool.or_false,decide_eq_false (by rw [HTG.out,HGT.out];omega)]
                          · exact hgood.out j hj (by omega)⟩
                        case measure => simp [RowKit.intOf];omega
                    · have HNO:=hid (show Wf.addFds q [] ps = none by
                        rw [hh.out.1.next hip,HFX.out]
                        dsimp only
                        rw [if_pos (bad_any hka (by rw [HG.out,badF,decide_eq_true (by rw [HTG.out,HGT.out];omega),Bool.true_or]))])
                      have d1 : decide (ftn ≤ gt) = true:=decide_eq_true (by omega)
                      have d2 : decide ((ftn : Int) ≤ (gt : Int)) = true:=decide_eq_true (by omega)
                      go_wp2
                      go_quiet (fail)
                      have BB:=fun e => (HTS.out.all).trans (c:=wc.drewN e) ⟨rfl,rfl,rfl,Nat.le_refl _,fun _ _ => rfl⟩
                      go_wp2
                      all_goals exact bodyPost_ret (v:=.tuple #[.agg #[.int .u8 Q, .string (s.extract 1 p), .slice (some ⟨gb,0,none⟩) m c], .bool false]) (by simp [results,Try.results49,go_sem, *]) rfl ⟨by unfold TyOut;rw [HNO.out,HQ.out];exact ⟨_,_,_,rfl⟩,(by repeat (first | with_reducible exact BB _ | with_reducible refine Below.drew ?_ | with_reducible refine Below.setCell ?_ (by first | (simp;done) | (simp;omega) | omega) _ | with_reducible refine Below.alloc ?_ (by first | (simp;done) | (simp;omega) | omega) _))⟩
                  · have hkm2 : k = m:=by omega
                    subst hkm2
                    have HPUT:=hid (hh.out.1.put hip HFX.out (good_any fun j hj => hgood.out j hj (by rw [← HM.out];exact hj)))
                    have HOWN:=hid (show wc.ownsRow w2.heap.size 85 4 (.slice a k c) k (acc.map (fdS q)).flatten by have h:=HTS.out.own;rw [HML.out] at h;exact h)
                    obtain ⟨i0,hi0,hz0,hz1,hz2⟩:=info_parts info_fd
                    have HI0:=hid hi0
                    have HZ0:=hid hz0
                    have HZ1:=hid hz1
                    have HZ2:=hid hz2
                    have hB0c:=HTS.out.hB0
                    clear hi0 hz0 hz1 hz2 hgood
                    go_wp2_with (at_builtin;refine wpList_append_one _ rfl (.tmp 120) (.tmp 122) 76 rfl w2.heap.size 85 i0 (.agg #[.int .i64 0,tx [],tx [],tx []]) 4 56 Try.underlying76 HI0.out HZ0.out HZ1.out HZ2.out rfl (by decide) (.slice a k c) k _ rfl (HOWN.out.alloc _) ⟨wc.heap.size,0,none⟩ [.int .i64 ftn, .string fa, .string fb, .string fc] rfl rfl ?hn ?h1 (by omega) (by omega) ?hb ?next)
                    case hn => exact new4 (wc.drewN d) _ _ _ _ _
                    case h1 => exact one4 _ _ _ _
                    case hb => simp;omega
                    case next =>
                      intro v1 w1 ho1 hb1
                      obtain ⟨a',c',rfl⟩:=owns_slice ho1
                      have HO1:=hid ho1
                      have HB1:=hid hb1
                      have hwt:=HTS.out.htB
                      have BD : Below wc.heap.size wc (wc.drewN d):=⟨rfl,rfl,rfl,Nat.le_refl _,fun _ _ => rfl⟩
                      have hwc : w.heap.size + 1 < wc.heap.size:=by omega
                      have kk2 : w1.cell? ⟨w.heap.size + 1,2,none⟩ = some (.slice a k c):=(hb1.cell (p:=⟨w.heap.size + 1,2,none⟩) (by omega)).trans ((World.cell?_alloc_lt (wc.drewN d) _ _ hwc).trans k2)
                      have kkf : w1.frozen? ⟨w.heap.size + 1,2,none⟩ = false:=by
                        refine (hb1.frozen (p:=⟨w.heap.size + 1,2,none⟩) (by omega)).trans ?_
                        exact ((Below.alloc (BD.mono hwc) hwc _).frozen (p:=⟨w.heap.size + 1,2,none⟩) (Nat.lt_succ_self _)).trans kf
                      clear ho1 hb1
                      go_wp2
                      go_roundw
                      case rel => exact ⟨i + 1,acc ++ [f],a',c',by go_num,by omega,hid ⟨HPUT.out,by
                        have hlen : (acc.map (fdS q)).length = k:=HML.out
                        rw [List.map_append,List.map_singleton,HFC.out]
                        have hp:=HTS.out.put (wx:=(wc.drewN d).alloc (.cells #[.int .i64 ftn, .string fa, .string fb, .string fc] 85)) (w':=w1) (a':=a') (c':=c') (e:=[.int .i64 ftn, .string fa, .string fb, .string fc]) (Below.alloc BD (Nat.le_refl _) _) HB1.out rfl (by rw [hlen];exact HO1.out)
                        rw [hlen] at hp
                        exact hp⟩⟩
                      case measure => simp [RowKit.intOf];omega
          · have hin : i = n:=by omega
            subst hin
            have HYES:=hid (show Wf.addFds q [] ps = some acc by rw [hh.out.1.rest,List.drop_of_length_le (by rw [HPL.out];exact Nat.le_refl _)];rfl)
            obtain ⟨m,hm⟩ : ∃ m,acc.length = m:=⟨_,rfl⟩
            have hml : (acc.map (fdS q)).length = m:=by rw [List.length_map,hm]
            have HM:=hid hm
            obtain ⟨fb,hfb,hrowk⟩:=RowK.of_owns hh.out.2.own hh.out.2.he
            rw [hml] at hrowk
            have HRK:=hid hrowk
            have h0:=hh.out.2.c0
            have h1c:=hh.out.2.c1
            have h2c:=hh.out.2.c2
            rw [hml] at h2c
            obtain ⟨r0,r1,r2,r3,r4,r5⟩:=hh.out.2.res
            have BB:=hh.out.2.all
            have htw : w.heap.size + 1 < wr.heap.size:=Nat.lt_of_lt_of_le hh.out.2.htB hh.out.2.hB0
            have hmi : m ≤ i:=by rw [← hm];exact hh.out.1.len
            clear hm hml hrowk
            go_wp2
            go_region
            all_goals go_wp2
            all_goals exact bodyPost_ret (v:=.tuple #[.agg #[.int .u8 Q, .string (s.extract 1 p), .slice a m c], .bool (decide ((m : Int) ≤ 8))]) (by simp [results,Try.results49,go_sem, *]) rfl ⟨by
              unfold TyOut
              rw [HYES.out,HQ.out]
              refine ⟨fb,a,c,by rw [HM.out,show decide ((m : Int) ≤ 8) = decide (m ≤ 8) from decide_eq_decide.2 (by omega)],by omega, ?_⟩
              rw [HM.out]
              refine RowK.beside (rb:=w.heap.size) HRK.out ?_ (by omega)
              repeat (first | with_reducible exact Beside.refl _ _ | with_reducible refine Beside.drew ?_ | with_reducible refine Beside.trans ?_ (Beside.set _ _ _ _)),(by repeat (first | with_reducible exact BB | with_reducible refine Below.drew ?_ | with_reducible refine Below.setCell ?_ (by first | (simp;done) | (simp;omega) | omega) _ | with_reducible refine Below.alloc ?_ (by first | (simp;done) | (simp;omega) | omega) _))⟩
end Go.Proofs.Ytidjpalnmnehmaa
