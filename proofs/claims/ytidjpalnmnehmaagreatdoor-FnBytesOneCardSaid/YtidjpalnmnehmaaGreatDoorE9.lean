/- Packed by pack.py: If. -/
import Derived.Test.YtidjpalnmnehmaaGreatDoorE8
import Derived.Test.YtidjpalnmnehmaaGreatDoorE6
namespace Go.Proofs.YtidjpalnmnehmaaGreatDoor
open Go.ChangeShapes Go.WideShapes Go.ChangeAt Go.RowKit Go.Lib
set_option linter.unusedVariables false
set_option linter.unusedSimpArgs false
theorem bel_drewN {B:Nat} {a w:World} (h:Below B a w) (n:Nat):Below B a (w.drewN n):=h.trans ⟨rfl,rfl,rfl,Nat.le_refl _,fun _ _=>rfl⟩
theorem cell_lt {w:World} {b o:Nat} {v:Value} (h:w.cell? ⟨b,o,none⟩=some v):b<w.heap.size:=by
 rcases Nat.lt_or_ge b w.heap.size with h1|h1
 ·exact h1
 ·simp[World.cell?,Array.getElem?_eq_none h1] at h
set_option maxRecDepth 20000 in
set_option maxHeartbeats 1000000 in
theorem rfi_nonum2 (s:ByteArray) (sort:Nat) (w:World) (m:Int) (hm:w.cell? ⟨0,0,none⟩=some (.int .i64 m)) (H V:ByteArray) (told:Bool) (A B:ByteArray)
  (hcut:∀ wz,wz.cell? ⟨0,0,none⟩=some (.int .i64 m)→Calls Tryz.prog 68 #[.string s, .string ⟨#[61]⟩] wz fun e w'=>e=.returned (.tuple #[.string H, .string V, .bool told])∧∃ k,w'=wz.drewN k)
  (hsp:∀ wz,wz.cell? ⟨0,0,none⟩=some (.int .i64 m)→Calls Tryz.prog 108 #[.string H, .string ⟨#[58]⟩] wz fun e w'=>e=.returned (.slice (some ⟨wz.heap.size,0,none⟩) 2 2)∧w'=wz.alloc (.cells #[.string A, .string B] 9))
  (h69:((sort:Int)==69)=true) (h69':((sort:Int) != 69)=false) (hnum:∀ wz,Calls Tryz.prog 76 #[.string A, .int .i64 200] wz fun e w'=>(∃ q:Int,e=.returned (.tuple #[.int .i64 q, .bool false]))∧wz=w') :
  Calls Tryz.prog 109 #[.string s, .int .u8 sort] w fun e w'=>e=.returned (.tuple #[.agg #[.int .i64 0,tx [],tx [],tx [],tx [],tx []], .bool false])∧Below w.heap.size w w':=by
 have h0:0<w.heap.size:=cell_lt hm
 have hm':=fun o=>(World.cell?_alloc_lt w o _ h0).trans hm
 have HM:=hid hm'
 have HC:=hid hcut
 have HS:=hid hsp
 have HNUM:=hid hnum
 clear hnum
 clear hcut hsp hm' hm
 go_enter Tryz.func109,Tryz.ntmps109
 go_wp2_with (first|(go_at_call 76;refine(HNUM.out _).mono ?_;rintro e w3 ⟨⟨q0,rfl⟩,rfl⟩)|(go_at_call 108;refine(HS.out _ (by exact HM.out _)).mono ?_;rintro e w2 ⟨rfl,rfl⟩)|(go_at_call 68;refine(HC.out _ (by exact HM.out _)).mono ?_;rintro e w1 ⟨rfl,dk,rfl⟩))
 all_goals exact bodyPost_ret (v:=.tuple #[.agg #[.int .i64 0,tx [],tx [],tx [],tx [],tx []], .bool false]) (by simp[results,Tryz.results109,go_sem]) rfl ⟨rfl,by repeat (first|with_reducible exact Below.refl _ _|with_reducible refine Below.drew ?_|with_reducible refine bel_drewN ?_ _|with_reducible refine Below.setCell ?_ (by first|(simp;done)|(simp;omega)|omega) _|with_reducible refine Below.alloc ?_ (by first|exact Nat.le_refl _|(simp;done)|(simp;omega)|omega) _)⟩
set_option maxRecDepth 20000 in
set_option maxHeartbeats 1000000 in
theorem rfi_low2 (s:ByteArray) (sort:Nat) (w:World) (m:Int) (hm:w.cell? ⟨0,0,none⟩=some (.int .i64 m)) (H V:ByteArray) (told:Bool) (A B:ByteArray)
  (hcut:∀ wz,wz.cell? ⟨0,0,none⟩=some (.int .i64 m)→Calls Tryz.prog 68 #[.string s, .string ⟨#[61]⟩] wz fun e w'=>e=.returned (.tuple #[.string H, .string V, .bool told])∧∃ k,w'=wz.drewN k)
  (hsp:∀ wz,wz.cell? ⟨0,0,none⟩=some (.int .i64 m)→Calls Tryz.prog 108 #[.string H, .string ⟨#[58]⟩] wz fun e w'=>e=.returned (.slice (some ⟨wz.heap.size,0,none⟩) 2 2)∧w'=wz.alloc (.cells #[.string A, .string B] 9))
  (h69:((sort:Int)==69)=true) (h69':((sort:Int) != 69)=false) (G:Nat) (hG:G<1) (hnum:∀ wz,Calls Tryz.prog 76 #[.string A, .int .i64 200] wz fun e w'=>e=.returned (.tuple #[.int .i64 G, .bool true])∧wz=w') :
  Calls Tryz.prog 109 #[.string s, .int .u8 sort] w fun e w'=>e=.returned (.tuple #[.agg #[.int .i64 0,tx [],tx [],tx [],tx [],tx []], .bool false])∧Below w.heap.size w w':=by
 have h0:0<w.heap.size:=cell_lt hm
 have hm':=fun o=>(World.cell?_alloc_lt w o _ h0).trans hm
 have HM:=hid hm'
 have HC:=hid hcut
 have HS:=hid hsp
 have HNUM:=hid hnum
 clear hnum
 clear hcut hsp hm' hm
 go_enter Tryz.func109,Tryz.ntmps109
 go_wp2_with (first|(go_at_call 76;refine(HNUM.out _).mono ?_;rintro e w3 ⟨rfl,rfl⟩)|(go_at_call 108;refine(HS.out _ (by exact HM.out _)).mono ?_;rintro e w2 ⟨rfl,rfl⟩)|(go_at_call 68;refine(HC.out _ (by exact HM.out _)).mono ?_;rintro e w1 ⟨rfl,dk,rfl⟩))
 all_goals exact bodyPost_ret (v:=.tuple #[.agg #[.int .i64 0,tx [],tx [],tx [],tx [],tx []], .bool false]) (by simp[results,Tryz.results109,go_sem]) rfl ⟨rfl,by repeat (first|with_reducible exact Below.refl _ _|with_reducible refine Below.drew ?_|with_reducible refine bel_drewN ?_ _|with_reducible refine Below.setCell ?_ (by first|(simp;done)|(simp;omega)|omega) _|with_reducible refine Below.alloc ?_ (by first|exact Nat.le_refl _|(simp;done)|(simp;omega)|omega) _)⟩
set_option maxRecDepth 20000 in
set_option maxHeartbeats 1000000 in
theorem rfi_noname2 (s:ByteArray) (sort:Nat) (w:World) (m:Int) (hm:w.cell? ⟨0,0,none⟩=some (.int .i64 m)) (H V:ByteArray) (told:Bool) (A B:ByteArray)
  (hcut:∀ wz,wz.cell? ⟨0,0,none⟩=some (.int .i64 m)→Calls Tryz.prog 68 #[.string s, .string ⟨#[61]⟩] wz fun e w'=>e=.returned (.tuple #[.string H, .string V, .bool told])∧∃ k,w'=wz.drewN k)
  (hsp:∀ wz,wz.cell? ⟨0,0,none⟩=some (.int .i64 m)→Calls Tryz.prog 108 #[.string H, .string ⟨#[58]⟩] wz fun e w'=>e=.returned (.slice (some ⟨wz.heap.size,0,none⟩) 2 2)∧w'=wz.alloc (.cells #[.string A, .string B] 9))
  (h69:((sort:Int)==69)=true) (h69':((sort:Int) != 69)=false) (G:Nat) (hG:1≤G) (hnum:∀ wz,Calls Tryz.prog 76 #[.string A, .int .i64 200] wz fun e w'=>e=.returned (.tuple #[.int .i64 G, .bool true])∧wz=w') (hnm:∀ wz,Calls Tryz.prog 93 #[.string B] wz fun e w'=>e=.returned (.bool false)∧Below wz.heap.size wz w') :
  Calls Tryz.prog 109 #[.string s, .int .u8 sort] w fun e w'=>e=.returned (.tuple #[.agg #[.int .i64 0,tx [],tx [],tx [],tx [],tx []], .bool false])∧Below w.heap.size w w':=by
 have h0:0<w.heap.size:=cell_lt hm
 have hm':=fun o=>(World.cell?_alloc_lt w o _ h0).trans hm
 have HM:=hid hm'
 have HC:=hid hcut
 have HS:=hid hsp
 have HNUM:=hid hnum
 have HNM:=hid hnm
 clear hnum hnm
 clear hcut hsp hm' hm
 go_enter Tryz.func109,Tryz.ntmps109
 go_wp2_with (first|(go_at_call 93;refine(HNM.out _).mono ?_;rintro e w3 ⟨rfl,hb3⟩;obtain⟨hc3,hc4⟩:=bcell hb3;have hz3:w.heap.size+2<w3.heap.size:=(by have:=hb3.size;simp at this;omega);have hy3:w.heap.size<w3.heap.size:=Nat.lt_of_le_of_lt (Nat.le_add_right _ 2) hz3;have HB3:=Lib.hid hb3;clear hb3)|(go_at_call 76;refine(HNUM.out _).mono ?_;rintro e w3 ⟨rfl,rfl⟩)|(go_at_call 108;refine(HS.out _ (by exact HM.out _)).mono ?_;rintro e w2 ⟨rfl,rfl⟩)|(go_at_call 68;refine(HC.out _ (by exact HM.out _)).mono ?_;rintro e w1 ⟨rfl,dk,rfl⟩))
 have D3:=hid ((show Below (w.heap.size+1) (w.alloc (.cells #[.int .i64 0,tx [],tx [],tx [],tx [],tx []] 78)) _ by repeat (first|with_reducible exact Below.refl _ _|with_reducible refine Below.drew ?_|with_reducible refine bel_drewN ?_ _|with_reducible refine Below.setCell ?_ (by first|(simp;done)|(simp;omega)|omega) _|with_reducible refine Below.alloc ?_ (by first|exact Nat.le_refl _|(simp;done)|(simp;omega)|omega) _)).trans (HB3.out.mono (by first|(simp;done)|(simp;omega)|omega)))
 have e0:w3.cell? ⟨w.heap.size,0,none⟩=some (.int .i64 0):=(D3.out.cell (p:=⟨w.heap.size,0,none⟩) (Nat.lt_succ_self _)).trans (by simp)
 have e1:w3.cell? ⟨w.heap.size,1,none⟩=some (tx []):=(D3.out.cell (p:=⟨w.heap.size,1,none⟩) (Nat.lt_succ_self _)).trans (by simp)
 have e2:w3.cell? ⟨w.heap.size,2,none⟩=some (tx []):=(D3.out.cell (p:=⟨w.heap.size,2,none⟩) (Nat.lt_succ_self _)).trans (by simp)
 have e3:w3.cell? ⟨w.heap.size,3,none⟩=some (tx []):=(D3.out.cell (p:=⟨w.heap.size,3,none⟩) (Nat.lt_succ_self _)).trans (by simp)
 have e4:w3.cell? ⟨w.heap.size,4,none⟩=some (tx []):=(D3.out.cell (p:=⟨w.heap.size,4,none⟩) (Nat.lt_succ_self _)).trans (by simp)
 have e5:w3.cell? ⟨w.heap.size,5,none⟩=some (tx []):=(D3.out.cell (p:=⟨w.heap.size,5,none⟩) (Nat.lt_succ_self _)).trans (by simp)
 have DD:=hid (((Below.refl w.heap.size w).alloc (Nat.le_refl _) (.cells #[.int .i64 0,tx [],tx [],tx [],tx [],tx []] 78)).trans (D3.out.mono (Nat.le_succ _)))
 all_goals exact bodyPost_ret (v:=.tuple #[.agg #[.int .i64 0,tx [],tx [],tx [],tx [],tx []], .bool false]) (by simp[results,Tryz.results109,go_sem,e0,e1,e2,e3,e4,e5]) rfl ⟨rfl,by repeat (first|with_reducible exact DD.out|with_reducible refine Below.drew ?_|with_reducible refine bel_drewN ?_ _|with_reducible refine Below.setCell ?_ (by first|(simp;done)|(simp;omega)|omega) _|with_reducible refine Below.alloc ?_ (by first|exact Nat.le_refl _|(simp;done)|(simp;omega)|omega) _)⟩
set_option maxRecDepth 20000 in
set_option maxHeartbeats 1000000 in
theorem rfi_nonum3 (s:ByteArray) (sort:Nat) (w:World) (m:Int) (hm:w.cell? ⟨0,0,none⟩=some (.int .i64 m)) (H V:ByteArray) (told:Bool) (A B D:ByteArray)
  (hcut:∀ wz,wz.cell? ⟨0,0,none⟩=some (.int .i64 m)→Calls Tryz.prog 68 #[.string s, .string ⟨#[61]⟩] wz fun e w'=>e=.returned (.tuple #[.string H, .string V, .bool told])∧∃ k,w'=wz.drewN k)
  (hsp:∀ wz,wz.cell? ⟨0,0,none⟩=some (.int .i64 m)→Calls Tryz.prog 108 #[.string H, .string ⟨#[58]⟩] wz fun e w'=>e=.returned (.slice (some ⟨wz.heap.size,0,none⟩) 3 3)∧w'=wz.alloc (.cells #[.string A, .string B, .string D] 9))
  (h69:((sort:Int)==69)=false) (h69':((sort:Int) != 69)=true) (hnum:∀ wz,Calls Tryz.prog 76 #[.string A, .int .i64 200] wz fun e w'=>(∃ q:Int,e=.returned (.tuple #[.int .i64 q, .bool false]))∧wz=w') :
  Calls Tryz.prog 109 #[.string s, .int .u8 sort] w fun e w'=>e=.returned (.tuple #[.agg #[.int .i64 0,tx [],tx [],tx [],tx [],tx []], .bool false])∧Below w.heap.size w w':=by
 have h0:0<w.heap.size:=cell_lt hm
 have hm':=fun o=>(World.cell?_alloc_lt w o _ h0).trans hm
 have HM:=hid hm'
 have HC:=hid hcut
 have HS:=hid hsp
 have HNUM:=hid hnum
 clear hnum
 clear hcut hsp hm' hm
 go_enter Tryz.func109,Tryz.ntmps109
 go_wp2_with (first|(go_at_call 76;refine(HNUM.out _).mono ?_;rintro e w3 ⟨⟨q0,rfl⟩,rfl⟩)|(go_at_call 108;refine(HS.out _ (by exact HM.out _)).mono ?_;rintro e w2 ⟨rfl,rfl⟩)|(go_at_call 68;refine(HC.out _ (by exact HM.out _)).mono ?_;rintro e w1 ⟨rfl,dk,rfl⟩))
 all_goals exact bodyPost_ret (v:=.tuple #[.agg #[.int .i64 0,tx [],tx [],tx [],tx [],tx []], .bool false]) (by simp[results,Tryz.results109,go_sem]) rfl ⟨rfl,by repeat (first|with_reducible exact Below.refl _ _|with_reducible refine Below.drew ?_|with_reducible refine bel_drewN ?_ _|with_reducible refine Below.setCell ?_ (by first|(simp;done)|(simp;omega)|omega) _|with_reducible refine Below.alloc ?_ (by first|exact Nat.le_refl _|(simp;done)|(simp;omega)|omega) _)⟩
set_option maxRecDepth 20000 in
set_option maxHeartbeats 1000000 in
theorem rfi_low3 (s:ByteArray) (sort:Nat) (w:World) (m:Int) (hm:w.cell? ⟨0,0,none⟩=some (.int .i64 m)) (H V:ByteArray) (told:Bool) (A B D:ByteArray)
  (hcut:∀ wz,wz.cell? ⟨0,0,none⟩=some (.int .i64 m)→Calls Tryz.prog 68 #[.string s, .string ⟨#[61]⟩] wz fun e w'=>e=.returned (.tuple #[.string H, .string V, .bool told])∧∃ k,w'=wz.drewN k)
  (hsp:∀ wz,wz.cell? ⟨0,0,none⟩=some (.int .i64 m)→Calls Tryz.prog 108 #[.string H, .string ⟨#[58]⟩] wz fun e w'=>e=.returned (.slice (some ⟨wz.heap.size,0,none⟩) 3 3)∧w'=wz.alloc (.cells #[.string A, .string B, .string D] 9))
  (h69:((sort:Int)==69)=false) (h69':((sort:Int) != 69)=true) (G:Nat) (hG:G<1) (hnum:∀ wz,Calls Tryz.prog 76 #[.string A, .int .i64 200] wz fun e w'=>e=.returned (.tuple #[.int .i64 G, .bool true])∧wz=w') :
  Calls Tryz.prog 109 #[.string s, .int .u8 sort] w fun e w'=>e=.returned (.tuple #[.agg #[.int .i64 0,tx [],tx [],tx [],tx [],tx []], .bool false])∧Below w.heap.size w w':=by
 have h0:0<w.heap.size:=cell_lt hm
 have hm':=fun o=>(World.cell?_alloc_lt w o _ h0).trans hm
 have HM:=hid hm'
 have HC:=hid hcut
 have HS:=hid hsp
 have HNUM:=hid hnum
 clear hnum
 clear hcut hsp hm' hm
 go_enter Tryz.func109,Tryz.ntmps109
 go_wp2_with (first|(go_at_call 76;refine(HNUM.out _).mono ?_;rintro e w3 ⟨rfl,rfl⟩)|(go_at_call 108;refine(HS.out _ (by exact HM.out _)).mono ?_;rintro e w2 ⟨rfl,rfl⟩)|(go_at_call 68;refine(HC.out _ (by exact HM.out _)).mono ?_;rintro e w1 ⟨rfl,dk,rfl⟩))
 all_goals exact bodyPost_ret (v:=.tuple #[.agg #[.int .i64 0,tx [],tx [],tx [],tx [],tx []], .bool false]) (by simp[results,Tryz.results109,go_sem]) rfl ⟨rfl,by repeat (first|with_reducible exact Below.refl _ _|with_reducible refine Below.drew ?_|with_reducible refine bel_drewN ?_ _|with_reducible refine Below.setCell ?_ (by first|(simp;done)|(simp;omega)|omega) _|with_reducible refine Below.alloc ?_ (by first|exact Nat.le_refl _|(simp;done)|(simp;omega)|omega) _)⟩
set_option maxRecDepth 20000 in
set_option maxHeartbeats 1000000 in
theorem rfi_noname3 (s:ByteArray) (sort:Nat) (w:World) (m:Int) (hm:w.cell? ⟨0,0,none⟩=some (.int .i64 m)) (H V:ByteArray) (told:Bool) (A B D:ByteArray)
  (hcut:∀ wz,wz.cell? ⟨0,0,none⟩=some (.int .i64 m)→Calls Tryz.prog 68 #[.string s, .string ⟨#[61]⟩] wz fun e w'=>e=.returned (.tuple #[.string H, .string V, .bool told])∧∃ k,w'=wz.drewN k)
  (hsp:∀ wz,wz.cell? ⟨0,0,none⟩=some (.int .i64 m)→Calls Tryz.prog 108 #[.string H, .string ⟨#[58]⟩] wz fun e w'=>e=.returned (.slice (some ⟨wz.heap.size,0,none⟩) 3 3)∧w'=wz.alloc (.cells #[.string A, .string B, .string D] 9))
  (h69:((sort:Int)==69)=false) (h69':((sort:Int) != 69)=true) (G:Nat) (hG:1≤G) (hnum:∀ wz,Calls Tryz.prog 76 #[.string A, .int .i64 200] wz fun e w'=>e=.returned (.tuple #[.int .i64 G, .bool true])∧wz=w') (hnm:∀ wz,Calls Tryz.prog 93 #[.string B] wz fun e w'=>e=.returned (.bool false)∧Below wz.heap.size wz w') :
  Calls Tryz.prog 109 #[.string s, .int .u8 sort] w fun e w'=>e=.returned (.tuple #[.agg #[.int .i64 0,tx [],tx [],tx [],tx [],tx []], .bool false])∧Below w.heap.size w w':=by
 have h0:0<w.heap.size:=cell_lt hm
 have hm':=fun o=>(World.cell?_alloc_lt w o _ h0).trans hm
 have HM:=hid hm'
 have HC:=hid hcut
 have HS:=hid hsp
 have HNUM:=hid hnum
 have HNM:=hid hnm
 clear hnum hnm
 clear hcut hsp hm' hm
 go_enter Tryz.func109,Tryz.ntmps109
 go_wp2_with (first|(go_at_call 93;refine(HNM.out _).mono ?_;rintro e w3 ⟨rfl,hb3⟩;obtain⟨hc3,hc4⟩:=bcell hb3;have hz3:w.heap.size+2<w3.heap.size:=(by have:=hb3.size;simp at this;omega);have hy3:w.heap.size<w3.heap.size:=Nat.lt_of_le_of_lt (Nat.le_add_right _ 2) hz3;have HB3:=Lib.hid hb3;clear hb3)|(go_at_call 76;refine(HNUM.out _).mono ?_;rintro e w3 ⟨rfl,rfl⟩)|(go_at_call 108;refine(HS.out _ (by exact HM.out _)).mono ?_;rintro e w2 ⟨rfl,rfl⟩)|(go_at_call 68;refine(HC.out _ (by exact HM.out _)).mono ?_;rintro e w1 ⟨rfl,dk,rfl⟩))
 have D3:=hid ((show Below (w.heap.size+1) (w.alloc (.cells #[.int .i64 0,tx [],tx [],tx [],tx [],tx []] 78)) _ by repeat (first|with_reducible exact Below.refl _ _|with_reducible refine Below.drew ?_|with_reducible refine bel_drewN ?_ _|with_reducible refine Below.setCell ?_ (by first|(simp;done)|(simp;omega)|omega) _|with_reducible refine Below.alloc ?_ (by first|exact Nat.le_refl _|(simp;done)|(simp;omega)|omega) _)).trans (HB3.out.mono (by first|(simp;done)|(simp;omega)|omega)))
 have e0:w3.cell? ⟨w.heap.size,0,none⟩=some (.int .i64 0):=(D3.out.cell (p:=⟨w.heap.size,0,none⟩) (Nat.lt_succ_self _)).trans (by simp)
 have e1:w3.cell? ⟨w.heap.size,1,none⟩=some (tx []):=(D3.out.cell (p:=⟨w.heap.size,1,none⟩) (Nat.lt_succ_self _)).trans (by simp)
 have e2:w3.cell? ⟨w.heap.size,2,none⟩=some (tx []):=(D3.out.cell (p:=⟨w.heap.size,2,none⟩) (Nat.lt_succ_self _)).trans (by simp)
 have e3:w3.cell? ⟨w.heap.size,3,none⟩=some (tx []):=(D3.out.cell (p:=⟨w.heap.size,3,none⟩) (Nat.lt_succ_self _)).trans (by simp)
 have e4:w3.cell? ⟨w.heap.size,4,none⟩=some (tx []):=(D3.out.cell (p:=⟨w.heap.size,4,none⟩) (Nat.lt_succ_self _)).trans (by simp)
 have e5:w3.cell? ⟨w.heap.size,5,none⟩=some (tx []):=(D3.out.cell (p:=⟨w.heap.size,5,none⟩) (Nat.lt_succ_self _)).trans (by simp)
 have DD:=hid (((Below.refl w.heap.size w).alloc (Nat.le_refl _) (.cells #[.int .i64 0,tx [],tx [],tx [],tx [],tx []] 78)).trans (D3.out.mono (Nat.le_succ _)))
 all_goals exact bodyPost_ret (v:=.tuple #[.agg #[.int .i64 0,tx [],tx [],tx [],tx [],tx []], .bool false]) (by simp[results,Tryz.results109,go_sem,e0,e1,e2,e3,e4,e5]) rfl ⟨rfl,by repeat (first|with_reducible exact DD.out|with_reducible refine Below.drew ?_|with_reducible refine bel_drewN ?_ _|with_reducible refine Below.setCell ?_ (by first|(simp;done)|(simp;omega)|omega) _|with_reducible refine Below.alloc ?_ (by first|exact Nat.le_refl _|(simp;done)|(simp;omega)|omega) _)⟩
set_option maxRecDepth 20000 in
set_option maxHeartbeats 1000000 in
theorem rfi_enum_told (s:ByteArray) (sort:Nat) (w:World) (m:Int) (hm:w.cell? ⟨0,0,none⟩=some (.int .i64 m)) (H V:ByteArray) (told:Bool) (A B:ByteArray)
  (hcut:∀ wz,wz.cell? ⟨0,0,none⟩=some (.int .i64 m)→Calls Tryz.prog 68 #[.string s, .string ⟨#[61]⟩] wz fun e w'=>e=.returned (.tuple #[.string H, .string V, .bool told])∧∃ k,w'=wz.drewN k)
  (hsp:∀ wz,wz.cell? ⟨0,0,none⟩=some (.int .i64 m)→Calls Tryz.prog 108 #[.string H, .string ⟨#[58]⟩] wz fun e w'=>e=.returned (.slice (some ⟨wz.heap.size,0,none⟩) 2 2)∧w'=wz.alloc (.cells #[.string A, .string B] 9))
  (h69:((sort:Int)==69)=true) (h69':((sort:Int) != 69)=false) (h82:((sort:Int) != 82)=true) (G:Nat) (hG:1≤G) (hnum:∀ wz,Calls Tryz.prog 76 #[.string A, .int .i64 200] wz fun e w'=>e=.returned (.tuple #[.int .i64 G, .bool true])∧wz=w') (hnm:∀ wz,Calls Tryz.prog 93 #[.string B] wz fun e w'=>e=.returned (.bool true)∧Below wz.heap.size wz w') (ht:told=true) :
  Calls Tryz.prog 109 #[.string s, .int .u8 sort] w fun e w'=>e=.returned (.tuple #[.agg #[.int .i64 0,tx [],tx [],tx [],tx [],tx []], .bool false])∧Below w.heap.size w w':=by
 have h0:0<w.heap.size:=cell_lt hm
 have hm':=fun o=>(World.cell?_alloc_lt w o _ h0).trans hm
 have HM:=hid hm'
 have HC:=hid hcut
 have HS:=hid hsp
 have HNUM:=hid hnum
 have HNM:=hid hnm
 clear hnum hnm
 subst ht
 clear hcut hsp hm' hm
 go_enter Tryz.func109,Tryz.ntmps109
 go_wp2_with (first|(go_at_call 93;refine(HNM.out _).mono ?_;rintro e w3 ⟨rfl,hb3⟩;obtain⟨hc3,hc4⟩:=bcell hb3;have hz3:w.heap.size+2<w3.heap.size:=(by have:=hb3.size;simp at this;omega);have hy3:w.heap.size<w3.heap.size:=Nat.lt_of_le_of_lt (Nat.le_add_right _ 2) hz3;have HB3:=Lib.hid hb3;clear hb3)|(go_at_call 76;refine(HNUM.out _).mono ?_;rintro e w3 ⟨rfl,rfl⟩)|(go_at_call 108;refine(HS.out _ (by exact HM.out _)).mono ?_;rintro e w2 ⟨rfl,rfl⟩)|(go_at_call 68;refine(HC.out _ (by exact HM.out _)).mono ?_;rintro e w1 ⟨rfl,dk,rfl⟩))
 have D3:=hid ((show Below (w.heap.size+1) (w.alloc (.cells #[.int .i64 0,tx [],tx [],tx [],tx [],tx []] 78)) _ by repeat (first|with_reducible exact Below.refl _ _|with_reducible refine Below.drew ?_|with_reducible refine bel_drewN ?_ _|with_reducible refine Below.setCell ?_ (by first|(simp;done)|(simp;omega)|omega) _|with_reducible refine Below.alloc ?_ (by first|exact Nat.le_refl _|(simp;done)|(simp;omega)|omega) _)).trans (HB3.out.mono (by first|(simp;done)|(simp;omega)|omega)))
 have e0:w3.cell? ⟨w.heap.size,0,none⟩=some (.int .i64 0):=(D3.out.cell (p:=⟨w.heap.size,0,none⟩) (Nat.lt_succ_self _)).trans (by simp)
 have e1:w3.cell? ⟨w.heap.size,1,none⟩=some (tx []):=(D3.out.cell (p:=⟨w.heap.size,1,none⟩) (Nat.lt_succ_self _)).trans (by simp)
 have e2:w3.cell? ⟨w.heap.size,2,none⟩=some (tx []):=(D3.out.cell (p:=⟨w.heap.size,2,none⟩) (Nat.lt_succ_self _)).trans (by simp)
 have e3:w3.cell? ⟨w.heap.size,3,none⟩=some (tx []):=(D3.out.cell (p:=⟨w.heap.size,3,none⟩) (Nat.lt_succ_self _)).trans (by simp)
 have e4:w3.cell? ⟨w.heap.size,4,none⟩=some (tx []):=(D3.out.cell (p:=⟨w.heap.size,4,none⟩) (Nat.lt_succ_self _)).trans (by simp)
 have e5:w3.cell? ⟨w.heap.size,5,none⟩=some (tx []):=(D3.out.cell (p:=⟨w.heap.size,5,none⟩) (Nat.lt_succ_self _)).trans (by simp)
 have DD:=hid (((Below.refl w.heap.size w).alloc (Nat.le_refl _) (.cells #[.int .i64 0,tx [],tx [],tx [],tx [],tx []] 78)).trans (D3.out.mono (Nat.le_succ _)))
 all_goals exact bodyPost_ret (v:=.tuple #[.agg #[.int .i64 0,tx [],tx [],tx [],tx [],tx []], .bool false]) (by simp[results,Tryz.results109,go_sem,e0,e1,e2,e3,e4,e5]) rfl ⟨rfl,by repeat (first|with_reducible exact DD.out|with_reducible refine Below.drew ?_|with_reducible refine bel_drewN ?_ _|with_reducible refine Below.setCell ?_ (by first|(simp;done)|(simp;omega)|omega) _|with_reducible refine Below.alloc ?_ (by first|exact Nat.le_refl _|(simp;done)|(simp;omega)|omega) _)⟩
set_option maxRecDepth 20000 in
set_option maxHeartbeats 1000000 in
theorem rfi_enum (s:ByteArray) (sort:Nat) (w:World) (m:Int) (hm:w.cell? ⟨0,0,none⟩=some (.int .i64 m)) (H V:ByteArray) (told:Bool) (A B:ByteArray)
  (hcut:∀ wz,wz.cell? ⟨0,0,none⟩=some (.int .i64 m)→Calls Tryz.prog 68 #[.string s, .string ⟨#[61]⟩] wz fun e w'=>e=.returned (.tuple #[.string H, .string V, .bool told])∧∃ k,w'=wz.drewN k)
  (hsp:∀ wz,wz.cell? ⟨0,0,none⟩=some (.int .i64 m)→Calls Tryz.prog 108 #[.string H, .string ⟨#[58]⟩] wz fun e w'=>e=.returned (.slice (some ⟨wz.heap.size,0,none⟩) 2 2)∧w'=wz.alloc (.cells #[.string A, .string B] 9))
  (h69:((sort:Int)==69)=true) (h69':((sort:Int) != 69)=false) (G:Nat) (hG:1≤G) (hnum:∀ wz,Calls Tryz.prog 76 #[.string A, .int .i64 200] wz fun e w'=>e=.returned (.tuple #[.int .i64 G, .bool true])∧wz=w') (hnm:∀ wz,Calls Tryz.prog 93 #[.string B] wz fun e w'=>e=.returned (.bool true)∧Below wz.heap.size wz w') (ht:told=false) :
  Calls Tryz.prog 109 #[.string s, .int .u8 sort] w fun e w'=>e=.returned (.tuple #[.agg #[.int .i64 G, .string B,tx [],tx [],tx [], .string V], .bool true])∧Below w.heap.size w w':=by
 have h0:0<w.heap.size:=cell_lt hm
 have hm':=fun o=>(World.cell?_alloc_lt w o _ h0).trans hm
 have HM:=hid hm'
 have HC:=hid hcut
 have HS:=hid hsp
 have HNUM:=hid hnum
 have HNM:=hid hnm
 clear hnum hnm
 subst ht
 clear hcut hsp hm' hm
 go_enter Tryz.func109,Tryz.ntmps109
 go_wp2_with (first|(go_at_call 93;refine(HNM.out _).mono ?_;rintro e w3 ⟨rfl,hb3⟩;obtain⟨hc3,hc4⟩:=bcell hb3;have hz3:w.heap.size+2<w3.heap.size:=(by have:=hb3.size;simp at this;omega);have hy3:w.heap.size<w3.heap.size:=Nat.lt_of_le_of_lt (Nat.le_add_right _ 2) hz3;have HB3:=Lib.hid hb3;clear hb3)|(go_at_call 76;refine(HNUM.out _).mono ?_;rintro e w3 ⟨rfl,rfl⟩)|(go_at_call 108;refine(HS.out _ (by exact HM.out _)).mono ?_;rintro e w2 ⟨rfl,rfl⟩)|(go_at_call 68;refine(HC.out _ (by exact HM.out _)).mono ?_;rintro e w1 ⟨rfl,dk,rfl⟩))
 have D3:=hid ((show Below (w.heap.size+1) (w.alloc (.cells #[.int .i64 0,tx [],tx [],tx [],tx [],tx []] 78)) _ by repeat (first|with_reducible exact Below.refl _ _|with_reducible refine Below.drew ?_|with_reducible refine bel_drewN ?_ _|with_reducible refine Below.setCell ?_ (by first|(simp;done)|(simp;omega)|omega) _|with_reducible refine Below.alloc ?_ (by first|exact Nat.le_refl _|(simp;done)|(simp;omega)|omega) _)).trans (HB3.out.mono (by first|(simp;done)|(simp;omega)|omega)))
 have e0:w3.cell? ⟨w.heap.size,0,none⟩=some (.int .i64 0):=(D3.out.cell (p:=⟨w.heap.size,0,none⟩) (Nat.lt_succ_self _)).trans (by simp)
 have e1:w3.cell? ⟨w.heap.size,1,none⟩=some (tx []):=(D3.out.cell (p:=⟨w.heap.size,1,none⟩) (Nat.lt_succ_self _)).trans (by simp)
 have e2:w3.cell? ⟨w.heap.size,2,none⟩=some (tx []):=(D3.out.cell (p:=⟨w.heap.size,2,none⟩) (Nat.lt_succ_self _)).trans (by simp)
 have e3:w3.cell? ⟨w.heap.size,3,none⟩=some (tx []):=(D3.out.cell (p:=⟨w.heap.size,3,none⟩) (Nat.lt_succ_self _)).trans (by simp)
 have e4:w3.cell? ⟨w.heap.size,4,none⟩=some (tx []):=(D3.out.cell (p:=⟨w.heap.size,4,none⟩) (Nat.lt_succ_self _)).trans (by simp)
 have e5:w3.cell? ⟨w.heap.size,5,none⟩=some (tx []):=(D3.out.cell (p:=⟨w.heap.size,5,none⟩) (Nat.lt_succ_self _)).trans (by simp)
 have DD:=hid (((Below.refl w.heap.size w).alloc (Nat.le_refl _) (.cells #[.int .i64 0,tx [],tx [],tx [],tx [],tx []] 78)).trans (D3.out.mono (Nat.le_succ _)))
 exact bodyPost_ret (v:=.tuple #[.agg #[.int .i64 G, .string B,tx [],tx [],tx [], .string V], .bool true]) (by simp[results,Tryz.results109,go_sem,e0,e1,e2,e3,e4,e5]) rfl ⟨rfl,by repeat (first|with_reducible exact DD.out|with_reducible refine Below.drew ?_|with_reducible refine bel_drewN ?_ _|with_reducible refine Below.setCell ?_ (by first|(simp;done)|(simp;omega)|omega) _|with_reducible refine Below.alloc ?_ (by first|exact Nat.le_refl _|(simp;done)|(simp;omega)|omega) _)⟩
set_option maxRecDepth 20000 in
set_option maxHeartbeats 1000000 in
theorem rfi_nokind (s:ByteArray) (sort:Nat) (w:World) (m:Int) (hm:w.cell? ⟨0,0,none⟩=some (.int .i64 m)) (H V:ByteArray) (told:Bool) (A B D:ByteArray)
  (hcut:∀ wz,wz.cell? ⟨0,0,none⟩=some (.int .i64 m)→Calls Tryz.prog 68 #[.string s, .string ⟨#[61]⟩] wz fun e w'=>e=.returned (.tuple #[.string H, .string V, .bool told])∧∃ k,w'=wz.drewN k)
  (hsp:∀ wz,wz.cell? ⟨0,0,none⟩=some (.int .i64 m)→Calls Tryz.prog 108 #[.string H, .string ⟨#[58]⟩] wz fun e w'=>e=.returned (.slice (some ⟨wz.heap.size,0,none⟩) 3 3)∧w'=wz.alloc (.cells #[.string A, .string B, .string D] 9))
  (h69:((sort:Int)==69)=false) (h69':((sort:Int) != 69)=true) (G:Nat) (hG:1≤G) (hnum:∀ wz,Calls Tryz.prog 76 #[.string A, .int .i64 200] wz fun e w'=>e=.returned (.tuple #[.int .i64 G, .bool true])∧wz=w') (hnm:∀ wz,Calls Tryz.prog 93 #[.string B] wz fun e w'=>e=.returned (.bool true)∧Below wz.heap.size wz w') (hrk:∀ wz,Calls Tryz.prog 55 #[.string D] wz fun e w'=>(∃ S K N:ByteArray,e=.returned (.tuple #[.agg #[.string S, .string K, .string N], .bool false]))∧Below wz.heap.size wz w') :
  Calls Tryz.prog 109 #[.string s, .int .u8 sort] w fun e w'=>e=.returned (.tuple #[.agg #[.int .i64 0,tx [],tx [],tx [],tx [],tx []], .bool false])∧Below w.heap.size w w':=by
 have h0:0<w.heap.size:=cell_lt hm
 have hm':=fun o=>(World.cell?_alloc_lt w o _ h0).trans hm
 have HM:=hid hm'
 have HC:=hid hcut
 have HS:=hid hsp
 have HNUM:=hid hnum
 have HNM:=hid hnm
 have HRK:=hid hrk
 clear hnum hnm hrk
 clear hcut hsp hm' hm
 go_enter Tryz.func109,Tryz.ntmps109
 go_wp2_with (first|(go_at_call 55;refine(HRK.out _).mono ?_;rintro e w4 ⟨⟨S0,K0,N0,rfl⟩,hb4⟩;obtain⟨hc5,hc6⟩:=bcell hb4;have hz4:=Nat.lt_of_lt_of_le hz3 hb4.size;have hy4:w.heap.size<w4.heap.size:=Nat.lt_of_le_of_lt (Nat.le_add_right _ 2) hz4;have HB4:=Lib.hid hb4;clear hb4)|(go_at_call 93;refine(HNM.out _).mono ?_;rintro e w3 ⟨rfl,hb3⟩;obtain⟨hc3,hc4⟩:=bcell hb3;have hz3:w.heap.size+2<w3.heap.size:=(by have:=hb3.size;simp at this;omega);have hy3:w.heap.size<w3.heap.size:=Nat.lt_of_le_of_lt (Nat.le_add_right _ 2) hz3;have HB3:=Lib.hid hb3;clear hb3)|(go_at_call 76;refine(HNUM.out _).mono ?_;rintro e w3 ⟨rfl,rfl⟩)|(go_at_call 108;refine(HS.out _ (by exact HM.out _)).mono ?_;rintro e w2 ⟨rfl,rfl⟩)|(go_at_call 68;refine(HC.out _ (by exact HM.out _)).mono ?_;rintro e w1 ⟨rfl,dk,rfl⟩))
 have D3:=hid ((show Below (w.heap.size+1) (w.alloc (.cells #[.int .i64 0,tx [],tx [],tx [],tx [],tx []] 78)) _ by repeat (first|with_reducible exact Below.refl _ _|with_reducible refine Below.drew ?_|with_reducible refine bel_drewN ?_ _|with_reducible refine Below.setCell ?_ (by first|(simp;done)|(simp;omega)|omega) _|with_reducible refine Below.alloc ?_ (by first|exact Nat.le_refl _|(simp;done)|(simp;omega)|omega) _)).trans (HB3.out.mono (by first|(simp;done)|(simp;omega)|omega)))
 have D4:=hid ((show Below (w.heap.size+1) (w.alloc (.cells #[.int .i64 0,tx [],tx [],tx [],tx [],tx []] 78)) _ by repeat (first|with_reducible exact D3.out|with_reducible refine Below.drew ?_|with_reducible refine bel_drewN ?_ _|with_reducible refine Below.setCell ?_ (by first|(simp;done)|(simp;omega)|omega) _|with_reducible refine Below.alloc ?_ (by first|exact Nat.le_refl _|(simp;done)|(simp;omega)|omega) _)).trans (HB4.out.mono (by first|(simp;done)|(simp;omega)|omega)))
 have e0:w4.cell? ⟨w.heap.size,0,none⟩=some (.int .i64 0):=(D4.out.cell (p:=⟨w.heap.size,0,none⟩) (Nat.lt_succ_self _)).trans (by simp)
 have e1:w4.cell? ⟨w.heap.size,1,none⟩=some (tx []):=(D4.out.cell (p:=⟨w.heap.size,1,none⟩) (Nat.lt_succ_self _)).trans (by simp)
 have e2:w4.cell? ⟨w.heap.size,2,none⟩=some (tx []):=(D4.out.cell (p:=⟨w.heap.size,2,none⟩) (Nat.lt_succ_self _)).trans (by simp)
 have e3:w4.cell? ⟨w.heap.size,3,none⟩=some (tx []):=(D4.out.cell (p:=⟨w.heap.size,3,none⟩) (Nat.lt_succ_self _)).trans (by simp)
 have e4:w4.cell? ⟨w.heap.size,4,none⟩=some (tx []):=(D4.out.cell (p:=⟨w.heap.size,4,none⟩) (Nat.lt_succ_self _)).trans (by simp)
 have e5:w4.cell? ⟨w.heap.size,5,none⟩=some (tx []):=(D4.out.cell (p:=⟨w.heap.size,5,none⟩) (Nat.lt_succ_self _)).trans (by simp)
 have DD:=hid (((Below.refl w.heap.size w).alloc (Nat.le_refl _) (.cells #[.int .i64 0,tx [],tx [],tx [],tx [],tx []] 78)).trans (D4.out.mono (Nat.le_succ _)))
 all_goals exact bodyPost_ret (v:=.tuple #[.agg #[.int .i64 0,tx [],tx [],tx [],tx [],tx []], .bool false]) (by simp[results,Tryz.results109,go_sem,e0,e1,e2,e3,e4,e5]) rfl ⟨rfl,by repeat (first|with_reducible exact DD.out|with_reducible refine Below.drew ?_|with_reducible refine bel_drewN ?_ _|with_reducible refine Below.setCell ?_ (by first|(simp;done)|(simp;omega)|omega) _|with_reducible refine Below.alloc ?_ (by first|exact Nat.le_refl _|(simp;done)|(simp;omega)|omega) _)⟩
set_option maxRecDepth 20000 in
set_option maxHeartbeats 1000000 in
theorem rfi_kind (s:ByteArray) (sort:Nat) (w:World) (m:Int) (hm:w.cell? ⟨0,0,none⟩=some (.int .i64 m)) (H V:ByteArray) (told:Bool) (A B D:ByteArray)
  (hcut:∀ wz,wz.cell? ⟨0,0,none⟩=some (.int .i64 m)→Calls Tryz.prog 68 #[.string s, .string ⟨#[61]⟩] wz fun e w'=>e=.returned (.tuple #[.string H, .string V, .bool told])∧∃ k,w'=wz.drewN k)
  (hsp:∀ wz,wz.cell? ⟨0,0,none⟩=some (.int .i64 m)→Calls Tryz.prog 108 #[.string H, .string ⟨#[58]⟩] wz fun e w'=>e=.returned (.slice (some ⟨wz.heap.size,0,none⟩) 3 3)∧w'=wz.alloc (.cells #[.string A, .string B, .string D] 9))
  (h69:((sort:Int)==69)=false) (h69':((sort:Int) != 69)=true) (G:Nat) (hG:1≤G) (hnum:∀ wz,Calls Tryz.prog 76 #[.string A, .int .i64 200] wz fun e w'=>e=.returned (.tuple #[.int .i64 G, .bool true])∧wz=w') (hnm:∀ wz,Calls Tryz.prog 93 #[.string B] wz fun e w'=>e=.returned (.bool true)∧Below wz.heap.size wz w') (S K N:ByteArray) (hrk:∀ wz,Calls Tryz.prog 55 #[.string D] wz fun e w'=>e=.returned (.tuple #[.agg #[.string S, .string K, .string N], .bool true])∧Below wz.heap.size wz w') (ht:told=false) :
  Calls Tryz.prog 109 #[.string s, .int .u8 sort] w fun e w'=>e=.returned (.tuple #[.agg #[.int .i64 G, .string B, .string S, .string K, .string N, .string V], .bool true])∧Below w.heap.size w w':=by
 have h0:0<w.heap.size:=cell_lt hm
 have hm':=fun o=>(World.cell?_alloc_lt w o _ h0).trans hm
 have HM:=hid hm'
 have HC:=hid hcut
 have HS:=hid hsp
 have HNUM:=hid hnum
 have HNM:=hid hnm
 have HRK:=hid hrk
 clear hnum hnm hrk
 subst ht
 clear hcut hsp hm' hm
 go_enter Tryz.func109,Tryz.ntmps109
 go_wp2_with (first|(go_at_call 55;refine(HRK.out _).mono ?_;rintro e w4 ⟨rfl,hb4⟩;obtain⟨hc5,hc6⟩:=bcell hb4;have hz4:=Nat.lt_of_lt_of_le hz3 hb4.size;have hy4:w.heap.size<w4.heap.size:=Nat.lt_of_le_of_lt (Nat.le_add_right _ 2) hz4;have HB4:=Lib.hid hb4;clear hb4)|(go_at_call 93;refine(HNM.out _).mono ?_;rintro e w3 ⟨rfl,hb3⟩;obtain⟨hc3,hc4⟩:=bcell hb3;have hz3:w.heap.size+2<w3.heap.size:=(by have:=hb3.size;simp at this;omega);have hy3:w.heap.size<w3.heap.size:=Nat.lt_of_le_of_lt (Nat.le_add_right _ 2) hz3;have HB3:=Lib.hid hb3;clear hb3)|(go_at_call 76;refine(HNUM.out _).mono ?_;rintro e w3 ⟨rfl,rfl⟩)|(go_at_call 108;refine(HS.out _ (by exact HM.out _)).mono ?_;rintro e w2 ⟨rfl,rfl⟩)|(go_at_call 68;refine(HC.out _ (by exact HM.out _)).mono ?_;rintro e w1 ⟨rfl,dk,rfl⟩))
 have D3:=hid ((show Below (w.heap.size+1) (w.alloc (.cells #[.int .i64 0,tx [],tx [],tx [],tx [],tx []] 78)) _ by repeat (first|with_reducible exact Below.refl _ _|with_reducible refine Below.drew ?_|with_reducible refine bel_drewN ?_ _|with_reducible refine Below.setCell ?_ (by first|(simp;done)|(simp;omega)|omega) _|with_reducible refine Below.alloc ?_ (by first|exact Nat.le_refl _|(simp;done)|(simp;omega)|omega) _)).trans (HB3.out.mono (by first|(simp;done)|(simp;omega)|omega)))
 have D4:=hid ((show Below (w.heap.size+1) (w.alloc (.cells #[.int .i64 0,tx [],tx [],tx [],tx [],tx []] 78)) _ by repeat (first|with_reducible exact D3.out|with_reducible refine Below.drew ?_|with_reducible refine bel_drewN ?_ _|with_reducible refine Below.setCell ?_ (by first|(simp;done)|(simp;omega)|omega) _|with_reducible refine Below.alloc ?_ (by first|exact Nat.le_refl _|(simp;done)|(simp;omega)|omega) _)).trans (HB4.out.mono (by first|(simp;done)|(simp;omega)|omega)))
 have e0:w4.cell? ⟨w.heap.size,0,none⟩=some (.int .i64 0):=(D4.out.cell (p:=⟨w.heap.size,0,none⟩) (Nat.lt_succ_self _)).trans (by simp)
 have e1:w4.cell? ⟨w.heap.size,1,none⟩=some (tx []):=(D4.out.cell (p:=⟨w.heap.size,1,none⟩) (Nat.lt_succ_self _)).trans (by simp)
 have e2:w4.cell? ⟨w.heap.size,2,none⟩=some (tx []):=(D4.out.cell (p:=⟨w.heap.size,2,none⟩) (Nat.lt_succ_self _)).trans (by simp)
 have e3:w4.cell? ⟨w.heap.size,3,none⟩=some (tx []):=(D4.out.cell (p:=⟨w.heap.size,3,none⟩) (Nat.lt_succ_self _)).trans (by simp)
 have e4:w4.cell? ⟨w.heap.size,4,none⟩=some (tx []):=(D4.out.cell (p:=⟨w.heap.size,4,none⟩) (Nat.lt_succ_self _)).trans (by simp)
 have e5:w4.cell? ⟨w.heap.size,5,none⟩=some (tx []):=(D4.out.cell (p:=⟨w.heap.size,5,none⟩) (Nat.lt_succ_self _)).trans (by simp)
 have DD:=hid (((Below.refl w.heap.size w).alloc (Nat.le_refl _) (.cells #[.int .i64 0,tx [],tx [],tx [],tx [],tx []] 78)).trans (D4.out.mono (Nat.le_succ _)))
 exact bodyPost_ret (v:=.tuple #[.agg #[.int .i64 G, .string B, .string S, .string K, .string N, .string V], .bool true]) (by simp[results,Tryz.results109,go_sem,e0,e1,e2,e3,e4,e5]) rfl ⟨rfl,by repeat (first|with_reducible exact DD.out|with_reducible refine Below.drew ?_|with_reducible refine bel_drewN ?_ _|with_reducible refine Below.setCell ?_ (by first|(simp;done)|(simp;omega)|omega) _|with_reducible refine Below.alloc ?_ (by first|exact Nat.le_refl _|(simp;done)|(simp;omega)|omega) _)⟩
set_option maxRecDepth 20000 in
set_option maxHeartbeats 1000000 in
theorem rfi_told_sort (s:ByteArray) (sort:Nat) (w:World) (m:Int) (hm:w.cell? ⟨0,0,none⟩=some (.int .i64 m)) (H V:ByteArray) (told:Bool) (A B D:ByteArray)
  (hcut:∀ wz,wz.cell? ⟨0,0,none⟩=some (.int .i64 m)→Calls Tryz.prog 68 #[.string s, .string ⟨#[61]⟩] wz fun e w'=>e=.returned (.tuple #[.string H, .string V, .bool told])∧∃ k,w'=wz.drewN k)
  (hsp:∀ wz,wz.cell? ⟨0,0,none⟩=some (.int .i64 m)→Calls Tryz.prog 108 #[.string H, .string ⟨#[58]⟩] wz fun e w'=>e=.returned (.slice (some ⟨wz.heap.size,0,none⟩) 3 3)∧w'=wz.alloc (.cells #[.string A, .string B, .string D] 9))
  (h69:((sort:Int)==69)=false) (h69':((sort:Int) != 69)=true) (G:Nat) (hG:1≤G) (hnum:∀ wz,Calls Tryz.prog 76 #[.string A, .int .i64 200] wz fun e w'=>e=.returned (.tuple #[.int .i64 G, .bool true])∧wz=w') (hnm:∀ wz,Calls Tryz.prog 93 #[.string B] wz fun e w'=>e=.returned (.bool true)∧Below wz.heap.size wz w') (S K N:ByteArray) (hrk:∀ wz,Calls Tryz.prog 55 #[.string D] wz fun e w'=>e=.returned (.tuple #[.agg #[.string S, .string K, .string N], .bool true])∧Below wz.heap.size wz w') (ht:told=true) (h82:((sort:Int) != 82)=true) :
  Calls Tryz.prog 109 #[.string s, .int .u8 sort] w fun e w'=>e=.returned (.tuple #[.agg #[.int .i64 0,tx [],tx [],tx [],tx [],tx []], .bool false])∧Below w.heap.size w w':=by
 have h0:0<w.heap.size:=cell_lt hm
 have hm':=fun o=>(World.cell?_alloc_lt w o _ h0).trans hm
 have HM:=hid hm'
 have HC:=hid hcut
 have HS:=hid hsp
 have HNUM:=hid hnum
 have HNM:=hid hnm
 have HRK:=hid hrk
 clear hnum hnm hrk
 subst ht
 clear hcut hsp hm' hm
 go_enter Tryz.func109,Tryz.ntmps109
 go_wp2_with (first|(go_at_call 55;refine(HRK.out _).mono ?_;rintro e w4 ⟨rfl,hb4⟩;obtain⟨hc5,hc6⟩:=bcell hb4;have hz4:=Nat.lt_of_lt_of_le hz3 hb4.size;have hy4:w.heap.size<w4.heap.size:=Nat.lt_of_le_of_lt (Nat.le_add_right _ 2) hz4;have HB4:=Lib.hid hb4;clear hb4)|(go_at_call 93;refine(HNM.out _).mono ?_;rintro e w3 ⟨rfl,hb3⟩;obtain⟨hc3,hc4⟩:=bcell hb3;have hz3:w.heap.size+2<w3.heap.size:=(by have:=hb3.size;simp at this;omega);have hy3:w.heap.size<w3.heap.size:=Nat.lt_of_le_of_lt (Nat.le_add_right _ 2) hz3;have HB3:=Lib.hid hb3;clear hb3)|(go_at_call 76;refine(HNUM.out _).mono ?_;rintro e w3 ⟨rfl,rfl⟩)|(go_at_call 108;refine(HS.out _ (by exact HM.out _)).mono ?_;rintro e w2 ⟨rfl,rfl⟩)|(go_at_call 68;refine(HC.out _ (by exact HM.out _)).mono ?_;rintro e w1 ⟨rfl,dk,rfl⟩))
 have D3:=hid ((show Below (w.heap.size+1) (w.alloc (.cells #[.int .i64 0,tx [],tx [],tx [],tx [],tx []] 78)) _ by repeat (first|with_reducible exact Below.refl _ _|with_reducible refine Below.drew ?_|with_reducible refine bel_drewN ?_ _|with_reducible refine Below.setCell ?_ (by first|(simp;done)|(simp;omega)|omega) _|with_reducible refine Below.alloc ?_ (by first|exact Nat.le_refl _|(simp;done)|(simp;omega)|omega) _)).trans (HB3.out.mono (by first|(simp;done)|(simp;omega)|omega)))
 have D4:=hid ((show Below (w.heap.size+1) (w.alloc (.cells #[.int .i64 0,tx [],tx [],tx [],tx [],tx []] 78)) _ by repeat (first|with_reducible exact D3.out|with_reducible refine Below.drew ?_|with_reducible refine bel_drewN ?_ _|with_reducible refine Below.setCell ?_ (by first|(simp;done)|(simp;omega)|omega) _|with_reducible refine Below.alloc ?_ (by first|exact Nat.le_refl _|(simp;done)|(simp;omega)|omega) _)).trans (HB4.out.mono (by first|(simp;done)|(simp;omega)|omega)))
 have e0:w4.cell? ⟨w.heap.size,0,none⟩=some (.int .i64 0):=(D4.out.cell (p:=⟨w.heap.size,0,none⟩) (Nat.lt_succ_self _)).trans (by simp)
 have e1:w4.cell? ⟨w.heap.size,1,none⟩=some (tx []):=(D4.out.cell (p:=⟨w.heap.size,1,none⟩) (Nat.lt_succ_self _)).trans (by simp)
 have e2:w4.cell? ⟨w.heap.size,2,none⟩=some (tx []):=(D4.out.cell (p:=⟨w.heap.size,2,none⟩) (Nat.lt_succ_self _)).trans (by simp)
 have e3:w4.cell? ⟨w.heap.size,3,none⟩=some (tx []):=(D4.out.cell (p:=⟨w.heap.size,3,none⟩) (Nat.lt_succ_self _)).trans (by simp)
 have e4:w4.cell? ⟨w.heap.size,4,none⟩=some (tx []):=(D4.out.cell (p:=⟨w.heap.size,4,none⟩) (Nat.lt_succ_self _)).trans (by simp)
 have e5:w4.cell? ⟨w.heap.size,5,none⟩=some (tx []):=(D4.out.cell (p:=⟨w.heap.size,5,none⟩) (Nat.lt_succ_self _)).trans (by simp)
 have DD:=hid (((Below.refl w.heap.size w).alloc (Nat.le_refl _) (.cells #[.int .i64 0,tx [],tx [],tx [],tx [],tx []] 78)).trans (D4.out.mono (Nat.le_succ _)))
 all_goals exact bodyPost_ret (v:=.tuple #[.agg #[.int .i64 0,tx [],tx [],tx [],tx [],tx []], .bool false]) (by simp[results,Tryz.results109,go_sem,e0,e1,e2,e3,e4,e5]) rfl ⟨rfl,by repeat (first|with_reducible exact DD.out|with_reducible refine Below.drew ?_|with_reducible refine bel_drewN ?_ _|with_reducible refine Below.setCell ?_ (by first|(simp;done)|(simp;omega)|omega) _|with_reducible refine Below.alloc ?_ (by first|exact Nat.le_refl _|(simp;done)|(simp;omega)|omega) _)⟩
set_option maxRecDepth 20000 in
set_option maxHeartbeats 1000000 in
theorem rfi_told_signs (s:ByteArray) (sort:Nat) (w:World) (m:Int) (hm:w.cell? ⟨0,0,none⟩=some (.int .i64 m)) (H V:ByteArray) (told:Bool) (A B D:ByteArray)
  (hcut:∀ wz,wz.cell? ⟨0,0,none⟩=some (.int .i64 m)→Calls Tryz.prog 68 #[.string s, .string ⟨#[61]⟩] wz fun e w'=>e=.returned (.tuple #[.string H, .string V, .bool told])∧∃ k,w'=wz.drewN k)
  (hsp:∀ wz,wz.cell? ⟨0,0,none⟩=some (.int .i64 m)→Calls Tryz.prog 108 #[.string H, .string ⟨#[58]⟩] wz fun e w'=>e=.returned (.slice (some ⟨wz.heap.size,0,none⟩) 3 3)∧w'=wz.alloc (.cells #[.string A, .string B, .string D] 9))
  (h69:((sort:Int)==69)=false) (h69':((sort:Int) != 69)=true) (G:Nat) (hG:1≤G) (hnum:∀ wz,Calls Tryz.prog 76 #[.string A, .int .i64 200] wz fun e w'=>e=.returned (.tuple #[.int .i64 G, .bool true])∧wz=w') (hnm:∀ wz,Calls Tryz.prog 93 #[.string B] wz fun e w'=>e=.returned (.bool true)∧Below wz.heap.size wz w') (S K N:ByteArray) (hrk:∀ wz,Calls Tryz.prog 55 #[.string D] wz fun e w'=>e=.returned (.tuple #[.agg #[.string S, .string K, .string N], .bool true])∧Below wz.heap.size wz w') (ht:told=true) (h82:((sort:Int) != 82)=false) (hS:S.toList.isEmpty=false) :
  Calls Tryz.prog 109 #[.string s, .int .u8 sort] w fun e w'=>e=.returned (.tuple #[.agg #[.int .i64 0,tx [],tx [],tx [],tx [],tx []], .bool false])∧Below w.heap.size w w':=by
 have h0:0<w.heap.size:=cell_lt hm
 have hm':=fun o=>(World.cell?_alloc_lt w o _ h0).trans hm
 have HM:=hid hm'
 have HC:=hid hcut
 have HS:=hid hsp
 have HNUM:=hid hnum
 have HNM:=hid hnm
 have HRK:=hid hrk
 clear hnum hnm hrk
 subst ht
 clear hcut hsp hm' hm
 go_enter Tryz.func109,Tryz.ntmps109
 go_wp2_with (first|(go_at_call 55;refine(HRK.out _).mono ?_;rintro e w4 ⟨rfl,hb4⟩;obtain⟨hc5,hc6⟩:=bcell hb4;have hz4:=Nat.lt_of_lt_of_le hz3 hb4.size;have hy4:w.heap.size<w4.heap.size:=Nat.lt_of_le_of_lt (Nat.le_add_right _ 2) hz4;have HB4:=Lib.hid hb4;clear hb4)|(go_at_call 93;refine(HNM.out _).mono ?_;rintro e w3 ⟨rfl,hb3⟩;obtain⟨hc3,hc4⟩:=bcell hb3;have hz3:w.heap.size+2<w3.heap.size:=(by have:=hb3.size;simp at this;omega);have hy3:w.heap.size<w3.heap.size:=Nat.lt_of_le_of_lt (Nat.le_add_right _ 2) hz3;have HB3:=Lib.hid hb3;clear hb3)|(go_at_call 76;refine(HNUM.out _).mono ?_;rintro e w3 ⟨rfl,rfl⟩)|(go_at_call 108;refine(HS.out _ (by exact HM.out _)).mono ?_;rintro e w2 ⟨rfl,rfl⟩)|(go_at_call 68;refine(HC.out _ (by exact HM.out _)).mono ?_;rintro e w1 ⟨rfl,dk,rfl⟩))
 have D3:=hid ((show Below (w.heap.size+1) (w.alloc (.cells #[.int .i64 0,tx [],tx [],tx [],tx [],tx []] 78)) _ by repeat (first|with_reducible exact Below.refl _ _|with_reducible refine Below.drew ?_|with_reducible refine bel_drewN ?_ _|with_reducible refine Below.setCell ?_ (by first|(simp;done)|(simp;omega)|omega) _|with_reducible refine Below.alloc ?_ (by first|exact Nat.le_refl _|(simp;done)|(simp;omega)|omega) _)).trans (HB3.out.mono (by first|(simp;done)|(simp;omega)|omega)))
 have D4:=hid ((show Below (w.heap.size+1) (w.alloc (.cells #[.int .i64 0,tx [],tx [],tx [],tx [],tx []] 78)) _ by repeat (first|with_reducible exact D3.out|with_reducible refine Below.drew ?_|with_reducible refine bel_drewN ?_ _|with_reducible refine Below.setCell ?_ (by first|(simp;done)|(simp;omega)|omega) _|with_reducible refine Below.alloc ?_ (by first|exact Nat.le_refl _|(simp;done)|(simp;omega)|omega) _)).trans (HB4.out.mono (by first|(simp;done)|(simp;omega)|omega)))
 have e0:w4.cell? ⟨w.heap.size,0,none⟩=some (.int .i64 0):=(D4.out.cell (p:=⟨w.heap.size,0,none⟩) (Nat.lt_succ_self _)).trans (by simp)
 have e1:w4.cell? ⟨w.heap.size,1,none⟩=some (tx []):=(D4.out.cell (p:=⟨w.heap.size,1,none⟩) (Nat.lt_succ_self _)).trans (by simp)
 have e2:w4.cell? ⟨w.heap.size,2,none⟩=some (tx []):=(D4.out.cell (p:=⟨w.heap.size,2,none⟩) (Nat.lt_succ_self _)).trans (by simp)
 have e3:w4.cell? ⟨w.heap.size,3,none⟩=some (tx []):=(D4.out.cell (p:=⟨w.heap.size,3,none⟩) (Nat.lt_succ_self _)).trans (by simp)
 have e4:w4.cell? ⟨w.heap.size,4,none⟩=some (tx []):=(D4.out.cell (p:=⟨w.heap.size,4,none⟩) (Nat.lt_succ_self _)).trans (by simp)
 have e5:w4.cell? ⟨w.heap.size,5,none⟩=some (tx []):=(D4.out.cell (p:=⟨w.heap.size,5,none⟩) (Nat.lt_succ_self _)).trans (by simp)
 have DD:=hid (((Below.refl w.heap.size w).alloc (Nat.le_refl _) (.cells #[.int .i64 0,tx [],tx [],tx [],tx [],tx []] 78)).trans (D4.out.mono (Nat.le_succ _)))
 all_goals exact bodyPost_ret (v:=.tuple #[.agg #[.int .i64 0,tx [],tx [],tx [],tx [],tx []], .bool false]) (by simp[results,Tryz.results109,go_sem,e0,e1,e2,e3,e4,e5]) rfl ⟨rfl,by repeat (first|with_reducible exact DD.out|with_reducible refine Below.drew ?_|with_reducible refine bel_drewN ?_ _|with_reducible refine Below.setCell ?_ (by first|(simp;done)|(simp;omega)|omega) _|with_reducible refine Below.alloc ?_ (by first|exact Nat.le_refl _|(simp;done)|(simp;omega)|omega) _)⟩
set_option maxRecDepth 20000 in
set_option maxHeartbeats 1000000 in
theorem rfi_told_no (s:ByteArray) (sort:Nat) (w:World) (m:Int) (hm:w.cell? ⟨0,0,none⟩=some (.int .i64 m)) (H V:ByteArray) (told:Bool) (A B D:ByteArray)
  (hcut:∀ wz,wz.cell? ⟨0,0,none⟩=some (.int .i64 m)→Calls Tryz.prog 68 #[.string s, .string ⟨#[61]⟩] wz fun e w'=>e=.returned (.tuple #[.string H, .string V, .bool told])∧∃ k,w'=wz.drewN k)
  (hsp:∀ wz,wz.cell? ⟨0,0,none⟩=some (.int .i64 m)→Calls Tryz.prog 108 #[.string H, .string ⟨#[58]⟩] wz fun e w'=>e=.returned (.slice (some ⟨wz.heap.size,0,none⟩) 3 3)∧w'=wz.alloc (.cells #[.string A, .string B, .string D] 9))
  (h69:((sort:Int)==69)=false) (h69':((sort:Int) != 69)=true) (G:Nat) (hG:1≤G) (hnum:∀ wz,Calls Tryz.prog 76 #[.string A, .int .i64 200] wz fun e w'=>e=.returned (.tuple #[.int .i64 G, .bool true])∧wz=w') (hnm:∀ wz,Calls Tryz.prog 93 #[.string B] wz fun e w'=>e=.returned (.bool true)∧Below wz.heap.size wz w') (S K N:ByteArray) (hrk:∀ wz,Calls Tryz.prog 55 #[.string D] wz fun e w'=>e=.returned (.tuple #[.agg #[.string S, .string K, .string N], .bool true])∧Below wz.heap.size wz w') (ht:told=true) (h82:((sort:Int) != 82)=false) (hS:S.toList.isEmpty=true) (hst:∀ wz,Calls Tryz.prog 139 #[.string K, .string V] wz fun e w'=>e=.returned (.bool false)∧Below wz.heap.size wz w') :
  Calls Tryz.prog 109 #[.string s, .int .u8 sort] w fun e w'=>e=.returned (.tuple #[.agg #[.int .i64 0,tx [],tx [],tx [],tx [],tx []], .bool false])∧Below w.heap.size w w':=by
 have h0:0<w.heap.size:=cell_lt hm
 have hm':=fun o=>(World.cell?_alloc_lt w o _ h0).trans hm
 have HM:=hid hm'
 have HC:=hid hcut
 have HS:=hid hsp
 have HNUM:=hid hnum
 have HNM:=hid hnm
 have HRK:=hid hrk
 have HST:=hid hst
 clear hnum hnm hrk hst
 subst ht
 clear hcut hsp hm' hm
 go_enter Tryz.func109,Tryz.ntmps109
 go_wp2_with (first|(go_at_call 139;refine(HST.out _).mono ?_;rintro e w5 ⟨rfl,hb5⟩;obtain⟨hc7,hc8⟩:=bcell hb5;have hz5:w.heap.size+2<w5.heap.size:=(by have:=hb5.size;simp at this;omega);have hy5:w.heap.size<w5.heap.size:=Nat.lt_of_le_of_lt (Nat.le_add_right _ 2) hz5;have HB5:=Lib.hid hb5;clear hb5)|(go_at_call 55;refine(HRK.out _).mono ?_;rintro e w4 ⟨rfl,hb4⟩;obtain⟨hc5,hc6⟩:=bcell hb4;have hz4:=Nat.lt_of_lt_of_le hz3 hb4.size;have hy4:w.heap.size<w4.heap.size:=Nat.lt_of_le_of_lt (Nat.le_add_right _ 2) hz4;have HB4:=Lib.hid hb4;clear hb4)|(go_at_call 93;refine(HNM.out _).mono ?_;rintro e w3 ⟨rfl,hb3⟩;obtain⟨hc3,hc4⟩:=bcell hb3;have hz3:w.heap.size+2<w3.heap.size:=(by have:=hb3.size;simp at this;omega);have hy3:w.heap.size<w3.heap.size:=Nat.lt_of_le_of_lt (Nat.le_add_right _ 2) hz3;have HB3:=Lib.hid hb3;clear hb3)|(go_at_call 76;refine(HNUM.out _).mono ?_;rintro e w3 ⟨rfl,rfl⟩)|(go_at_call 108;refine(HS.out _ (by exact HM.out _)).mono ?_;rintro e w2 ⟨rfl,rfl⟩)|(go_at_call 68;refine(HC.out _ (by exact HM.out _)).mono ?_;rintro e w1 ⟨rfl,dk,rfl⟩))
 have D3:=hid ((show Below (w.heap.size+1) (w.alloc (.cells #[.int .i64 0,tx [],tx [],tx [],tx [],tx []] 78)) _ by repeat (first|with_reducible exact Below.refl _ _|with_reducible refine Below.drew ?_|with_reducible refine bel_drewN ?_ _|with_reducible refine Below.setCell ?_ (by first|(simp;done)|(simp;omega)|omega) _|with_reducible refine Below.alloc ?_ (by first|exact Nat.le_refl _|(simp;done)|(simp;omega)|omega) _)).trans (HB3.out.mono (by first|(simp;done)|(simp;omega)|omega)))
 have D4:=hid ((show Below (w.heap.size+1) (w.alloc (.cells #[.int .i64 0,tx [],tx [],tx [],tx [],tx []] 78)) _ by repeat (first|with_reducible exact D3.out|with_reducible refine Below.drew ?_|with_reducible refine bel_drewN ?_ _|with_reducible refine Below.setCell ?_ (by first|(simp;done)|(simp;omega)|omega) _|with_reducible refine Below.alloc ?_ (by first|exact Nat.le_refl _|(simp;done)|(simp;omega)|omega) _)).trans (HB4.out.mono (by first|(simp;done)|(simp;omega)|omega)))
 have D5:=hid ((show Below (w.heap.size+1) (w.alloc (.cells #[.int .i64 0,tx [],tx [],tx [],tx [],tx []] 78)) _ by repeat (first|with_reducible exact D4.out|with_reducible refine Below.drew ?_|with_reducible refine bel_drewN ?_ _|with_reducible refine Below.setCell ?_ (by first|(simp;done)|(simp;omega)|omega) _|with_reducible refine Below.alloc ?_ (by first|exact Nat.le_refl _|(simp;done)|(simp;omega)|omega) _)).trans (HB5.out.mono (by first|(simp;done)|(simp;omega)|omega)))
 have e0:w5.cell? ⟨w.heap.size,0,none⟩=some (.int .i64 0):=(D5.out.cell (p:=⟨w.heap.size,0,none⟩) (Nat.lt_succ_self _)).trans (by simp)
 have e1:w5.cell? ⟨w.heap.size,1,none⟩=some (tx []):=(D5.out.cell (p:=⟨w.heap.size,1,none⟩) (Nat.lt_succ_self _)).trans (by simp)
 have e2:w5.cell? ⟨w.heap.size,2,none⟩=some (tx []):=(D5.out.cell (p:=⟨w.heap.size,2,none⟩) (Nat.lt_succ_self _)).trans (by simp)
 have e3:w5.cell? ⟨w.heap.size,3,none⟩=some (tx []):=(D5.out.cell (p:=⟨w.heap.size,3,none⟩) (Nat.lt_succ_self _)).trans (by simp)
 have e4:w5.cell? ⟨w.heap.size,4,none⟩=some (tx []):=(D5.out.cell (p:=⟨w.heap.size,4,none⟩) (Nat.lt_succ_self _)).trans (by simp)
 have e5:w5.cell? ⟨w.heap.size,5,none⟩=some (tx []):=(D5.out.cell (p:=⟨w.heap.size,5,none⟩) (Nat.lt_succ_self _)).trans (by simp)
 have DD:=hid (((Below.refl w.heap.size w).alloc (Nat.le_refl _) (.cells #[.int .i64 0,tx [],tx [],tx [],tx [],tx []] 78)).trans (D5.out.mono (Nat.le_succ _)))
 all_goals exact bodyPost_ret (v:=.tuple #[.agg #[.int .i64 0,tx [],tx [],tx [],tx [],tx []], .bool false]) (by simp[results,Tryz.results109,go_sem,e0,e1,e2,e3,e4,e5]) rfl ⟨rfl,by repeat (first|with_reducible exact DD.out|with_reducible refine Below.drew ?_|with_reducible refine bel_drewN ?_ _|with_reducible refine Below.setCell ?_ (by first|(simp;done)|(simp;omega)|omega) _|with_reducible refine Below.alloc ?_ (by first|exact Nat.le_refl _|(simp;done)|(simp;omega)|omega) _)⟩
set_option maxRecDepth 20000 in
set_option maxHeartbeats 1000000 in
theorem rfi_told (s:ByteArray) (sort:Nat) (w:World) (m:Int) (hm:w.cell? ⟨0,0,none⟩=some (.int .i64 m)) (H V:ByteArray) (told:Bool) (A B D:ByteArray)
  (hcut:∀ wz,wz.cell? ⟨0,0,none⟩=some (.int .i64 m)→Calls Tryz.prog 68 #[.string s, .string ⟨#[61]⟩] wz fun e w'=>e=.returned (.tuple #[.string H, .string V, .bool told])∧∃ k,w'=wz.drewN k)
  (hsp:∀ wz,wz.cell? ⟨0,0,none⟩=some (.int .i64 m)→Calls Tryz.prog 108 #[.string H, .string ⟨#[58]⟩] wz fun e w'=>e=.returned (.slice (some ⟨wz.heap.size,0,none⟩) 3 3)∧w'=wz.alloc (.cells #[.string A, .string B, .string D] 9))
  (h69:((sort:Int)==69)=false) (h69':((sort:Int) != 69)=true) (G:Nat) (hG:1≤G) (hnum:∀ wz,Calls Tryz.prog 76 #[.string A, .int .i64 200] wz fun e w'=>e=.returned (.tuple #[.int .i64 G, .bool true])∧wz=w') (hnm:∀ wz,Calls Tryz.prog 93 #[.string B] wz fun e w'=>e=.returned (.bool true)∧Below wz.heap.size wz w') (S K N:ByteArray) (hrk:∀ wz,Calls Tryz.prog 55 #[.string D] wz fun e w'=>e=.returned (.tuple #[.agg #[.string S, .string K, .string N], .bool true])∧Below wz.heap.size wz w') (ht:told=true) (h82:((sort:Int) != 82)=false) (hS:S.toList.isEmpty=true) (hst:∀ wz,Calls Tryz.prog 139 #[.string K, .string V] wz fun e w'=>e=.returned (.bool true)∧Below wz.heap.size wz w') :
  Calls Tryz.prog 109 #[.string s, .int .u8 sort] w fun e w'=>e=.returned (.tuple #[.agg #[.int .i64 G, .string B, .string S, .string K, .string N, .string V], .bool true])∧Below w.heap.size w w':=by
 have h0:0<w.heap.size:=cell_lt hm
 have hm':=fun o=>(World.cell?_alloc_lt w o _ h0).trans hm
 have HM:=hid hm'
 have HC:=hid hcut
 have HS:=hid hsp
 have HNUM:=hid hnum
 have HNM:=hid hnm
 have HRK:=hid hrk
 have HST:=hid hst
 clear hnum hnm hrk hst
 subst ht
 clear hcut hsp hm' hm
 go_enter Tryz.func109,Tryz.ntmps109
 go_wp2_with (first|(go_at_call 139;refine(HST.out _).mono ?_;rintro e w5 ⟨rfl,hb5⟩;obtain⟨hc7,hc8⟩:=bcell hb5;have hz5:w.heap.size+2<w5.heap.size:=(by have:=hb5.size;simp at this;omega);have hy5:w.heap.size<w5.heap.size:=Nat.lt_of_le_of_lt (Nat.le_add_right _ 2) hz5;have HB5:=Lib.hid hb5;clear hb5)|(go_at_call 55;refine(HRK.out _).mono ?_;rintro e w4 ⟨rfl,hb4⟩;obtain⟨hc5,hc6⟩:=bcell hb4;have hz4:=Nat.lt_of_lt_of_le hz3 hb4.size;have hy4:w.heap.size<w4.heap.size:=Nat.lt_of_le_of_lt (Nat.le_add_right _ 2) hz4;have HB4:=Lib.hid hb4;clear hb4)|(go_at_call 93;refine(HNM.out _).mono ?_;rintro e w3 ⟨rfl,hb3⟩;obtain⟨hc3,hc4⟩:=bcell hb3;have hz3:w.heap.size+2<w3.heap.size:=(by have:=hb3.size;simp at this;omega);have hy3:w.heap.size<w3.heap.size:=Nat.lt_of_le_of_lt (Nat.le_add_right _ 2) hz3;have HB3:=Lib.hid hb3;clear hb3)|(go_at_call 76;refine(HNUM.out _).mono ?_;rintro e w3 ⟨rfl,rfl⟩)|(go_at_call 108;refine(HS.out _ (by exact HM.out _)).mono ?_;rintro e w2 ⟨rfl,rfl⟩)|(go_at_call 68;refine(HC.out _ (by exact HM.out _)).mono ?_;rintro e w1 ⟨rfl,dk,rfl⟩))
 have D3:=hid ((show Below (w.heap.size+1) (w.alloc (.cells #[.int .i64 0,tx [],tx [],tx [],tx [],tx []] 78)) _ by repeat (first|with_reducible exact Below.refl _ _|with_reducible refine Below.drew ?_|with_reducible refine bel_drewN ?_ _|with_reducible refine Below.setCell ?_ (by first|(simp;done)|(simp;omega)|omega) _|with_reducible refine Below.alloc ?_ (by first|exact Nat.le_refl _|(simp;done)|(simp;omega)|omega) _)).trans (HB3.out.mono (by first|(simp;done)|(simp;omega)|omega)))
 have D4:=hid ((show Below (w.heap.size+1) (w.alloc (.cells #[.int .i64 0,tx [],tx [],tx [],tx [],tx []] 78)) _ by repeat (first|with_reducible exact D3.out|with_reducible refine Below.drew ?_|with_reducible refine bel_drewN ?_ _|with_reducible refine Below.setCell ?_ (by first|(simp;done)|(simp;omega)|omega) _|with_reducible refine Below.alloc ?_ (by first|exact Nat.le_refl _|(simp;done)|(simp;omega)|omega) _)).trans (HB4.out.mono (by first|(simp;done)|(simp;omega)|omega)))
 have D5:=hid ((show Below (w.heap.size+1) (w.alloc (.cells #[.int .i64 0,tx [],tx [],tx [],tx [],tx []] 78)) _ by repeat (first|with_reducible exact D4.out|with_reducible refine Below.drew ?_|with_reducible refine bel_drewN ?_ _|with_reducible refine Below.setCell ?_ (by first|(simp;done)|(simp;omega)|omega) _|with_reducible refine Below.alloc ?_ (by first|exact Nat.le_refl _|(simp;done)|(simp;omega)|omega) _)).trans (HB5.out.mono (by first|(simp;done)|(simp;omega)|omega)))
 have e0:w5.cell? ⟨w.heap.size,0,none⟩=some (.int .i64 0):=(D5.out.cell (p:=⟨w.heap.size,0,none⟩) (Nat.lt_succ_self _)).trans (by simp)
 have e1:w5.cell? ⟨w.heap.size,1,none⟩=some (tx []):=(D5.out.cell (p:=⟨w.heap.size,1,none⟩) (Nat.lt_succ_self _)).trans (by simp)
 have e2:w5.cell? ⟨w.heap.size,2,none⟩=some (tx []):=(D5.out.cell (p:=⟨w.heap.size,2,none⟩) (Nat.lt_succ_self _)).trans (by simp)
 have e3:w5.cell? ⟨w.heap.size,3,none⟩=some (tx []):=(D5.out.cell (p:=⟨w.heap.size,3,none⟩) (Nat.lt_succ_self _)).trans (by simp)
 have e4:w5.cell? ⟨w.heap.size,4,none⟩=some (tx []):=(D5.out.cell (p:=⟨w.heap.size,4,none⟩) (Nat.lt_succ_self _)).trans (by simp)
 have e5:w5.cell? ⟨w.heap.size,5,none⟩=some (tx []):=(D5.out.cell (p:=⟨w.heap.size,5,none⟩) (Nat.lt_succ_self _)).trans (by simp)
 have DD:=hid (((Below.refl w.heap.size w).alloc (Nat.le_refl _) (.cells #[.int .i64 0,tx [],tx [],tx [],tx [],tx []] 78)).trans (D5.out.mono (Nat.le_succ _)))
 exact bodyPost_ret (v:=.tuple #[.agg #[.int .i64 G, .string B, .string S, .string K, .string N, .string V], .bool true]) (by simp[results,Tryz.results109,go_sem,e0,e1,e2,e3,e4,e5]) rfl ⟨rfl,by repeat (first|with_reducible exact DD.out|with_reducible refine Below.drew ?_|with_reducible refine bel_drewN ?_ _|with_reducible refine Below.setCell ?_ (by first|(simp;done)|(simp;omega)|omega) _|with_reducible refine Below.alloc ?_ (by first|exact Nat.le_refl _|(simp;done)|(simp;omega)|omega) _)⟩
set_option maxRecDepth 20000 in
set_option maxHeartbeats 1000000 in
theorem rfi_len (s:ByteArray) (sort:Nat) (w:World) (m:Int) (hm:w.cell? ⟨0,0,none⟩=some (.int .i64 m)) (H V:ByteArray) (told:Bool) (n:Nat) (cs:Array Value)
  (hcut:∀ wz,wz.cell? ⟨0,0,none⟩=some (.int .i64 m)→Calls Tryz.prog 68 #[.string s, .string ⟨#[61]⟩] wz fun e w'=>e=.returned (.tuple #[.string H, .string V, .bool told])∧∃ k,w'=wz.drewN k)
  (hsp:∀ wz,wz.cell? ⟨0,0,none⟩=some (.int .i64 m)→Calls Tryz.prog 108 #[.string H, .string ⟨#[58]⟩] wz fun e w'=>e=.returned (.slice (some ⟨wz.heap.size,0,none⟩) n n)∧w'=wz.alloc (.cells cs 9))
  (h:((sort:Int)==69)=false∧((n:Int) != 3)=true∨((sort:Int)==69)=true∧((n:Int) != 2)=true) :
  Calls Tryz.prog 109 #[.string s, .int .u8 sort] w fun e w'=>e=.returned (.tuple #[.agg #[.int .i64 0,tx [],tx [],tx [],tx [],tx []], .bool false])∧Below w.heap.size w w':=by
 have h0:0<w.heap.size:=cell_lt hm
 have hm':=fun o=>(World.cell?_alloc_lt w o _ h0).trans hm
 have HM:=hid hm'
 have HC:=hid hcut
 have HS:=hid hsp
 clear hcut hsp hm' hm
 rcases h with⟨h1,h2⟩|⟨h1,h2⟩
 all_goals
  go_enter Tryz.func109,Tryz.ntmps109
  go_wp2_with (first|(go_at_call 108;refine(HS.out _ (by exact HM.out _)).mono ?_;rintro e w2 ⟨rfl,rfl⟩)|(go_at_call 68;refine(HC.out _ (by exact HM.out _)).mono ?_;rintro e w1 ⟨rfl,dk,rfl⟩))
 all_goals exact bodyPost_ret (v:=.tuple #[.agg #[.int .i64 0,tx [],tx [],tx [],tx [],tx []], .bool false]) (by simp[results,Tryz.results109,go_sem]) rfl ⟨rfl,by repeat (first|with_reducible exact Below.refl _ _|with_reducible refine Below.drew ?_|with_reducible refine bel_drewN ?_ _|with_reducible refine Below.setCell ?_ (by first|(simp;done)|(simp;omega)|omega) _|with_reducible refine Below.alloc ?_ (by first|exact Nat.le_refl _|(simp;done)|(simp;omega)|omega) _)⟩
end Go.Proofs.YtidjpalnmnehmaaGreatDoor
