/- Packed. -/
import Derived.Test.YtidjpalnmnehmaaGreatDoorK7
set_option maxRecDepth 99999
set_option maxHeartbeats 40000000
set_option linter.all false
namespace Go.Proofs.YtidjpalnmnehmaaGreatDoor
open Go.ChangeShapes Go.WideShapes Go.ChangeAt Go.RowKit Go.Lib
theorem bN {B:Nat} {a w:World} (h:Below B a w) (n:Nat):Below B a (w.drewN n):=h.trans ⟨rfl,rfl,rfl,zaA,fun _ _=>rfl⟩
theorem qY {w:World} {b o:Nat} {v:Value} (h:w.cell? ⟨b,o,none⟩=some v):b<w.heap.size:=by
 rcases Nat.lt_or_ge b w.heap.size with h1|h1
 ·exact h1
 ·simp[World.cell?,Array.getElem?_eq_none h1] at h
def CutI (m:Int) (s H V:ByteArray) (told:Bool):Prop:=∀ wz,wz.cell? ⟨0,0,none⟩=some (.int .i64 m)->Calls Tryz.prog 68 #[.string s,.string ⟨#[61]⟩] wz fun e w'=>e=.returned (.tuple #[.string H,.string V,.bool told])/\∃ k,w'=wz.drewN k
def SplI (m:Int) (H:ByteArray) (n:Nat) (cs:Array Value):Prop:=∀ wz,wz.cell? ⟨0,0,none⟩=some (.int .i64 m)->Calls Tryz.prog 108 #[.string H,.string ⟨#[58]⟩] wz fun e w'=>e=.returned (.slice (some ⟨wz.heap.size,0,none⟩) n n)/\w'=wz.alloc (.cells cs 9)
def NumI (A:ByteArray) (q:Nat):Prop:=∀ wz,Calls Tryz.prog 76 #[.string A,.int .i64 200] wz fun e w'=>e=.returned (.tuple #[.int .i64 q,.bool true])/\wz=w'
def NamI (B:ByteArray) (b:Bool):Prop:=∀ wz,Calls Tryz.prog 93 #[.string B] wz fun e w'=>e=.returned (.bool b)/\Below wz.heap.size wz w'
def NumNo (A:ByteArray):Prop:=∀ wz,Calls Tryz.prog 76 #[.string A,.int .i64 200] wz fun e w'=>(∃ q:Int,e=.returned (.tuple #[.int .i64 q,.bool false]))/\wz=w'
def KndI (D S K N:ByteArray):Prop:=∀ wz,Calls Tryz.prog 55 #[.string D] wz fun e w'=>e=.returned (.tuple #[.agg #[.string S,.string K,.string N],.bool true])/\Below wz.heap.size wz w'
def KndNo (D:ByteArray):Prop:=∀ wz,Calls Tryz.prog 55 #[.string D] wz fun e w'=>(∃ S K N:ByteArray,e=.returned (.tuple #[.agg #[.string S,.string K,.string N],.bool false]))/\Below wz.heap.size wz w'
def StdI (K V:ByteArray) (b:Bool):Prop:=∀ wz,Calls Tryz.prog 139 #[.string K,.string V] wz fun e w'=>e=.returned (.bool b)/\Below wz.heap.size wz w'
def noV:Value:=.tuple #[.agg #[.int .i64 0,tx [],tx [],tx [],tx [],tx []],.bool false]
def RfI (s:ByteArray) (sort:Nat) (w:World) (v:Value):Prop:=Calls Tryz.prog 109 #[.string s,.int .u8 sort] w fun e w'=>e=.returned v/\Below w.heap.size w w'
abbrev w0 (w:World):World:=w.alloc (.cells #[.int .i64 0,tx [],tx [],tx [],tx [],tx []] 78)
theorem maxH {w:World} {m:Int} (hm:w.cell? ⟨0,0,none⟩=some (.int .i64 m)):Hid (∀ o,(w.alloc o).cell? ⟨0,0,none⟩=some (.int .i64 m)):=hid fun o=>(zbB w o _ (qY hm)).trans hm
theorem behind {w wa wb:World} (ha:Below (w.heap.size+1) (w0 w) wa) (hs:w.heap.size+2<wa.heap.size) (hb:Below wa.heap.size wa wb):((∀ b o,b<wa.heap.size->wb.cell? ⟨b,o,none⟩=wa.cell? ⟨b,o,none⟩)/\(∀ b o,b<wa.heap.size->wb.frozen? ⟨b,o,none⟩=wa.frozen? ⟨b,o,none⟩))/\w.heap.size+2<wb.heap.size/\w.heap.size<wb.heap.size/\Hid (Below (w.heap.size+1) (w0 w) wb)/\Hid (Below w.heap.size w wb) /\
  wb.cell? ⟨w.heap.size,0,none⟩=some (.int .i64 0)/\wb.cell? ⟨w.heap.size,1,none⟩=some (tx [])/\wb.cell? ⟨w.heap.size,2,none⟩=some (tx [])/\wb.cell? ⟨w.heap.size,3,none⟩=some (tx [])/\wb.cell? ⟨w.heap.size,4,none⟩=some (tx [])/\wb.cell? ⟨w.heap.size,5,none⟩=some (tx []):=by
 have D:=ha.trans (hb.mono (by omega));have c:=fun k=>D.cell (p:=⟨w.heap.size,k,none⟩) (zaH _);exact⟨bcell hb,by have:=hb.size;omega,by have:=hb.size;omega,hid D,hid (((zaB).alloc (zaA) _).trans (D.mono (Nat.le_succ _))),(c 0).trans (by simp),(c 1).trans (by simp),(c 2).trans (by simp),(c 3).trans (by simp),(c 4).trans (by simp),(c 5).trans (by simp)⟩
section
variable {s:ByteArray} {sort:Nat} {w:World} {m:Int} {H V:ByteArray} {told:Bool} {A B D:ByteArray} {v:Value}
theorem rfi2 (hm:w.cell? ⟨0,0,none⟩=some (.int .i64 m)) (hcut:CutI m s H V told) (hsp:SplI m H 2 #[.string A,.string B]) (h69:((sort:Int)==69)=true)
  (h:(v=noV/\NumNo A)\/∃ G:Nat,NumI A G/\((v=noV/\G<1)\/1<=G/\((v=noV/\NamI B false)\/(NamI B true/\((v=noV/\told=true/\((sort:Int) != 82)=true)\/(told=false/\v=.tuple #[.agg #[.int .i64 G,.string B,tx [],tx [],tx [],.string V],.bool true])))))):RfI s sort w v:=by
 have HM:=maxH hm;have HC:=hid hcut;have HS:=hid hsp;have h69':((sort:Int) != 69)=false:=by rw[bne,h69];rfl
 unfold RfI;clear hcut hsp hm;rcases h with⟨rfl,hnum⟩|⟨G,hnum,⟨rfl,hG⟩|⟨hG,⟨rfl,hnm⟩|⟨hnm,⟨rfl,rfl,h82⟩|⟨rfl,rfl⟩⟩⟩⟩;all_goals
  have HNUM:=hid hnum
  (try have HNM:=hid hnm)
  clear hnum
  (try clear hnm)
  go_enter Tryz.func109,Tryz.ntmps109;go_wp2_with (first|(go_at_call 93;refine(HNM.out _).mono ?_;rintro e w3 ⟨rfl,hb3⟩;obtain⟨⟨hc3,hc4⟩,hz3,hy3,D3,DD,e0,e1,e2,e3,e4,e5⟩:=behind (w:=w) (by repeat (first|with_reducible exact zaB|with_reducible refine zbE ?_|with_reducible refine bN ?_ _|with_reducible refine zbG ?_ (by simp) _)) (by simp) hb3;clear hb3)|(go_at_call 76;refine(HNUM.out _).mono ?_;(first|rintro e w3 ⟨rfl,rfl⟩|rintro e w3 ⟨⟨q0,rfl⟩,rfl⟩))|(go_at_call 108;refine(HS.out _ (by exact HM.out _)).mono ?_;rintro e w2 ⟨rfl,rfl⟩)|(go_at_call 68;refine(HC.out _ (by exact HM.out _)).mono ?_;rintro e w1 ⟨rfl,dk,rfl⟩))
  all_goals first
  | exact zbD (v:=.tuple #[.agg #[.int .i64 0,tx [],tx [],tx [],tx [],tx []],.bool false]) (by simp[results,Tryz.results109,go_sem, *]) rfl ⟨rfl,by repeat (first|with_reducible exact zaB|with_reducible exact DD.out|with_reducible refine zbE ?_|with_reducible refine bN ?_ _|with_reducible refine zbF ?_ (by first|(simp;done)|(simp;omega)) _|with_reducible refine zbG ?_ (by first|exact zaA|(simp;done)|(simp;omega)) _)⟩
  | exact zbD (v:=.tuple #[.agg #[.int .i64 G,.string B,tx [],tx [],tx [],.string V],.bool true]) (by simp[results,Tryz.results109,go_sem, *]) rfl ⟨rfl,by repeat (first|with_reducible exact DD.out|with_reducible refine zbE ?_|with_reducible refine zbF ?_ (by first|(simp;done)|(simp;omega)) _|with_reducible refine zbG ?_ (by first|exact zaA|(simp;done)|(simp;omega)) _)⟩
theorem rfi3 (hm:w.cell? ⟨0,0,none⟩=some (.int .i64 m)) (hcut:CutI m s H V told) (hsp:SplI m H 3 #[.string A,.string B,.string D]) (h69:((sort:Int)==69)=false)
  (h:(v=noV/\NumNo A)\/∃ G:Nat,NumI A G/\((v=noV/\G<1)\/1<=G/\((v=noV/\NamI B false)\/(NamI B true/\((v=noV/\KndNo D)\/∃ S K N,KndI D S K N/\((told=false/\v=.tuple #[.agg #[.int .i64 G,.string B,.string S,.string K,.string N,.string V],.bool true]) \/
   (told=true/\((v=noV/\((sort:Int) != 82)=true)\/((sort:Int) != 82)=false/\((v=noV/\S.toList.isEmpty=false)\/S.toList.isEmpty=true/\((v=noV/\StdI K V false)\/(StdI K V true/\v=.tuple #[.agg #[.int .i64 G,.string B,.string S,.string K,.string N,.string V],.bool true]))))))))))):RfI s sort w v:=by
 have HM:=maxH hm;have HC:=hid hcut;have HS:=hid hsp;have h69':((sort:Int) != 69)=true:=by rw[bne,h69];rfl
 unfold RfI;clear hcut hsp hm;rcases h with⟨rfl,hnum⟩|⟨G,hnum,⟨rfl,hG⟩|⟨hG,⟨rfl,hnm⟩|⟨hnm,⟨rfl,hrk⟩|⟨S,K,N,hrk,⟨rfl,rfl⟩|⟨rfl,⟨rfl,h82⟩|⟨h82,⟨rfl,hse⟩|⟨hse,⟨rfl,hst⟩|⟨hst,rfl⟩⟩⟩⟩⟩⟩⟩⟩;all_goals
  have HNUM:=hid hnum
  (try have HNM:=hid hnm)
  (try have HRK:=hid hrk)
  (try have HST:=hid hst)
  clear hnum
  (try clear hnm)
  (try clear hrk)
  (try clear hst)
  go_enter Tryz.func109,Tryz.ntmps109;go_wp2_with (first|(go_at_call 139;refine(HST.out _).mono ?_;rintro e w5 ⟨rfl,hb5⟩;obtain⟨⟨hc7,hc8⟩,hz5,hy5,D5,DD,f0,f1,f2,f3,f4,f5⟩:=behind (w:=w) (by have D:=D4.out;repeat (first|with_reducible exact D|with_reducible refine zbE ?_|with_reducible refine zbF ?_ (by first|(simp;done)|(simp;omega)) _)) (by simpa using hz4) hb5;clear hb5)|(go_at_call 55;refine(HRK.out _).mono ?_;(first|rintro e w4 ⟨rfl,hb4⟩|rintro e w4 ⟨⟨S0,K0,N0,rfl⟩,hb4⟩);obtain⟨⟨hc5,hc6⟩,hz4,hy4,D4,DD,g0,g1,g2,g3,g4,g5⟩:=behind (w:=w) (by have D:=D3.out;repeat (first|with_reducible exact D|with_reducible refine zbE ?_)) (by simpa using hz3) hb4;clear hb4)|(go_at_call 93;refine(HNM.out _).mono ?_;rintro e w3 ⟨rfl,hb3⟩;obtain⟨⟨hc3,hc4⟩,hz3,hy3,D3,DD,e0,e1,e2,e3,e4,e5⟩:=behind (w:=w) (by repeat (first|with_reducible exact zaB|with_reducible refine zbE ?_|with_reducible refine bN ?_ _|with_reducible refine zbG ?_ (by simp) _)) (by simp) hb3;clear hb3)|(go_at_call 76;refine(HNUM.out _).mono ?_;(first|rintro e w3 ⟨rfl,rfl⟩|rintro e w3 ⟨⟨q0,rfl⟩,rfl⟩))|(go_at_call 108;refine(HS.out _ (by exact HM.out _)).mono ?_;rintro e w2 ⟨rfl,rfl⟩)|(go_at_call 68;refine(HC.out _ (by exact HM.out _)).mono ?_;rintro e w1 ⟨rfl,dk,rfl⟩))
  all_goals first
  | exact zbD (v:=.tuple #[.agg #[.int .i64 0,tx [],tx [],tx [],tx [],tx []],.bool false]) (by simp[results,Tryz.results109,go_sem, *]) rfl ⟨rfl,by repeat (first|with_reducible exact zaB|with_reducible exact DD.out|with_reducible refine zbE ?_|with_reducible refine bN ?_ _|with_reducible refine zbF ?_ (by first|(simp;done)|(simp;omega)) _|with_reducible refine zbG ?_ (by first|exact zaA|(simp;done)|(simp;omega)) _)⟩
  | exact zbD (v:=.tuple #[.agg #[.int .i64 G,.string B,.string S,.string K,.string N,.string V],.bool true]) (by simp[results,Tryz.results109,go_sem, *]) rfl ⟨rfl,by repeat (first|with_reducible exact DD.out|with_reducible refine zbE ?_|with_reducible refine zbF ?_ (by first|(simp;done)|(simp;omega)) _|with_reducible refine zbG ?_ (by first|exact zaA|(simp;done)|(simp;omega)) _)⟩
theorem vU (n:Nat) (cs:Array Value) (hm:w.cell? ⟨0,0,none⟩=some (.int .i64 m)) (hcut:CutI m s H V told) (hsp:SplI m H n cs)
  (h:((sort:Int)==69)=false/\((n:Int) != 3)=true\/((sort:Int)==69)=true/\((n:Int) != 2)=true):RfI s sort w noV:=by
 have HM:=maxH hm;have HC:=hid hcut;have HS:=hid hsp;unfold RfI;clear hcut hsp hm;rcases h with⟨h1,h2⟩|⟨h1,h2⟩;all_goals
  go_enter Tryz.func109,Tryz.ntmps109;go_wp2_with (first|(go_at_call 108;refine(HS.out _ (by exact HM.out _)).mono ?_;rintro e w2 ⟨rfl,rfl⟩)|(go_at_call 68;refine(HC.out _ (by exact HM.out _)).mono ?_;rintro e w1 ⟨rfl,dk,rfl⟩))
  exact zbD (v:=.tuple #[.agg #[.int .i64 0,tx [],tx [],tx [],tx [],tx []],.bool false]) (by simp[results,Tryz.results109,go_sem]) rfl ⟨rfl,by repeat (first|with_reducible exact zaB|with_reducible refine zbE ?_|with_reducible refine bN ?_ _|with_reducible refine zbF ?_ (by first|(simp;done)|(simp;omega)) _|with_reducible refine zbG ?_ (by first|exact zaA|(simp;done)|(simp;omega)) _)⟩
end
