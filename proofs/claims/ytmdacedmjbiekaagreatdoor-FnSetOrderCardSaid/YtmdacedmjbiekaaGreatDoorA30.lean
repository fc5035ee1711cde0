/- Packed. -/
import Derived.Test.YtmdacedmjbiekaaGreatDoorA29
set_option maxRecDepth 99999
set_option maxHeartbeats 40000000
set_option linter.all false
namespace Go.Proofs.YtmdacedmjbiekaaGreatDoor
open Go.ChangeShapes Go.WideShapes Go.ChangeAt Go.RowKit Go.Lib
theorem qM {w wr:World} {vb db base:Nat} {a:Option Addr} {c:Nat} {l:List Wf.V} {es:List (List Value)} {m:Nat} (h:PB w wr vb base a c l es) (hm:es.length=m) (d0:w.heap.size<=db) (d1:db≠vb) (d2:db<base) {wx w4:World} (hx:Below wr.heap.size wr wx)
  (hg:wx.grownBy w4 (Value.slice a m c).ownBlock) {g cap:Nat} (ho:w4.ownsRow base 92 4 (.slice (some ⟨g,0,none⟩) (m+1) cap) (m+1) (es.flatten++[.int .u8 0,tx [],.int .i64 0,.slice none 0 0])) (hat:(Value.slice a m c).ownBlock=some g\/g=wx.heap.size)
  {y:Wf.V} {q2 g2 n2 c2 T:Nat} {T2:ByteArray} {a2:Option Addr} (hT:T<=999999) (hyv:VC w (fun _=>True) y [.int .u8 q2,.string T2,.int .i64 g2,.slice a2 n2 c2]) {bb:Nat} (hb1:wr.heap.size<=bb) (hb2:bb<wx.heap.size) (hbx:wx.heap[bb]? = some (vObj q2 T2 g2 a2 n2 c2)) (c1:wr.cell? ⟨db,0,none⟩=some (.bool false)) (f1:wr.frozen? ⟨db,0,none⟩=false) :
  (∃ a' c' cs,PB w (((((((w4.setCell ⟨g,m*4,none⟩ (.int .u8 61)).setCell ⟨g,m*4+1,none⟩ (.string ⟨#[]⟩)).setCell ⟨g,m*4+2,none⟩ (.int .i64 T)).setCell ⟨g,m*4+3,none⟩ (.slice (some ⟨bb,0,none⟩) 1 1)).setCell ⟨vb,3,none⟩ (.slice (some ⟨g,0,none⟩) (m+1) cap))).setCell ⟨db,0,none⟩ (.bool true)) vb base a' c' (l++[.mk 61 [] T [y]]) (es++[cs])/\∀ k,(Value.slice a' (m+1) c').ownBlock=some k->(Value.slice a m c).ownBlock=some k\/wr.heap.size<=k) /\
  (((((((w4.setCell ⟨g,m*4,none⟩ (.int .u8 61)).setCell ⟨g,m*4+1,none⟩ (.string ⟨#[]⟩)).setCell ⟨g,m*4+2,none⟩ (.int .i64 T)).setCell ⟨g,m*4+3,none⟩ (.slice (some ⟨bb,0,none⟩) 1 1)).setCell ⟨vb,3,none⟩ (.slice (some ⟨g,0,none⟩) (m+1) cap))).setCell ⟨db,0,none⟩ (.bool true)).cell? ⟨db,0,none⟩=some (.bool true) /\
  (((((((w4.setCell ⟨g,m*4,none⟩ (.int .u8 61)).setCell ⟨g,m*4+1,none⟩ (.string ⟨#[]⟩)).setCell ⟨g,m*4+2,none⟩ (.int .i64 T)).setCell ⟨g,m*4+3,none⟩ (.slice (some ⟨bb,0,none⟩) 1 1)).setCell ⟨vb,3,none⟩ (.slice (some ⟨g,0,none⟩) (m+1) cap))).setCell ⟨db,0,none⟩ (.bool true)).frozen? ⟨db,0,none⟩=false /\
  wr.heap.size<=(((((((w4.setCell ⟨g,m*4,none⟩ (.int .u8 61)).setCell ⟨g,m*4+1,none⟩ (.string ⟨#[]⟩)).setCell ⟨g,m*4+2,none⟩ (.int .i64 T)).setCell ⟨g,m*4+3,none⟩ (.slice (some ⟨bb,0,none⟩) 1 1)).setCell ⟨vb,3,none⟩ (.slice (some ⟨g,0,none⟩) (m+1) cap))).setCell ⟨db,0,none⟩ (.bool true)).heap.size /\
  ∀ k,k<wr.heap.size->some k≠(Value.slice a m c).ownBlock->k≠vb->k≠db->(((((((w4.setCell ⟨g,m*4,none⟩ (.int .u8 61)).setCell ⟨g,m*4+1,none⟩ (.string ⟨#[]⟩)).setCell ⟨g,m*4+2,none⟩ (.int .i64 T)).setCell ⟨g,m*4+3,none⟩ (.slice (some ⟨bb,0,none⟩) 1 1)).setCell ⟨vb,3,none⟩ (.slice (some ⟨g,0,none⟩) (m+1) cap))).setCell ⟨db,0,none⟩ (.bool true)).heap[k]? = wr.heap[k]?:=by
 have hown:∀ z,(Value.slice a m c).ownBlock=some z->base<=z/\z<wr.heap.size:=fun z hz=>aL (by rw[<-hm] at hz;exact h.own) z (by rw[<-hm] at hz;exact hz);have hgb:=(aL ho g rfl).1;have hsz:=h.sz;have hvw:=h.vw;have hvl:=h.vlt;have hxs:=hx.size;have hbg:bb≠g:=by
  rcases hat with e|e
  ·have:=(hown g e).2;omega
  ·omega
 have hb4:Below base wr w4:=(hx.mono hsz).trans (aU hg (fun z hz=>(hown z hz).1) (Nat.le_trans hsz hxs));have hbb4:w4.heap[bb]? = some (vObj q2 T2 g2 a2 n2 c2):=(hg.block bb hb2 (fun e=>by have:=(hown bb e.symm).2;omega)).trans hbx;have hbl:bb<w4.heap.size:=Nat.lt_of_lt_of_le hb2 hg.size;have hvc:VC w4 (fun b=>b<w.heap.size\/(base<=b/\b≠g)) (.mk 61 [] T [y]) [.int .u8 61,.string ⟨#[]⟩,.int .i64 T,.slice (some ⟨bb,0,none⟩) 1 1]:=by
  refine VC.one (VC.keep (fun b _ hlt=>⟨.inl hlt,?_⟩) (Nat.le_trans h.fr.size hb4.size) _ _ hyv) (.inr ⟨Nat.le_trans hsz hb1,hbg⟩) hbl ?_ 61 [] T ⟨hT,fun _=>.inr (.inr (.inl rfl)),fun _=>rfl⟩
  ·exact(hb4.block b (by omega)).trans (h.fr.block b hlt)
  ·intro j u hu
   rw[Nat.zero_add];simp only[World.cell?,hbb4];simpa using hu
 have hp:=h.zput hm d0 d1 d2 hx hg ho hat (Below.refl _ _) hvc;have hcd:(((((w4.setCell ⟨g,m*4,none⟩ (.int .u8 61)).setCell ⟨g,m*4+1,none⟩ (.string ⟨#[]⟩)).setCell ⟨g,m*4+2,none⟩ (.int .i64 T)).setCell ⟨g,m*4+3,none⟩ (.slice (some ⟨bb,0,none⟩) 1 1)).setCell ⟨vb,3,none⟩ (.slice (some ⟨g,0,none⟩) (m+1) cap)).heap[db]? = wr.heap[db]?:=by
  rw[Below.heap_setCell _ ⟨vb,3,none⟩ _ db d1,(jR w4 g (m*4) _ _ _ _).1.block db (by have:=hb4.size;omega) (by omega)];exact hb4.block db d2
 refine⟨⟨_,_,_,hp.step (aA.set db _ 0 _) d0 d1 d2,fun k hk=>by
  have hk2:g=k:=Option.some.inj hk;subst hk2;rcases hat with e|e
  ·exact .inl e
  ·exact .inr (by omega)⟩,World.cell?_setCell_same _ _ _ ((World.cell?_of_block (w:=wr) (a:=⟨db,0,none⟩) hcd).trans c1),?_,by simpa using hb4.size,fun k h1 h0 h2 h3=>?_⟩
 ·have:=(World.frozen?_of_block (w:=wr) (a:=⟨db,0,none⟩) hcd).trans f1
  simpa using this
 ·have hkg:k≠g:=by
   rcases hat with e|e
   ·exact fun e2=>h0 (by rw[e2];exact e.symm)
   ·omega
  rw[Below.heap_setCell _ ⟨db,0,none⟩ _ k h3,Below.heap_setCell _ ⟨vb,3,none⟩ _ k h2,(jR w4 g (m*4) _ _ _ _).1.block k (by have:=hb4.size;omega) hkg];exact(hg.block k (Nat.lt_of_lt_of_le h1 hxs) h0).trans (hx.block k h1)
section
variable (tb db vb fx xb:Nat) (wr:World)
theorem wX (w:World) {base:Nat} {a:Option Addr} {c:Nat} {l:List Wf.V} {es:List (List Value)} {m:Nat} (y:Wf.V) (q2 g2 n2 c2:Nat) (T2:ByteArray) (a2:Option Addr) (T fb o:Nat) (HP:PB w wr vb base a c l es) (hm:es.length=m) (hm1:m<=1000) (hd0:w.heap.size<=db) (hd1:db≠vb) (hd2:db<base)
  (c0:wr.cell? ⟨tb,0,none⟩=some (.bool true)) (c1:wr.cell? ⟨db,0,none⟩=some (.bool false)) (f1:wr.frozen? ⟨db,0,none⟩=false) (ht:tb<base) (cf:wr.cell? ⟨fx,0,none⟩=some (.pointer (some ⟨fb,o,none⟩))) (hfx:fx<base) (cT:wr.cell? ⟨fb,o,none⟩=some (.int .i64 T)) (hfb:fb<base)
  (x0:wr.cell? ⟨xb,0,none⟩=some (.int .u8 q2)) (x1:wr.cell? ⟨xb,1,none⟩=some (.string T2)) (x2:wr.cell? ⟨xb,2,none⟩=some (.int .i64 g2)) (x3:wr.cell? ⟨xb,3,none⟩=some (.slice a2 n2 c2)) (hxb:xb<base) (nv1:fx≠vb) (nv2:fb≠vb) (nv3:xb≠vb) (hyv:VC w (fun _=>True) y [.int .u8 q2,.string T2,.int .i64 g2,.slice a2 n2 c2]) (hT:T<=999999) :
  Calls Tryz.prog 99 #[ptr tb,ptr db,ptr vb,ptr fx,ptr xb] wr fun e w'=>e=.returned (.tuple #[])/\(∃ a' c' cs,PB w w' vb base a' c' (l++[.mk 61 [] T [y]]) (es++[cs])/\∀ k,(Value.slice a' (m+1) c').ownBlock=some k->(Value.slice a m c).ownBlock=some k\/wr.heap.size<=k)/\w'.cell? ⟨db,0,none⟩=some (.bool true)/\w'.frozen? ⟨db,0,none⟩=false/\wr.heap.size<=w'.heap.size/\∀ k,k<wr.heap.size->some k≠(Value.slice a m c).ownBlock->k≠vb->k≠db->w'.heap[k]? = wr.heap[k]?:=by
 have hb:=HP.sz;have hvl:=HP.vlt;have v3:=HP.v3;have vf:=HP.f3;rw[hm] at v3;have HOWN:=hid (show wr.ownsRow base 92 4 (.slice a m c) m es.flatten by rw[<-hm];exact HP.own);have HFL:=hid (nS HP.he hm);have HPP:=hid HP;have HM:=hid hm;have HYV:=hid hyv;have NZ1:=hid (show((wr.alloc (vObj q2 T2 g2 a2 n2 c2)).alloc zObj).heap[wr.heap.size+1]? = some zObj by
  have h:=heap_alloc_last (wr.alloc (vObj q2 T2 g2 a2 n2 c2)) zObj;rwa[show(wr.alloc (vObj q2 T2 g2 a2 n2 c2)).heap.size=wr.heap.size+1 by simp] at h)
 have NZ2:=hid (show((wr.alloc zObj).alloc (vObj q2 T2 g2 a2 n2 c2)).heap[wr.heap.size]? = some zObj by
  rw[Below.heap_alloc _ _ _ (by simp)];exact heap_alloc_last wr _)
 have BX1:=hid (show((wr.alloc (vObj q2 T2 g2 a2 n2 c2)).alloc zObj).heap[wr.heap.size]? = some (vObj q2 T2 g2 a2 n2 c2) by
  rw[Below.heap_alloc _ _ _ (by simp)];exact heap_alloc_last wr _)
 have BX2:=hid (show((wr.alloc zObj).alloc (vObj q2 T2 g2 a2 n2 c2)).heap[wr.heap.size+1]? = some (vObj q2 T2 g2 a2 n2 c2) by
  have h:=heap_alloc_last (wr.alloc zObj) (vObj q2 T2 g2 a2 n2 c2);rwa[show(wr.alloc zObj).heap.size=wr.heap.size+1 by simp] at h)
 have htl:tb<wr.heap.size:=by omega
 have hdl:db<wr.heap.size:=by omega
 have hvbl:vb<wr.heap.size:=by omega
 have hfl:fb<wr.heap.size:=by omega
 have hfxl:fx<wr.heap.size:=by omega
 have hxl:xb<wr.heap.size:=by omega
 clear HP hm hyv;go_enter Tryz.func99,Tryz.ntmps99;go_upto_region 1 with fail
 have hi0:(0:Int)<=(m:Int):=by omega
 have hi1:(m:Int)<(m:Int)+1:=by omega
 have vn1:=nv1.symm;have vn2:=nv2.symm;have vn3:=nv3.symm;refine wp_region_held_drew (S:=(fun w'=>w'.cell? ⟨fx,0,none⟩=some (.pointer (some ⟨fb,o,none⟩))/\w'.cell? ⟨fb,o,none⟩=some (.int .i64 T)/\w'.cell? ⟨xb,0,none⟩=some (.int .u8 q2)/\w'.cell? ⟨xb,1,none⟩=some (.string T2)/\w'.cell? ⟨xb,2,none⟩=some (.int .i64 g2)/\w'.cell? ⟨xb,3,none⟩=some (.slice a2 n2 c2))) (by kernel_rfl) ?_ (fun hHeld=>?_)
 ·go_keep
 refine wpAnyH_take (i:=0) (v:=?_) rfl (by kernel_rfl) (by kernel_rfl) (by kernel_rfl) (fun _ _ _ h=>h) (Or.inl ⟨by rfl,?_⟩) (by assumption) ?_;rotate_left;(· ((intro w hSw;(try dsimp only at hSw);go_simp) <;> with_reducible rfl));(try simp only[Act.put,List.setIfInBounds_toArray,List.set_cons_zero,List.set_cons_succ]);refine wpAnyH_take (i:=2) (v:=?_) rfl (by kernel_rfl) (by kernel_rfl) (by kernel_rfl) (fun _ _ _ h=>h) (Or.inl ⟨by rfl,?_⟩) (by assumption) ?_;rotate_left;(· ((intro w hSw;(try dsimp only at hSw);go_simp) <;> with_reducible rfl));(try simp only[Act.put,List.setIfInBounds_toArray,List.set_cons_zero,List.set_cons_succ]);refine wpAnyH_take (i:=3) (v:=?_) rfl (by kernel_rfl) (by kernel_rfl) (by kernel_rfl) (fun _ _ _ h=>h) (Or.inl ⟨by rfl,?_⟩) (by assumption) ?_;rotate_left;(· ((intro w hSw;(try dsimp only at hSw);go_simp) <;> with_reducible rfl));(try simp only[Act.put,List.setIfInBounds_toArray,List.set_cons_zero,List.set_cons_succ]);refine wpAnyH_take (i:=4) (v:=?_) rfl (by kernel_rfl) (by kernel_rfl) (by kernel_rfl) (fun _ _ _ h=>h) (Or.inl ⟨by rfl,?_⟩) (by assumption) ?_;rotate_left;(· ((intro w hSw;(try dsimp only at hSw);go_simp) <;> with_reducible rfl));(try simp only[Act.put,List.setIfInBounds_toArray,List.set_cons_zero,List.set_cons_succ]);refine wpAnyH_take (i:=5) (v:=?_) rfl (by kernel_rfl) (by kernel_rfl) (by kernel_rfl) (fun _ _ _ h=>h) (Or.inl ⟨by rfl,?_⟩) (by assumption) ?_;rotate_left;(· ((intro w hSw;(try dsimp only at hSw);go_simp) <;> with_reducible rfl));(try simp only[Act.put,List.setIfInBounds_toArray,List.set_cons_zero,List.set_cons_succ]);refine wpAnyH_take (i:=6) (v:=?_) rfl (by kernel_rfl) (by kernel_rfl) (by kernel_rfl) (fun _ _ _ h=>h) (Or.inl ⟨by rfl,?_⟩) (by assumption) ?_;rotate_left;(· ((intro w hSw;(try dsimp only at hSw);go_simp) <;> with_reducible rfl));(try simp only[Act.put,List.setIfInBounds_toArray,List.set_cons_zero,List.set_cons_succ]);refine wpAnyH_ready (rs:=[1,7,10]) (by kernel_rfl) (by simp) ?_;refine AllReadyH.cons rfl (fun K hK => ?sx) (AllReadyH.cons rfl (fun K hK => ?sy) (AllReadyH.cons rfl (fun K hK => ?sz) AllReadyH.nil))
 case' sx =>
  go_simp
  refine hK.out _ _ ?_ (fun hH2=>?_);(· ((try dsimp only) <;> go_keep));clear hK K hHeld;have hHeld:=hH2;clear hH2;refine wpAnyH_take (i:=9) (v:=?_) rfl (by kernel_rfl) (by kernel_rfl) (by kernel_rfl) (fun _ _ _ h=>h) (Or.inl ⟨by rfl,?_⟩) (by assumption) ?_;rotate_left;(· ((intro w hSw;(try dsimp only at hSw);go_simp) <;> with_reducible rfl));(try simp only[Act.put,List.setIfInBounds_toArray,List.set_cons_zero,List.set_cons_succ]);refine wpAnyH_ready (rs:=[7,10]) (by kernel_rfl) (by simp) ?_;refine AllReadyH.cons rfl (fun K hK => ?sxy) (AllReadyH.cons rfl (fun K hK => ?sxz) AllReadyH.nil)
  case' sxy =>
   go_simp
   refine hK.out _ _ ?_ (fun hH2=>?_);(· ((try dsimp only) <;> go_keep));clear hK K hHeld;have hHeld:=hH2;clear hH2;refine wpAnyH_take (i:=8) (v:=?_) rfl (by kernel_rfl) (by kernel_rfl) (by kernel_rfl) (fun _ _ _ h=>h) (Or.inl ⟨by rfl,?_⟩) (by assumption) ?_;rotate_left;(· ((intro w hSw;(try dsimp only at hSw);go_simp) <;> with_reducible rfl));(try simp only[Act.put,List.setIfInBounds_toArray,List.set_cons_zero,List.set_cons_succ]);refine wpAnyH_ready (rs:=[10]) (by kernel_rfl) (by simp) ?_;refine AllReadyH.cons rfl (fun K hK => ?sxyz) AllReadyH.nil
   case' sxyz =>
    go_simp
    refine hK.out _ _ ?_ (fun hH2=>?_);(· ((try dsimp only) <;> go_keep));clear hK K hHeld;have hHeld:=hH2;clear hH2
  case' sxz =>
   go_simp
   refine hK.out _ _ ?_ (fun hH2=>?_);(· ((try dsimp only) <;> go_keep));clear hK K hHeld;have hHeld:=hH2;clear hH2;refine wpAnyH_ready (rs:=[7]) (by kernel_rfl) (by simp) ?_;refine AllReadyH.cons rfl (fun K hK => ?sxzy) AllReadyH.nil
   case' sxzy =>
    go_simp
    refine hK.out _ _ ?_ (fun hH2=>?_);(· ((try dsimp only) <;> go_keep));clear hK K hHeld;have hHeld:=hH2;clear hH2;refine wpAnyH_take (i:=8) (v:=?_) rfl (by kernel_rfl) (by kernel_rfl) (by kernel_rfl) (fun _ _ _ h=>h) (Or.inl ⟨by rfl,?_⟩) (by assumption) ?_;rotate_left;(· ((intro w hSw;(try dsimp only at hSw);go_simp) <;> with_reducible rfl));(try simp only[Act.put,List.setIfInBounds_toArray,List.set_cons_zero,List.set_cons_succ])
 case' sy =>
  go_simp
  refine hK.out _ _ ?_ (fun hH2=>?_);(· ((try dsimp only) <;> go_keep));clear hK K hHeld;have hHeld:=hH2;clear hH2;refine wpAnyH_take (i:=8) (v:=?_) rfl (by kernel_rfl) (by kernel_rfl) (by kernel_rfl) (fun _ _ _ h=>h) (Or.inl ⟨by rfl,?_⟩) (by assumption) ?_;rotate_left;(· ((intro w hSw;(try dsimp only at hSw);go_simp) <;> with_reducible rfl));(try simp only[Act.put,List.setIfInBounds_toArray,List.set_cons_zero,List.set_cons_succ]);refine wpAnyH_ready (rs:=[1,10]) (by kernel_rfl) (by simp) ?_;refine AllReadyH.cons rfl (fun K hK => ?syx) (AllReadyH.cons rfl (fun K hK => ?syz) AllReadyH.nil)
  case' syx =>
   go_simp
   refine hK.out _ _ ?_ (fun hH2=>?_);(· ((try dsimp only) <;> go_keep));clear hK K hHeld;have hHeld:=hH2;clear hH2;refine wpAnyH_take (i:=9) (v:=?_) rfl (by kernel_rfl) (by kernel_rfl) (by kernel_rfl) (fun _ _ _ h=>h) (Or.inl ⟨by rfl,?_⟩) (by assumption) ?_;rotate_left;(· ((intro w hSw;(try dsimp only at hSw);go_simp) <;> with_reducible rfl));(try simp only[Act.put,List.setIfInBounds_toArray,List.set_cons_zero,List.set_cons_succ]);refine wpAnyH_ready (rs:=[10]) (by kernel_rfl) (by simp) ?_;refine AllReadyH.cons rfl (fun K hK => ?syxz) AllReadyH.nil
   case' syxz =>
    go_simp
    refine hK.out _ _ ?_ (fun hH2=>?_);(· ((try dsimp only) <;> go_keep));clear hK K hHeld;have hHeld:=hH2;clear hH2
  case' syz =>
   go_simp
   refine hK.out _ _ ?_ (fun hH2=>?_);(· ((try dsimp only) <;> go_keep));clear hK K hHeld;have hHeld:=hH2;clear hH2;refine wpAnyH_ready (rs:=[1]) (by kernel_rfl) (by simp) ?_;refine AllReadyH.cons rfl (fun K hK => ?syzx) AllReadyH.nil
   case' syzx =>
    go_simp
    refine hK.out _ _ ?_ (fun hH2=>?_);(· ((try dsimp only) <;> go_keep));clear hK K hHeld;have hHeld:=hH2;clear hH2;refine wpAnyH_take (i:=9) (v:=?_) rfl (by kernel_rfl) (by kernel_rfl) (by kernel_rfl) (fun _ _ _ h=>h) (Or.inl ⟨by rfl,?_⟩) (by assumption) ?_;rotate_left;(· ((intro w hSw;(try dsimp only at hSw);go_simp) <;> with_reducible rfl));(try simp only[Act.put,List.setIfInBounds_toArray,List.set_cons_zero,List.set_cons_succ])
 case' sz =>
  go_simp
  refine hK.out _ _ ?_ (fun hH2=>?_);(· ((try dsimp only) <;> go_keep));clear hK K hHeld;have hHeld:=hH2;clear hH2;refine wpAnyH_ready (rs:=[1,7]) (by kernel_rfl) (by simp) ?_;refine AllReadyH.cons rfl (fun K hK => ?szx) (AllReadyH.cons rfl (fun K hK => ?szy) AllReadyH.nil)
  case' szx =>
   go_simp
   refine hK.out _ _ ?_ (fun hH2=>?_);(· ((try dsimp only) <;> go_keep));clear hK K hHeld;have hHeld:=hH2;clear hH2;refine wpAnyH_take (i:=9) (v:=?_) rfl (by kernel_rfl) (by kernel_rfl) (by kernel_rfl) (fun _ _ _ h=>h) (Or.inl ⟨by rfl,?_⟩) (by assumption) ?_;rotate_left;(· ((intro w hSw;(try dsimp only at hSw);go_simp) <;> with_reducible rfl));(try simp only[Act.put,List.setIfInBounds_toArray,List.set_cons_zero,List.set_cons_succ]);refine wpAnyH_ready (rs:=[7]) (by kernel_rfl) (by simp) ?_;refine AllReadyH.cons rfl (fun K hK => ?szxy) AllReadyH.nil
   case' szxy =>
    go_simp
    refine hK.out _ _ ?_ (fun hH2=>?_);(· ((try dsimp only) <;> go_keep));clear hK K hHeld;have hHeld:=hH2;clear hH2;refine wpAnyH_take (i:=8) (v:=?_) rfl (by kernel_rfl) (by kernel_rfl) (by kernel_rfl) (fun _ _ _ h=>h) (Or.inl ⟨by rfl,?_⟩) (by assumption) ?_;rotate_left;(· ((intro w hSw;(try dsimp only at hSw);go_simp) <;> with_reducible rfl));(try simp only[Act.put,List.setIfInBounds_toArray,List.set_cons_zero,List.set_cons_succ])
  case' szy =>
   go_simp
   refine hK.out _ _ ?_ (fun hH2=>?_);(· ((try dsimp only) <;> go_keep));clear hK K hHeld;have hHeld:=hH2;clear hH2;refine wpAnyH_take (i:=8) (v:=?_) rfl (by kernel_rfl) (by kernel_rfl) (by kernel_rfl) (fun _ _ _ h=>h) (Or.inl ⟨by rfl,?_⟩) (by assumption) ?_;rotate_left;(· ((intro w hSw;(try dsimp only at hSw);go_simp) <;> with_reducible rfl));(try simp only[Act.put,List.setIfInBounds_toArray,List.set_cons_zero,List.set_cons_succ]);refine wpAnyH_ready (rs:=[1]) (by kernel_rfl) (by simp) ?_;refine AllReadyH.cons rfl (fun K hK => ?szyx) AllReadyH.nil
   case' szyx =>
    go_simp
    refine hK.out _ _ ?_ (fun hH2=>?_);(· ((try dsimp only) <;> go_keep));clear hK K hHeld;have hHeld:=hH2;clear hH2;refine wpAnyH_take (i:=9) (v:=?_) rfl (by kernel_rfl) (by kernel_rfl) (by kernel_rfl) (fun _ _ _ h=>h) (Or.inl ⟨by rfl,?_⟩) (by assumption) ?_;rotate_left;(· ((intro w hSw;(try dsimp only at hSw);go_simp) <;> with_reducible rfl));(try simp only[Act.put,List.setIfInBounds_toArray,List.set_cons_zero,List.set_cons_succ])
 all_goals
  refine wpAnyH_ready (rs:=[11]) (by kernel_rfl) (by simp) ?_;refine AllReadyH.cons rfl (fun K hK=>?_) AllReadyH.nil;refine tD (.tmp 11) (.tmp 20) rfl rfl hb HOWN.out hm1 HFL.out (by repeat (first|with_reducible exact Below.refl _ _|with_reducible refine Below.drew ?_|with_reducible refine Below.alloc ?_ (by simp) _)) (by first|exact NZ1.out|exact NZ2.out) (by simp[Act.eval,Act.put]) (by simp[Act.eval,Act.put]) ?_;intro g cap w4 hown4 hgrow4 hat4 hr hrf b4 hgb hgl;obtain⟨r0,r1,r2,r3⟩:=hr;have rf0:=hrf (m*4);have rf1:=hrf (m*4+1);have rf2:=hrf (m*4+2);have rf3:=hrf (m*4+3);have B4:=hid b4;have y3:=(B4.out.cell (p:=⟨vb,3,none⟩) hvl).trans v3;have z1:=(B4.out.cell (p:=⟨db,0,none⟩) hd2).trans c1;have k0:=(B4.out.cell (p:=⟨fx,0,none⟩) hfx).trans cf;have k1:=(B4.out.cell (p:=⟨fb,o,none⟩) hfb).trans cT;have k2:=(B4.out.cell (p:=⟨xb,0,none⟩) hxb).trans x0;have k3:=(B4.out.cell (p:=⟨xb,1,none⟩) hxb).trans x1;have k4:=(B4.out.cell (p:=⟨xb,2,none⟩) hxb).trans x2;have k5:=(B4.out.cell (p:=⟨xb,3,none⟩) hxb).trans x3;have yf:=(B4.out.frozen (p:=⟨vb,3,none⟩) hvl).trans vf;have zf:=(B4.out.frozen (p:=⟨db,0,none⟩) hd2).trans f1;have hgv:g≠vb:=(by omega);have hgd:g≠db:=(by omega);have ng1:g≠fx:=(by omega);have ng2:g≠fb:=(by omega);have ng3:g≠xb:=(by omega);have HOWN4:=hid hown4;have HG4:=hid hgrow4;have HAT4:=hid hat4;clear hown4 hgrow4 hat4 hrf b4 v3 vf cf cT x0 x1 x2 x3;refine hK.out _ _ ?_ (fun hH2=>?_);(· ((try dsimp only) <;> (first|with_reducible exact⟨k0,k1,k2,k3,k4,k5⟩|go_keep)));clear hK K hHeld;have hHeld:=hH2;clear hH2;refine wpAnyH_take (i:=12) (v:=?_) rfl (by kernel_rfl) (by kernel_rfl) (by kernel_rfl) (fun _ _ _ h=>h) (Or.inl ⟨by rfl,?_⟩) (by assumption) ?_;rotate_left;(· ((intro w hSw;(try dsimp only at hSw);go_simp) <;> with_reducible rfl));(try simp only[Act.put,List.setIfInBounds_toArray,List.set_cons_zero,List.set_cons_succ]);refine wpAnyH_take (i:=14) (v:=?_) rfl (by kernel_rfl) (by kernel_rfl) (by kernel_rfl) (fun _ _ _ h=>h) (Or.inl ⟨by rfl,?_⟩) (by assumption) ?_;rotate_left;(· ((intro w hSw;(try dsimp only at hSw);go_simp) <;> with_reducible rfl));(try simp only[Act.put,List.setIfInBounds_toArray,List.set_cons_zero,List.set_cons_succ]);refine wpAnyH_ready (rs:=[13,15]) (by kernel_rfl) (by simp) ?_;refine AllReadyH.cons rfl (fun K hK=>?_) (AllReadyH.cons rfl (fun K hK=>?_) AllReadyH.nil);all_goals go_simp
  all_goals (refine hK.out _ _ ?_ (fun hH2=>?_);(· ((try dsimp only) <;> go_keep));clear hK K hHeld;have hHeld:=hH2;clear hH2)
  all_goals first|refine wpAnyH_ready (rs:=[15]) (by decide +kernel) (by simp) ?_|refine wpAnyH_ready (rs:=[13]) (by decide +kernel) (by simp) ?_
  all_goals refine AllReadyH.cons rfl (fun K hK=>?_) AllReadyH.nil
  all_goals go_simp
  all_goals (refine hK.out _ _ ?_ (fun hH2=>?_);(· ((try dsimp only) <;> go_keep));clear hK K hHeld;have hHeld:=hH2;clear hH2)
  all_goals refine wpAnyH_done (by kernel_rfl) ?_ _
 all_goals go_wp2_with fail
 all_goals go_end0
 all_goals have hvg:vb≠g:=by omega
 all_goals try rw[fI _ vb 3 g _ _ _ (Or.inl hvg),fI _ vb 3 g _ _ _ (Or.inl hvg),fI _ vb 3 g _ _ _ (Or.inl hvg),fI _ vb 3 g _ _ _ (Or.inl hvg)]
 all_goals refine⟨rfl,?_⟩
 all_goals first
  | (have hc:=qM (bb:=wr.heap.size) HPP.out HM.out hd0 hd1 hd2 (by repeat (first|with_reducible exact Below.refl _ _|with_reducible refine Below.drew ?_|with_reducible refine Below.alloc ?_ (by simp) _)) HG4.out HOWN4.out HAT4.out hT HYV.out (Nat.le_refl _) (by simp <;> omega) BX1.out c1 f1;with_reducible exact hc)
  | (have hc:=qM (bb:=wr.heap.size+1) HPP.out HM.out hd0 hd1 hd2 (by repeat (first|with_reducible exact Below.refl _ _|with_reducible refine Below.drew ?_|with_reducible refine Below.alloc ?_ (by simp) _)) HG4.out HOWN4.out HAT4.out hT HYV.out (Nat.le_succ _) (by simp <;> omega) BX2.out c1 f1;with_reducible exact hc)
end
structure PS (w W0 wr:World) (vb db base:Nat) (dn:Bool) (l:List Wf.V):Prop where
 pb:∃ a c es,PB w wr vb base a c l es
 cd:wr.cell? ⟨db,0,none⟩=some (.bool dn)
 fd:wr.frozen? ⟨db,0,none⟩=false
 keep:∀ k,k<base->k≠vb->k≠db->wr.heap[k]? = W0.heap[k]?
 d0:w.heap.size<=db
 d1:db≠vb
 d2:db<base
section
variable {w W0 wr:World} {vb db base:Nat} {dn:Bool} {l:List Wf.V}
theorem PS.sz (h:PS w W0 wr vb db base dn l):base<=wr.heap.size:=by obtain⟨a,c,es,hp⟩:=h.pb;exact hp.sz
theorem PS.fr (h:PS w W0 wr vb db base dn l):Below w.heap.size w wr:=by obtain⟨a,c,es,hp⟩:=h.pb;exact hp.fr
theorem PS.cell (h:PS w W0 wr vb db base dn l) {p:Addr} (h1:p.block<base) (h2:p.block≠vb) (h3:p.block≠db):wr.cell? p=W0.cell? p:=World.cell?_of_block (w:=W0) (h.keep p.block h1 h2 h3)
theorem PS.step (h:PS w W0 wr vb db base dn l) {w2:World} (hx:Below wr.heap.size wr w2):PS w W0 w2 vb db base dn l:=by
 have hz:=h.sz;have hd:=h.d2;obtain⟨a,c,es,hp⟩:=h.pb;have hdb:db<wr.heap.size:=by omega
 exact⟨⟨a,c,es,hp.step (aA.aI hx (Nat.le_refl _)) h.d0 h.d1 h.d2⟩,(hx.cell (p:=⟨db,0,none⟩) hdb).trans h.cd,(hx.frozen (p:=⟨db,0,none⟩) hdb).trans h.fd,fun k h1 h2 h3=>(hx.block k (by omega)).trans (h.keep k h1 h2 h3),h.d0,h.d1,h.d2⟩
theorem PS.told (h:PS w W0 wr vb db base dn l):PS w W0 (wr.setCell ⟨db,0,none⟩ (.bool true)) vb db base true l:=by
 obtain⟨a,c,es,hp⟩:=h.pb;exact⟨⟨a,c,es,hp.step (aA.set db wr 0 _) h.d0 h.d1 h.d2⟩,World.cell?_setCell_same wr _ _ h.cd,by simpa using h.fd,fun k h1 h2 h3=>(Below.heap_setCell wr ⟨db,0,none⟩ _ k h3).trans (h.keep k h1 h2 h3),h.d0,h.d1,h.d2⟩
end
theorem add (w W0 wr w2:World) {vb db base:Nat} {dn:Bool} {l:List Wf.V} (tb fx xb:Nat) (told:Bool) (y:Wf.V) (q2 g2 n2 c2:Nat) (T2:ByteArray) (a2:Option Addr) (T fb o:Nat) (h0:PS w W0 wr vb db base dn l) (hw:Below wr.heap.size wr w2) (hl:l.length<=1000)
  (c0:W0.cell? ⟨tb,0,none⟩=some (.bool told)) (ht:tb<base) (t1:tb≠vb) (t2:tb≠db) (cf:W0.cell? ⟨fx,0,none⟩=some (.pointer (some ⟨fb,o,none⟩))) (hfx:fx<base) (n1:fx≠vb) (n2':fx≠db) (cT:W0.cell? ⟨fb,o,none⟩=some (.int .i64 T)) (hfb:fb<base) (n3:fb≠vb) (n4:fb≠db)
  (x0:W0.cell? ⟨xb,0,none⟩=some (.int .u8 q2)) (x1:W0.cell? ⟨xb,1,none⟩=some (.string T2)) (x2:W0.cell? ⟨xb,2,none⟩=some (.int .i64 g2)) (x3:W0.cell? ⟨xb,3,none⟩=some (.slice a2 n2 c2)) (hxb:xb<base) (n5:xb≠vb) (n6:xb≠db) (hyv:VC w (fun _=>True) y [.int .u8 q2,.string T2,.int .i64 g2,.slice a2 n2 c2]) (hT:T<=999999) :
  Calls Tryz.prog 99 #[ptr tb,ptr db,ptr vb,ptr fx,ptr xb] w2 fun e w'=>e=.returned (.tuple #[])/\PS w W0 w' vb db base true (l++if (told && !dn)=true then [.mk 61 [] T [y]] else [])/\w2.heap.size<=w'.heap.size/\(∀ k,wr.heap.size<=k->k<w2.heap.size->w'.heap[k]? = w2.heap[k]?)/\∃ a c es,PB w w' vb base a c (l++if (told && !dn)=true then [.mk 61 [] T [y]] else []) es/\∀ k,(Value.slice a es.length c).ownBlock=some k->k<wr.heap.size\/w2.heap.size<=k:=by
 have h:=h0.step hw;have hz:=h.sz;have hz0:=h0.sz;have hd2:=h.d2;have k0:=(h.cell (p:=⟨tb,0,none⟩) ht t1 t2).trans c0;obtain⟨a,c,es,hp0⟩:=h0.pb;by_cases hn:(told && !dn)=true
 ·rw[if_pos hn]
  have hp:=hp0.step (aA.aI hw (Nat.le_refl _)) h0.d0 h0.d1 h0.d2;have hown:∀ z,(Value.slice a es.length c).ownBlock=some z->base<=z/\z<wr.heap.size:=fun z hz=>aL hp0.own z hz;have hvl:=hp0.vlt;have htold:told=true:=by cases told <;> simp_all
  have hdn:dn=false:=by cases dn <;> simp_all
  subst htold;subst hdn;refine(wX tb db vb fx xb w2 w y q2 g2 n2 c2 T2 a2 T fb o hp rfl (by rw[hp.hl];exact hl) h.d0 h.d1 h.d2 k0 h.cd h.fd ht ((h.cell (p:=⟨fx,0,none⟩) hfx n1 n2').trans cf) hfx ((h.cell (p:=⟨fb,o,none⟩) hfb n3 n4).trans cT) hfb
   ((h.cell (p:=⟨xb,0,none⟩) hxb n5 n6).trans x0) ((h.cell (p:=⟨xb,1,none⟩) hxb n5 n6).trans x1) ((h.cell (p:=⟨xb,2,none⟩) hxb n5 n6).trans x2) ((h.cell (p:=⟨xb,3,none⟩) hxb n5 n6).trans x3) hxb n1 n3 n5 hyv hT).mono ?_
  rintro e w' ⟨rfl,⟨a',c',cs,hp',ho'⟩,h1,h2,h3,h4⟩;exact⟨rfl,⟨⟨a',c',_,hp'⟩,h1,h2,fun k g1 g2 g3=>(h4 k (by omega) (fun e=>by have:=(hown k e.symm).1;omega) g2 g3).trans (h.keep k g1 g2 g3),h.d0,h.d1,h.d2⟩,h3,fun k g1 g2=>h4 k g2 (fun e=>by have:=(hown k e.symm).2;omega) (by omega) (by omega),a',c',_,hp',fun k hk=>by
   rw[List.length_append] at hk;rcases ho' k hk with e|e
   ·exact .inl (hown k e).2
   ·exact .inr e⟩
 ·rw[if_neg hn,List.append_nil]
  refine(a7Z tb db vb fx xb w2 told dn (by simpa using hn) k0 h.cd h.fd (by omega) (by omega)).mono ?_;rintro e w' ⟨rfl,rfl⟩;exact⟨rfl,h.told,by simp,fun k g1 g2=>Below.heap_setCell w2 ⟨db,0,none⟩ _ k (by show k≠db;omega),a,c,es,(hp0.step (aA.aI hw (Nat.le_refl _)) h0.d0 h0.d1 h0.d2).step (aA.set db w2 0 _) h0.d0 h0.d1 h0.d2,fun k hk=>.inl (aL hp0.own k hk).2⟩
