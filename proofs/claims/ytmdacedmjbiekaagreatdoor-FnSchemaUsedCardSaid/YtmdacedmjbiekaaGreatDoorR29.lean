/- Packed by pack.py: Su. -/
import Derived.Test.YtmdacedmjbiekaaGreatDoorR28
import Derived.Deep.RegionHeld3
namespace Go.Proofs.YtmdacedmjbiekaaGreatDoor
open Go.ChangeShapes Go.WideShapes Go.ChangeAt Go.RowKit Go.Lib
set_option linter.unusedVariables false
theorem ends8 {x:Wf.Sc} (hx:Wf.ScOk x) {t:Wf.Ty} (ht:t∈x):Wf.endsIn x 8 t=true:=Wf.endsIn_mono _ _ (Wf.endsIn_enough ht (hx.ends t ht)) _ hx.len
theorem stands89 {x:Wf.Sc} (hx:Wf.ScOk x) (k:Wf.K):Wf.stands x 9 k=Wf.stands x 8 k:=by
 cases k with
 | ref nm =>
  cases hf:x.find nm with
  | none=>simp[Wf.stands,hf]
  | some t=>exact Wf.stands_nxt hx.tys 8 9 t nm hf (ends8 hx (Wf.find_mem hf).1) (by decide)
 | _=>rfl
theorem stands_len {x:Wf.Sc} (hx:Wf.ScOk x):∀ (n:Nat) (k:Wf.K),(Wf.stands x n k).length≤7+9 * n:=by
 intro n
 induction n with
 | zero=>intro k;cases k <;> simp[Wf.stands]
 | succ n ih =>
  intro k
  cases k with
  | ref nm =>
   simp only[Wf.stands]
   cases hf:x.find nm with
   | none=>simp
   | some t =>
    dsimp only
    by_cases h82:t.sort=82
    ·rw[if_pos h82];simp;omega
    ·rw[if_neg h82]
     cases hfs:t.fields with
     | nil=>simp
     | cons f fs =>
      have htag:f.tag≤999999:=by have:=((hx.tys t (Wf.find_mem hf).1).fds f (by rw[hfs];exact List.mem_cons_self ..)).tag2;omega
      have hd:=Wf.dec_len6 htag
      have hi:=ih f.kind
      by_cases h69:t.sort=69
      ·simp only[h69,if_true,List.length_cons];omega
      ·simp only[h69,if_false,List.length_cons,List.length_append,List.length_nil];omega
  | num=>simp[Wf.stands];omega
  | txt=>simp[Wf.stands];omega
  | flag=>simp[Wf.stands];omega
  | list k=>simp[Wf.stands];omega
  | opt k=>simp[Wf.stands];omega
theorem stands_ref {x:Wf.Sc} {nm:List UInt8} {t:Wf.Ty} (hf:x.find nm=some t):Wf.stands x 9 (.ref nm)=if t.sort=82 then [123,125] else match t.fields with | []=>[]|f::_=>if t.sort=69 then 35::Wf.dec f.tag else 60::(Wf.dec f.tag++61::(Wf.stands x 8 f.kind++[62])):=by
 simp only[Wf.stands,hf]
 cases t.fields <;> rfl
theorem get0 {s:ByteArray} {c:UInt8} {r:List UInt8} (h:s.data.toList=c::r):0<s.size∧∀ h,(s[0]'h).toNat=c.toNat:=by
 have hl:=size_list s
 rw[h,List.length_cons] at hl
 have h0:0<s.size:=by omega
 refine⟨h0, ?_⟩
 obtain⟨c',hc',e0⟩:=byte_at s 0 h0
 rw[h] at hc'
 have:c'=c:=by simpa using hc'.symm
 rw[this] at e0;exact e0
end Go.Proofs.YtmdacedmjbiekaaGreatDoor
