/- Packed by pack.py: PlainD. -/
import Derived.Test.YtmdacedmjbiekaaGreatDoorR0
namespace Wf
set_option linter.unusedVariables false
set_option linter.unusedSimpArgs false
def dec (n:Nat):Bs:=if n<10 then [UInt8.ofNat (48+n)] else dec (n / 10)++[UInt8.ofNat (48+n % 10)]
termination_by n
decreasing_by omega
def isDig (c:UInt8):Bool:=decide (48≤c.toNat)&&decide (c.toNat≤57)
def val (s:Bs):Nat:=s.foldl (fun n c=>10 * n+(c.toNat-48)) 0
def plainN (s:Bs) (most:Nat):Option Nat :=
 if s≠[]∧s.length≤6∧s.all isDig=true∧(s.head? = some 48→s.length=1)∧val s≤most then some (val s) else none
theorem u8 {n:Nat} (h:n<256):(UInt8.ofNat n).toNat=n:=by simp[UInt8.toNat_ofNat'];omega
theorem snoc_ind {P:Bs→Prop} (h0:P []) (h1:∀ s c,P s→P (s++[c])) (s:Bs):P s:=by
 have h:∀ t:Bs,P t.reverse:=by
  intro t
  induction t with
  | nil=>exact h0
  | cons c t ih=>rw[List.reverse_cons];exact h1 _ _ ih
 have:=h s.reverse
 rwa[List.reverse_reverse] at this
theorem head_app {s t:Bs} (h:s≠[]):(s++t).head? = s.head?:=by cases s with|nil=>exact absurd rfl h|cons a s=>rfl
theorem dec_lt {n:Nat} (h:n<10):dec n=[UInt8.ofNat (48+n)]:=by rw[dec,if_pos h]
theorem dec_ge {n:Nat} (h:10≤n):dec n=dec (n / 10)++[UInt8.ofNat (48+n % 10)]:=by rw[dec,if_neg (by omega)]
theorem dec_ind {P:Nat→Prop} (h0:∀ n,n<10→P n) (h1:∀ n,10≤n→P (n / 10)→P n) (n:Nat):P n:=by
 induction n using Nat.strongRecOn with
 | ind n ih =>
  by_cases h:n<10
  ·exact h0 n h
  ·exact h1 n (by omega) (ih (n / 10) (by omega))
theorem isDig_ofNat {n:Nat} (h:n<10):isDig (UInt8.ofNat (48+n))=true:=by
 have:=u8 (show 48+n<256 by omega)
 simp only[isDig,this,Bool.and_eq_true,decide_eq_true_eq];omega
theorem dec_all (n:Nat):(dec n).all isDig=true:=by
 induction n using dec_ind with
 | h0 n h=>rw[dec_lt h];simp only[List.all_cons,List.all_nil,Bool.and_true];exact isDig_ofNat h
 | h1 n h ih =>
  rw[dec_ge h,List.all_append,ih]
  simp only[List.all_cons,List.all_nil,Bool.and_true,Bool.true_and];exact isDig_ofNat (by omega)
theorem dec_ne (n:Nat):dec n≠[]:=by
 by_cases h:n<10
 ·rw[dec_lt h];simp
 ·rw[dec_ge (by omega)];simp
theorem val_snoc (s:Bs) (c:UInt8):val (s++[c])=10 * val s+(c.toNat-48):=by simp[val,List.foldl_append]
theorem val_dec (n:Nat):val (dec n)=n:=by
 induction n using dec_ind with
 | h0 n h =>
  rw[dec_lt h]
  have:=u8 (show 48+n<256 by omega)
  simp only[val,List.foldl_cons,List.foldl_nil,this];omega
 | h1 n h ih =>
  rw[dec_ge h,val_snoc,ih,u8 (by omega)];omega
theorem dec_head (n:Nat) (h:(dec n).head? = some 48):n=0:=by
 induction n using dec_ind with
 | h0 n h' =>
  rw[dec_lt h'] at h
  simp only[List.head?_cons,Option.some.injEq] at h
  have:=congrArg UInt8.toNat h
  rw[u8 (by omega)] at this
  simp at this;exact this
 | h1 n h' ih =>
  rw[dec_ge h'] at h
  have hn:=dec_ne (n / 10)
  rw[head_app hn] at h
  have:=ih h
  omega
theorem dec_len (n k:Nat) (h:n<10 ^ (k+1)):(dec n).length≤k+1:=by
 induction k generalizing n with
 | zero=>rw[dec_lt (by simpa using h)];simp
 | succ k ih =>
  by_cases h1:n<10
  ·rw[dec_lt h1];simp
  ·rw[dec_ge (by omega)]
   have:=ih (n / 10) (by have:(10:Nat) ^ (k+1+1)=10 ^ (k+1) * 10:=rfl;omega)
   simp;omega
theorem dec_len6 {n:Nat} (h:n≤999999):(dec n).length≤6:=dec_len n 5 (by have:(10:Nat)^6=1000000:=rfl;omega)
theorem dec_len_lo (n k:Nat) (h:10 ^ k≤n):k+1≤(dec n).length:=by
 induction k generalizing n with
 | zero=>have:=List.length_pos_iff.2 (dec_ne n);omega
 | succ k ih =>
  have e:(10:Nat) ^ (k+1)=10 ^ k * 10:=rfl
  have hp:0<(10:Nat)^k:=Nat.pow_pos (by omega)
  rw[dec_ge (by omega)]
  have:=ih (n / 10) (by omega)
  simp;omega
theorem plainN_dec {n most:Nat} (h:n≤most) (h6:n≤999999):plainN (dec n) most=some n:=by
 rw[plainN,if_pos,val_dec]
 refine⟨dec_ne n,dec_len6 h6,dec_all n,fun h0 => ?_,by rw[val_dec];exact h⟩
 rw[dec_head n h0,dec_lt (by omega)];rfl
theorem dec_val {s:Bs} (hs:s≠[]) (hd:s.all isDig=true) (h0:s.head? = some 48→s.length=1):dec (val s)=s:=by
 induction s using snoc_ind with
 | h0=>exact absurd rfl hs
 | h1 s c ih =>
  simp only[List.all_append,List.all_cons,List.all_nil,Bool.and_true,Bool.and_eq_true,isDig,decide_eq_true_eq] at hd
  obtain⟨hd1,hc1,hc2⟩:=hd
  have hcc:UInt8.ofNat (48+(c.toNat-48))=c:=by
   rw[show 48+(c.toNat-48)=c.toNat by omega];simp
  by_cases hn:s=[]
  ·subst hn
   simp only[List.nil_append,val,List.foldl_cons,List.foldl_nil]
   rw[dec_lt (by omega)];simp only[Nat.mul_zero,Nat.zero_add];rw[hcc]
  ·have h0':s.head? = some 48→s.length=1:=by
    intro hh
    rw[head_app hn] at h0
    have:=h0 hh
    simp at this;exact absurd this hn
   have ih':=ih hn hd1 h0'
   have hz:val s≠0:=by
    intro hz
    rw[hz,dec_lt (by omega)] at ih'
    rw[head_app hn,← ih'] at h0
    have:=h0 (by decide)
    simp at this
   rw[val_snoc,dec_ge (by omega)]
   rw[show(10 * val s+(c.toNat-48)) / 10=val s by omega,show(10 * val s+(c.toNat-48)) % 10=c.toNat-48 by omega,ih',hcc]
theorem plainN_some {s:Bs} {most n:Nat} (h:plainN s most=some n):s=dec n∧n≤most∧n≤999999:=by
 rw[plainN] at h
 split at h
 ·rename_i hx
  obtain⟨h1,h2,h3,h4,h5⟩:=hx
  simp only[Option.some.injEq] at h
  subst h
  refine⟨(dec_val h1 h3 h4).symm,h5, ?_⟩
  have e:=dec_val h1 h3 h4
  by_cases hb:val s≤999999
  ·exact hb
  ·have:=dec_len_lo (val s) 6 (by have:(10:Nat)^6=1000000:=rfl;omega)
   rw[e] at this;omega
 ·simp at h
end Wf
