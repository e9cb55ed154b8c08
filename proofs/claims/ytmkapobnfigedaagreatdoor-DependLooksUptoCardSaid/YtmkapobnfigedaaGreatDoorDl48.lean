/- Part of the proof of a law of chapter 15. Conditions: none. -/
import Derived.Test.YtmkapobnfigedaaGreatDoorDl46
set_option linter.unusedVariables false
set_option linter.unusedSimpArgs false
set_option maxRecDepth 100000
set_option maxHeartbeats 8000000
namespace Go.Proofs.YtmkapobnfigedaaGreatDoor
open Go.RowKit
def aEG (k:PKey):List PKey->List PKey
 |[]=>[k]
 |y::r=>if ltK y k=true then y::aEG k r else k::y::r
def isK (l:List PKey):List PKey:=l.foldr aEG []
def leK (x y:PKey):Bool:=!ltK y x
theorem aIZ (x y:PKey):(leK x y||leK y x)=true:=by
 unfold leK;rcases h1:ltK y x with _|_
 .simp
 rcases h2:ltK x y with _|_
 .simp
 have:=lK h1 h2;rw[pC]at this;cases this
theorem vX (x y z:PKey) (h1:leK x y=true) (h2:leK y z=true):leK x z=true:=by
 unfold leK at *;simp only[yL]at *;rw[Bool.eq_false_iff];intro h;rcases nW y z with h3|h3|h3
 .rw[lK h3 h]at h1;cases h1
 .subst h3;rw[h]at h1;cases h1
 rw[h3]at h2;cases h2
theorem aMT {x y:PKey} (h1:leK x y=true) (h2:leK y x=true):x=y:=by
 unfold leK at *;simp only[yL]at *;rcases nW x y with h3|h3|h3
 .rw[h3]at h2;cases h2
 .exact h3
 rw[h3]at h1;cases h1
theorem qS (k:PKey):∀l,(aEG k l).Perm (k::l)
 |[]=>List.Perm.refl _
 | y::r=>by
   unfold aEG;split
   .exact((qS k r).cons y).trans (List.Perm.swap k y r)
   exact List.Perm.refl _
theorem rP (k:PKey):∀l,l.Pairwise (λx y=>leK x y=true)->(aEG k l).Pairwise (λx y=>leK x y=true)
 |[],_=>by simp[aEG]
 | y ::r,h=>by
   rw[List.pairwise_cons]at h;unfold aEG;split
   .rename_i hy
    rw[List.pairwise_cons];refine⟨λz hz=>?_,rP k r h.2⟩;rcases List.mem_cons.1 ((qS k r).mem_iff.1 hz)with rfl|hz
    .unfold leK;rcases h3:ltK z y with _|_
     .rfl
     have:=lK hy h3;rw[pC]at this;cases this
    exact h.1 z hz
   rename_i hy;have a0:leK k y=true:=by unfold leK;simpa using hy
   rw[List.pairwise_cons];refine⟨λz hz=>?_,List.pairwise_cons.2 h⟩;rcases List.mem_cons.1 hz with rfl|hz
   .exact a0
   exact vX _ _ _ a0 (h.1 z hz)
theorem aBS:∀l,(isK l).Perm l
 |[]=>List.Perm.refl _
 |k::l=>(qS k (isK l)).trans ((aBS l).cons k)
theorem tF:∀l,(isK l).Pairwise (λx y=>leK x y=true)
 |[]=>List.Pairwise.nil
 |k::l=>rP k _ (tF l)
theorem rQ:∀(a b:List PKey),a.Pairwise (λx y=>leK x y=true)->b.Pairwise (λx y=>leK x y=true)->a.Perm b->a=b
 |[],b,_,_,h=>(List.Perm.nil_eq h)
 |x::a,[],_,_,h=>by simp at h
 | x::a,y::b,ha,hb,h=>by
   rw[List.pairwise_cons]at ha hb;have a0:x=y:=by
    have h1:x∈y::b:=h.mem_iff.1 (by simp);have h2:y∈x::a:=h.mem_iff.2 (by simp);rcases List.mem_cons.1 h1 with e|h1
    .exact e
    rcases List.mem_cons.1 h2 with e|h2
    .exact e.symm
    exact aMT (ha.1 y h2) (hb.1 x h1)
   subst a0;rw[rQ a b ha.2 hb.2 (List.Perm.cons_inv h)]
theorem aMU (l:List PKey):lL l=isK l:=by
 refine rQ _ _ ?_ (tF l) ?_
 .unfold lL;exact List.pairwise_mergeSort (λa b c h1 h2=>vX a b c h1 h2) (λa b=>aIZ a b) l
 unfold lL;exact(List.mergeSort_perm _ _).trans (aBS l).symm
end Go.Proofs.YtmkapobnfigedaaGreatDoor
