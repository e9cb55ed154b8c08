/- Part of the proof of a law of chapter 15. Conditions: none. -/
import Derived.Test.YtmkapobnfigedaaGreatDoorDp44
set_option linter.unusedVariables false
set_option linter.unusedSimpArgs false
set_option maxRecDepth 100000
set_option maxHeartbeats 8000000
namespace Go.Proofs.YtmkapobnfigedaaGreatDoor
open Go.RowKit
def insK (k : PKey) : List PKey → List PKey
 | [] => [k]
 | y :: r => if ltK y k = true then y :: insK k r else k :: y :: r
def isK (l : List PKey) : List PKey := l.foldr insK []
def leK (x y : PKey) : Bool := !ltK y x
theorem leK_total (x y : PKey) : (leK x y || leK y x) = true := by
 unfold leK
 rcases h1 : ltK y x with _ | _
 · simp
 · rcases h2 : ltK x y with _ | _
   · simp
   · have := ltK_trans h1 h2; rw [ltK_irrefl] at this; cases this
theorem leK_trans (x y z : PKey) (h1 : leK x y = true) (h2 : leK y z = true) : leK x z = true := by
 unfold leK at *
 simp only [Bool.not_eq_true'] at *
 rw [Bool.eq_false_iff]
 intro h
 rcases ltK_total y z with h3 | h3 | h3
 · rw [ltK_trans h3 h] at h1; cases h1
 · subst h3; rw [h] at h1; cases h1
 · rw [h3] at h2; cases h2
theorem leK_anti {x y : PKey} (h1 : leK x y = true) (h2 : leK y x = true) : x = y := by
 unfold leK at *
 simp only [Bool.not_eq_true'] at *
 rcases ltK_total x y with h3 | h3 | h3
 · rw [h3] at h2; cases h2
 · exact h3
 · rw [h3] at h1; cases h1
theorem insK_perm (k : PKey) : ∀ l, (insK k l).Perm (k :: l)
 | [] => List.Perm.refl _
 | y :: r => by
   unfold insK
   split
   · exact ((insK_perm k r).cons y).trans (List.Perm.swap k y r)
   · exact List.Perm.refl _
theorem insK_sorted (k : PKey) : ∀ l, l.Pairwise (fun x y => leK x y = true) → (insK k l).Pairwise (fun x y => leK x y = true)
 | [], _ => by simp [insK]
 | y :: r, h => by
   rw [List.pairwise_cons] at h; unfold insK
   split
   · rename_i hy
     rw [List.pairwise_cons]; refine ⟨fun z hz => ?_, insK_sorted k r h.2⟩; rcases List.mem_cons.1 ((insK_perm k r).mem_iff.1 hz) with rfl | hz
     · unfold leK; rcases h3 : ltK z y with _ | _
       · rfl
       · have := ltK_trans hy h3; rw [ltK_irrefl] at this; cases this
     · exact h.1 z hz
   · rename_i hy
     have hky : leK k y = true := by unfold leK; simpa using hy
     rw [List.pairwise_cons]; refine ⟨fun z hz => ?_, List.pairwise_cons.2 h⟩; rcases List.mem_cons.1 hz with rfl | hz
     · exact hky
     · exact leK_trans _ _ _ hky (h.1 z hz)
theorem isK_perm : ∀ l, (isK l).Perm l
 | [] => List.Perm.refl _
 | k :: l => (insK_perm k (isK l)).trans ((isK_perm l).cons k)
theorem isK_sorted : ∀ l, (isK l).Pairwise (fun x y => leK x y = true)
 | [] => List.Pairwise.nil
 | k :: l => insK_sorted k _ (isK_sorted l)
theorem sorted_uniq : ∀ (a b : List PKey), a.Pairwise (fun x y => leK x y = true) → b.Pairwise (fun x y => leK x y = true) → a.Perm b → a = b
 | [], b, _, _, h => (List.Perm.nil_eq h)
 | x :: a, [], _, _, h => by simp at h
 | x :: a, y :: b, ha, hb, h => by
   rw [List.pairwise_cons] at ha hb; have hxy : x = y := by
    have h1 : x ∈ y :: b := h.mem_iff.1 (by simp); have h2 : y ∈ x :: a := h.mem_iff.2 (by simp); rcases List.mem_cons.1 h1 with e | h1
    · exact e
    rcases List.mem_cons.1 h2 with e | h2
    · exact e.symm
    exact leK_anti (ha.1 y h2) (hb.1 x h1)
   subst hxy; rw [sorted_uniq a b ha.2 hb.2 (List.Perm.cons_inv h)]
theorem sortK_is (l : List PKey) : sortK l = isK l := by
 refine sorted_uniq _ _ ?_ (isK_sorted l) ?_
 · unfold sortK; exact List.pairwise_mergeSort (fun a b c h1 h2 => leK_trans a b c h1 h2) (fun a b => leK_total a b) l
 · unfold sortK; exact (List.mergeSort_perm _ _).trans (isK_perm l).symm
end Go.Proofs.YtmkapobnfigedaaGreatDoor
