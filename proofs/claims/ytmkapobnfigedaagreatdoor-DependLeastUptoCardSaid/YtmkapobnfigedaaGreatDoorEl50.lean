/- The law that a closure is the least closed part. Conditions: none. -/
import Derived.Test.YtmkapobnfigedaaGreatDoorEl49
import Derived.Test.YtmkapobnfigedaaGreatDoorEl45
set_option linter.unusedVariables false
set_option linter.unusedSimpArgs false
namespace Go.Proofs.YtmkapobnfigedaaGreatDoor
open Go.RowKit
/-! ### The plain law -/
theorem closure_closed {S : PSt} {cs : List PCall} {want : List Int} (hm : mayM S = true) : closedM S cs (closureM S cs want) = true := by
 unfold closedM
 rw [closureM_len, decide_eq_true rfl, hm]
 unfold closureM
 rw [if_pos hm]
 have hl : (markE cs.length want (List.replicate cs.length false)).length = cs.length := by rw [markE_len, List.length_replicate]
 have := closeE_closed (touchT (rowM S cs)) (markE cs.length want (List.replicate cs.length false))
 rw [hl] at this
 rw [this]
 rfl
theorem closure_again {S : PSt} {cs : List PCall} {want : List Int} (hm : mayM S = true) : closureM S cs (againE (closureM S cs want)) = closureM S cs want := by
 have hc := closure_closed (cs := cs) (want := want) hm
 unfold closedM at hc
 rw [closureM_len, decide_eq_true rfl, hm] at hc
 have hl := closureM_len S cs want
 generalize closureM S cs want = inn at *
 unfold closureM
 rw [if_pos hm]
 have h1 := markE_again inn
 rw [hl] at h1
 rw [h1]
 exact closeE_same (by simpa using hc) cs.length (by omega)
theorem closure_wanted {S : PSt} {cs : List PCall} {want : List Int} (hm : mayM S = true) {k : Nat} (hk : (k : Int) ∈ want) (hlt : k < cs.length) : (closureM S cs want)[k]? = some true := by
 have hl := closureM_len S cs want
 have h : (closureM S cs want).getD k false = true := by
  unfold closureM
  rw [if_pos hm]
  refine (closeE_keep (touchT (rowM S cs)) cs.length _ (by rw [markE_len, List.length_replicate]; exact Nat.le_refl _) k).1 ?_
  rw [markE_get cs.length want _ List.length_replicate k hlt]
  rw [Bool.or_eq_true]
  right
  rw [List.any_eq_true]
  exact ⟨_, hk, by simp⟩
 rw [List.getD_eq_getElem?_getD, List.getElem?_eq_getElem (by omega)] at h
 rw [List.getElem?_eq_getElem (by omega)]
 exact congrArg some h
theorem closed_all {S : PSt} {cs : List PCall} (hm : mayM S = true) : closedM S cs (List.replicate cs.length true) = true := by
 unfold closedM
 rw [List.length_replicate, decide_eq_true rfl, hm, closedE_all]
 rfl
theorem closed_none {S : PSt} {cs : List PCall} (hm : mayM S = true) : closedM S cs (List.replicate cs.length false) = true := by
 unfold closedM
 rw [List.length_replicate, decide_eq_true rfl, hm, closedE_none]
 rfl
def againU (inn : List Bool) (q : Nat) : List Int := ((List.range q).filter fun i => inn.getD i false).map Int.ofNat
theorem againU_succ (inn : List Bool) (q : Nat) : againU inn (q + 1) = againU inn q ++ (if inn.getD q false = true then [(q : Int)] else []) := by
 unfold againU
 rw [List.range_succ, List.filter_append, List.map_append]
 congr 1
 by_cases h : inn.getD q false = true
 · rw [if_pos h]
   simp only [List.filter_cons, h, if_true, List.filter_nil]
   rfl
 · rw [if_neg h]
   simp only [List.filter_cons, h, List.filter_nil]
   rfl
theorem againU_len (inn : List Bool) (q : Nat) : (againU inn q).length ≤ q := by
 unfold againU
 rw [List.length_map]
 exact Nat.le_trans (List.length_filter_le _ _) (by rw [List.length_range]; exact Nat.le_refl _)
theorem againU_all (inn : List Bool) : againU inn inn.length = againE inn := rfl
theorem againU_64 (inn : List Bool) (q : Nat) (hq : q ≤ 1000000) : ∀ k ∈ againU inn q, I64 k := by
 intro k hk
 unfold againU at hk
 obtain ⟨i, hi, rfl⟩ := List.mem_map.1 hk
 have := List.mem_range.1 (List.mem_filter.1 hi).1
 show I64 (i : Int)
 unfold I64
 omega
theorem boolRow_rows (inn : List Bool) : RowsIn (boolRow inn) 1 (inn.map boolCells) := by
 intro q cs hq t u hu
 rw [List.getElem?_map] at hq
 obtain ⟨x, hx, rfl⟩ := Option.map_eq_some_iff.1 hq
 rcases t with _ | t
 · cases hu
   rw [Nat.mul_one, Nat.add_zero]
   exact boolRow_get hx
 · simp [boolCells] at hu
end Go.Proofs.YtmkapobnfigedaaGreatDoor
