/- Part of the proof of a law of chapter 15. Conditions: none. -/
import Derived.Test.YtmkapobnfigedaaGreatDoorDp45
set_option linter.unusedVariables false
set_option linter.unusedSimpArgs false
set_option maxRecDepth 100000
set_option maxHeartbeats 8000000
namespace Go.Proofs.YtmkapobnfigedaaGreatDoor
open Go.RowKit
def pickV (code : Int) (o : Option (List PKey)) : List PKey := if code = 0 then (match o with | none => [] | some l => dedupK (isK l)) else []
theorem pickK_eq (code : Int) (o : Option (List PKey)) : pickK code o = pickV code o := by
 unfold pickV
 by_cases h : code = 0
 · rw [if_pos h]; rcases o with _ | l
   · rw [pickK_none]
   · rw [pickK_some h, sortK_is]
 · rw [if_neg h, pickK_bad h]
def keysV (S : PSt) (c : PCall) : List PKey := pickV (doX S c).2.code (gatherK S (doX S c).1 c)
theorem keysM_eq (S : PSt) (c : PCall) : keysM S c = keysV S c := pickK_eq _ _
def rowV : PSt → List PCall → List (List PKey)
 | _, [] => []
 | S, c :: r => keysV S c :: rowV (doX S c).1 r
theorem rowM_eq : ∀ (cs : List PCall) (S : PSt), rowM S cs = rowV S cs
 | [], _ => rfl
 | c :: r, S => by
   unfold rowM rowV; rw [keysM_eq, rowM_eq r]
def closureV (S : PSt) (cs : List PCall) (want : List Int) : List Bool := if mayM S = true then closeE (touchT (rowV S cs)) cs.length (markE cs.length want (List.replicate cs.length false)) else markE cs.length want (List.replicate cs.length false)
theorem closureM_eq (S : PSt) (cs : List PCall) (want : List Int) : closureM S cs want = closureV S cs want := by unfold closureM closureV; rw [rowM_eq]
def closedV (S : PSt) (cs : List PCall) (inn : List Bool) : Bool := decide (inn.length = cs.length) && mayM S && closedE (touchT (rowV S cs)) inn
theorem closedM_eq (S : PSt) (cs : List PCall) (inn : List Bool) : closedM S cs inn = closedV S cs inn := by unfold closedM closedV; rw [rowM_eq]
def cA : PCall := ⟨0, 0, 0, 0, 0, ⟨#[47, 97]⟩, ⟨#[]⟩, ⟨#[]⟩⟩
def cB : PCall := ⟨2, 1, 0, 0, 0, ⟨#[47, 97]⟩, ⟨#[]⟩, ⟨#[]⟩⟩
def ksA : List PKey := keysV (newSt 2) cA
theorem awk_may : mayM (newSt 2) = true := by kernel_rfl
theorem awk_len : ksA.length = 4 := by kernel_rfl
theorem awk_0 : ksA[0]? = some ⟨-1, ⟨#[]⟩⟩ := by kernel_rfl
theorem awk_3 : ksA[3]? = some ⟨2, ⟨#[]⟩⟩ := by kernel_rfl
theorem awk_t1 : touchM ksA ksA = true := by kernel_rfl
theorem awk_t2 : touchM ksA [⟨1, ⟨#[46]⟩⟩] = false := by kernel_rfl
theorem awk_cl : closureV (newSt 2) [cA, cB] [1] = [true, true] := by kernel_rfl
theorem awk_cd : closedV (newSt 2) [cA] [false] = true := by kernel_rfl
theorem awk_wf : (newSt 2).wf := by
 refine ⟨by decide, by decide, by decide, ?_, ?_, ?_⟩
 · intro x hx; have : x = ⟨1, true, [], ⟨#[]⟩⟩ := by simpa [newSt] using hx
   subst this; exact ⟨by unfold I64; decide, by simp, by simp⟩
 · intro d hd; simp [newSt] at hd
 · intro m hm; have : m = 0 := by simpa [newSt] using hm
   subst this; unfold I64; decide
end Go.Proofs.YtmkapobnfigedaaGreatDoor
