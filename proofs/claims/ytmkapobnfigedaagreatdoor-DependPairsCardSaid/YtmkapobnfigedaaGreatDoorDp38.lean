/- Part of the proof of a law of chapter 15. Conditions: none. -/
import Derived.Test.YtmkapobnfigedaaGreatDoorDp37
set_option linter.unusedVariables false
set_option linter.unusedSimpArgs false
set_option maxRecDepth 100000
set_option maxHeartbeats 8000000
namespace Go.Proofs.YtmkapobnfigedaaGreatDoor
open Go.RowKit
section
variable {w0 w w' w1 w2 : World} {S S' : PSt} {c : PCall} {bs bh bc : Nat} {ks : List PKey}
theorem gather_yes (h : GAt w0 w S S' c bs bh bc ks) (hl : ks.length ≤ 1000) (hwf : S.wf) (hwf' : S'.wf) (ok : GatherOk S c) {l : List PKey} (hk : gatherK S S' c = some l) :
 Calls Tryz.prog 74 #[.pointer (some ⟨w0.heap.size, 0, none⟩)] w fun e w' => e = .returned (.bool true) ∧ GAt w0 w' S S' c bs bh bc (ks ++ l) := by
 unfold gatherK at hk
 simp only at hk
 obtain ⟨m, hm, rfl⟩ := Option.map_eq_some_iff.1 hk
 by_cases k0 : c.kind = 0
 · rw [if_pos (.inl k0)] at hm; cases hm; exact gather_k0 h hl hwf hwf' ok k0
 by_cases k1 : c.kind = 1
 · rw [if_pos (.inr k1)] at hm; cases hm; exact gather_k1 h hl hwf hwf' ok k1
 rw [if_neg (by omega)] at hm
 by_cases k2 : c.kind = 2
 · rw [if_pos k2] at hm; cases hm; exact gather_k2 h hl hwf hwf' ok k2
 rw [if_neg k2] at hm
 by_cases k3 : c.kind = 3
 · rw [if_pos (.inl k3)] at hm; cases hm; exact gather_k3 h hl hwf hwf' ok k3
 by_cases k6 : c.kind = 6
 · rw [if_pos (.inr k6)] at hm; cases hm; exact gather_k6 h hl hwf hwf' ok k6
 rw [if_neg (by omega)] at hm
 by_cases k5 : c.kind = 5
 · rw [if_pos k5] at hm; by_cases hd : c.data.size = 0
   · rw [if_pos hd] at hm; cases hm
   · rw [if_neg hd] at hm; cases hm; exact gather_k5 h hl hwf hwf' ok k5 hd
 rw [if_neg k5] at hm
 by_cases k8 : c.kind = 8
 · rw [if_pos k8] at hm; cases hm; exact gather_k8 h hl hwf hwf' ok k8
 rw [if_neg k8] at hm
 by_cases k9 : c.kind = 9
 · rw [if_pos (.inl k9)] at hm; cases hm; exact gather_k9 h hl hwf hwf' ok k9
 by_cases k10 : c.kind = 10
 · rw [if_pos (.inr k10)] at hm; cases hm; exact gather_k10 h hl hwf hwf' ok k10
 rw [if_neg (by omega)] at hm
 by_cases k11 : c.kind = 11
 · rw [if_pos k11] at hm; cases hm; exact gather_k11 h hl hwf hwf' ok k11
 rw [if_neg k11] at hm
 cases hm
theorem gather_no (h : GAt w0 w S S' c bs bh bc ks) (hk : gatherK S S' c = none) :
 Calls Tryz.prog 74 #[.pointer (some ⟨w0.heap.size, 0, none⟩)] w fun e w' => e = .returned (.bool false) ∧ GAt w0 w' S S' c bs bh bc ks := by
 obtain ⟨out, hgb, -⟩ := h.own
 have iG := hgb.lt
 have gc : w.cell? ⟨w0.heap.size, 2, none⟩ = some (.pointer (some ⟨bc, 0, none⟩)) := hgb.cell 2
 have iC : BlockLt bc w := ⟨Nat.lt_of_lt_of_le h.cp.1 h.below.size⟩
 have cp : ∀ (t : Nat) (u : Value), c.cells[t]? = some u → w.cell? ⟨bc, t, none⟩ = some u := fun t u hu => (h.below.cell (p := ⟨bc, t, none⟩) h.cp.1).trans (h.cp.2 t u hu)
 have ck := cp 0 _ rfl
 have cd := cp 7 _ rfl
 have HG := Lib.hid h
 unfold gatherK at hk
 simp only [Option.map_eq_none_iff] at hk
 have n01 : ¬ (c.kind = 0 ∨ c.kind = 1) := fun hh => by rw [if_pos hh] at hk; cases hk
 rw [if_neg n01] at hk
 have n2 : ¬ c.kind = 2 := fun hh => by rw [if_pos hh] at hk; cases hk
 rw [if_neg n2] at hk
 have n36 : ¬ (c.kind = 3 ∨ c.kind = 6) := fun hh => by rw [if_pos hh] at hk; cases hk
 rw [if_neg n36] at hk
 by_cases k5 : c.kind = 5
 · rw [if_pos k5] at hk; have hd : c.data.size = 0 := Classical.byContradiction fun hn => by rw [if_neg hn] at hk; cases hk
   have cdz : c.data.toList.isEmpty = true := by
    rw [ByteArray.toList_eq, List.isEmpty_iff]; exact List.eq_nil_of_length_eq_zero hd
   rw [k5] at ck; clear h hgb cp hk n01 n2 n36 hd
   go_enter Tryz.func74, Tryz.ntmps74
   go_wp2_with fail; go_ret; exact ⟨rfl, HG.out.later (bel w _)⟩
 rw [if_neg k5] at hk
 have n8 : ¬ c.kind = 8 := fun hh => by rw [if_pos hh] at hk; cases hk
 rw [if_neg n8] at hk
 have n9 : ¬ (c.kind = 9 ∨ c.kind = 10) := fun hh => by rw [if_pos hh] at hk; cases hk
 rw [if_neg n9] at hk
 have n11 : ¬ c.kind = 11 := fun hh => by rw [if_pos hh] at hk; cases hk
 have e0 : (c.kind == 0) = false := by simp; omega
 have e1 : (c.kind == 1) = false := by simp; omega
 have e2 : (c.kind == 2) = false := by simp; omega
 have e3 : (c.kind == 3) = false := by simp; omega
 have e6 : (c.kind == 6) = false := by simp; omega
 have e5 : (c.kind == 5) = false := by simp; omega
 have e8 : (c.kind == 8) = false := by simp; omega
 have e9 : (c.kind == 9) = false := by simp; omega
 have e10 : (c.kind == 10) = false := by simp; omega
 have e11 : (c.kind == 11) = false := by simp; omega
 clear h hgb cp hk n01 n2 n36 k5 n8 n9 n11
 go_enter Tryz.func74, Tryz.ntmps74
 go_wp2_with fail
 go_ret
 exact ⟨rfl, HG.out.later (bel w _)⟩
end
def pickK (code : Int) (o : Option (List PKey)) : List PKey := if code ≠ 0 then [] else match o with | none => [] | some l => dedupK (sortK l)
def keysM (S : PSt) (c : PCall) : List PKey := pickK (doX S c).2.code (gatherK S (doX S c).1 c)
theorem pickK_bad {code : Int} {o : Option (List PKey)} (h : ¬ code = 0) : pickK code o = [] := by unfold pickK; rw [if_pos h]
theorem pickK_none (code : Int) : pickK code none = [] := by unfold pickK; split <;> rfl
theorem pickK_some {code : Int} {l : List PKey} (h : code = 0) : pickK code (some l) = dedupK (sortK l) := by unfold pickK; rw [if_neg (by simpa using h)]
end Go.Proofs.YtmkapobnfigedaaGreatDoor
