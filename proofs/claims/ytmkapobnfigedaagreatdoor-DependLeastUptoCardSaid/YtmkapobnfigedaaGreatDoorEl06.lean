/- Rows of elements of some cells, as they are read; inum; model.find's search. Conditions: none. -/
import Derived.Test.YtmkapobnfigedaaGreatDoorEl05
set_option linter.unusedVariables false
namespace Go.Proofs.YtmkapobnfigedaaGreatDoor
open Go.RowKit
def RowAt (w : World) (k : Nat) (v : Value) (rows : List (List Value)) : Prop :=
 ∃ a cap, v = .slice a rows.length cap ∧ rows.length ≤ maxLen ∧ (0 < rows.length → ∃ b off, a = some ⟨b, off, none⟩ ∧ b < w.heap.size ∧ ∀ (q : Nat) (cs : List Value), rows[q]? = some cs → ∀ (t : Nat) (u : Value), cs[t]? = some u → w.cell? ⟨b, off + q * k + t, none⟩ = some u)
theorem RowAt.below {w w' : World} {B k : Nat} {v : Value} {rows : List (List Value)} (h : RowAt w k v rows) (hb : Below B w w') (hB : w.heap.size ≤ B) : RowAt w' k v rows := by
 obtain ⟨a, cap, e, hm, hr⟩ := h
 refine ⟨a, cap, e, hm, fun h0 => ?_⟩
 obtain ⟨b, off, e2, hlt, hc⟩ := hr h0
 have hs := hb.size
 exact ⟨b, off, e2, by omega, fun q cs hq t u hu => (hb.cell (p := ⟨b, off + q * k + t, none⟩) (by show b < B; omega)).trans (hc q cs hq t u hu)⟩
theorem num117 (core made : Int) (h0 : 0 ≤ core ∧ core < 8) (h1 : 0 ≤ made ∧ made < 1000000000) (w : World) :
 Calls Tryz.prog 174 #[.int .i64 core, .int .i64 made] w fun e w' => e = .returned (.int .i64 (2 + core + 8 * made)) ∧ Below w.heap.size w w' := by
 have e1 : wrap64 (2 + core) = 2 + core := by simp only [wrap64]; omega
 have e2 : wrap64 (8 * made) = 8 * made := by simp only [wrap64]; omega
 have e3 : wrap64 (2 + core + 8 * made) = 2 + core + 8 * made := by simp only [wrap64]; omega
 go_enter Tryz.func174, Tryz.ntmps174
 go_wp2_with fail
 go_ret
 exact ⟨by first | rfl | simp_all, bel _ _⟩
def cmpM (x n : Int) : Int := if x < n then -1 else if n < x then 1 else 0
theorem cmp149 (x n : Int) (d : Bool) (ev : Value) (s : ByteArray) (hev : ev.oneCell' = true) (w : World) :
 Calls Tryz.prog 135 #[.agg #[.int .i64 x, .bool d, ev, .string s], .int .i64 n] w fun e w' => e = .returned (.int .i64 (cmpM x n)) ∧ Below w.heap.size w w' := by
 unfold cmpM
 by_cases h1 : x < n
 · rw [if_pos h1]
   go_enter Tryz.func135, Tryz.ntmps135
   go_wp2_with fail; go_ret; exact ⟨rfl, bel _ _⟩
 · rw [if_neg h1]; by_cases h2 : n < x
   · rw [if_pos h2]
     go_enter Tryz.func135, Tryz.ntmps135
     go_wp2_with fail; go_ret; exact ⟨rfl, bel _ _⟩
   · rw [if_neg h2]
     go_enter Tryz.func135, Tryz.ntmps135
     go_wp2_with fail; go_ret; exact ⟨rfl, bel _ _⟩
end Go.Proofs.YtmkapobnfigedaaGreatDoor
