/- path.Code, inum.Num, inum.Core, inum.Made. Conditions: none. -/
import Derived.Test.YtmkapobnfigedaaGreatDoorEl04
set_option linter.unusedVariables false
namespace Go.Proofs.YtmkapobnfigedaaGreatDoor
open Go.RowKit
def codeM (c : Int) : Int := if c = 0 then 0 else if c = 1101 ∨ c = 1102 then 6 else 9
theorem code167 (c : Int) (w : World) :
 Calls Tryz.prog 190 #[.int .i64 c] w fun e w' => e = .returned (.int .i64 (codeM c)) ∧ Below w.heap.size w w' := by
 by_cases h0 : c = 0
 · subst h0
   go_enter Tryz.func190, Tryz.ntmps190
   go_wp2_with fail; go_ret; exact ⟨rfl, bel _ _⟩
 by_cases h1 : c = 1101
 · subst h1
   go_enter Tryz.func190, Tryz.ntmps190
   go_wp2_with fail; go_ret; exact ⟨rfl, bel _ _⟩
 by_cases h2 : c = 1102
 · subst h2
   go_enter Tryz.func190, Tryz.ntmps190
   go_wp2_with fail; go_ret; exact ⟨rfl, bel _ _⟩
 have e : codeM c = 9 := by simp [codeM, h0, h1, h2]
 rw [e]
 have b0 : (c == 0) = false := beq_eq_false_iff_ne.2 h0
 have b1 : (c == 1101) = false := beq_eq_false_iff_ne.2 h1
 have b2 : (c == 1102) = false := beq_eq_false_iff_ne.2 h2
 clear h0 h1 h2 e
 go_enter Tryz.func190, Tryz.ntmps190
 go_wp2_with fail
 go_ret
 exact ⟨rfl, bel _ _⟩
end Go.Proofs.YtmkapobnfigedaaGreatDoor
