/- The merge of the rows of a log, as plain Lean. Conditions: none. -/
import Derived.Test.YtpndplbomnjioaaLog2
set_option linter.unusedVariables false
namespace Go.Proofs.Ytpndplbomnjioaa
open Go.RowKit
theorem info3 : (Try.prog.info? 3).map (fun i => (i.zero, i.size, i.bytes)) = some (some (.int .i64 0), 1, 8) := by kernel_rfl
/-- The core whose head is least, of the first k (h: how many of each core were taken; st: the stamps). -/
def leastTo (ms h : Nat → Nat) (st : Nat → Nat → Int × Int) : Nat → Option Nat
  | 0 => none
  | k + 1 => match leastTo ms h st k with
    | none => if h k < ms k then some k else none
    | some l => if h k < ms k ∧ lessB (st k (h k)).1 (st k (h k)).2 (st l (h l)).1 (st l (h l)).2 = true then some k else some l
def optI : Option Nat → Int
  | none => -1
  | some l => l
theorem leastTo_lt (ms h : Nat → Nat) (st : Nat → Nat → Int × Int) : ∀ k l, leastTo ms h st k = some l → l < k ∧ h l < ms l
  | 0, l, e => by simp [leastTo] at e
  | k + 1, l, e => by
    unfold leastTo at e
    split at e
    · split at e
      · injection e with e; subst e; omega
      · cases e
    · rename_i l' hl'
      have := leastTo_lt ms h st k l' hl'
      split at e
      · injection e with e; subst e; omega
      · injection e with e; subst e; omega
theorem leastTo_none (ms h : Nat → Nat) (st : Nat → Nat → Int × Int) : ∀ k, leastTo ms h st k = none → ∀ j, j < k → ms j ≤ h j
  | 0, _, j, hj => by omega
  | k + 1, e, j, hj => by
    unfold leastTo at e
    split at e
    · rename_i hl'
      split at e
      · cases e
      · by_cases hjk : j = k
        · subst hjk; omega
        · exact leastTo_none ms h st k hl' j (by omega)
    · split at e <;> cases e
/-- The merge, record by record: which core's record comes up, and which of its. -/
def mergeFrom (ms : Nat → Nat) (st : Nat → Nat → Int × Int) (n : Nat) : Nat → (Nat → Nat) → List (Nat × Nat)
  | 0, _ => []
  | f + 1, h => match leastTo ms h st n with
    | none => []
    | some l => (l, h l) :: mergeFrom ms st n f (upd h l (h l + 1))
end Go.Proofs.Ytpndplbomnjioaa
