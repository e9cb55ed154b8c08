/- Part of the proof that the calls that look alone commute. Conditions: none. -/
import Derived.Test.YtjkenolgkkknaaaGreatDoorLp01
set_option linter.unusedVariables false
set_option linter.unusedSimpArgs false
set_option maxRecDepth 100000
set_option maxHeartbeats 8000000
/- A region that draws its order and only looks, walked one operation at a time behind a wrapper; the cells of an owned row. Conditions: none. -/
set_option linter.unusedVariables false
namespace Go
section
variable {P : Program} {ops : Array Oper} {C : World → Prop} {Q : Act → Prop} {a : Act} {o : Oper} {rest : List Oper}
/-- The walk, hidden from the unifier. -/
structure WQ (P : Program) (ops : Array Oper) (C : World → Prop) (Q : Act → Prop) (l : List Oper) (a : Act) : Prop where
  out : wpQuiet P ops C Q l a
theorem WQ_step (h : ∀ K : Act → Prop, (∀ a, WQ P ops C Q rest a → K a) → if Region.wanted o (yielded ops a.tmps) then o.quiet P a C K else K (a.put o.dst undef)) : WQ P ops C Q (o :: rest) a :=
  ⟨wpQuiet_step fun K hK => h K fun a ha => hK a ha.out⟩
theorem WQ_nil (h : Q a) : WQ P ops C Q [] a := ⟨wpQuiet_nil h⟩
end
end Go
namespace Go.Proofs.YtjkenolgkkknaaaGreatDoor
open Go.RowKit
end Go.Proofs.YtjkenolgkkknaaaGreatDoor
