/- A region that draws its order and only looks, walked one operation at a time behind a wrapper; the cells of an owned row. Conditions: none. -/
import Derived.Test.YtjkenolgkkknaaaGreatDoorKit4
set_option linter.unusedVariables false
namespace Go
section
variable {P : Program} {ops : Array Oper} {C : World → Prop} {Q : Act → Prop} {a : Act} {o : Oper} {rest : List Oper}
/-- The walk, hidden from the unifier. -/
structure WQ (P : Program) (ops : Array Oper) (C : World → Prop) (Q : Act → Prop) (l : List Oper) (a : Act) : Prop where
  out : wpQuiet P ops C Q l a
theorem WQ_step (h : ∀ K : Act → Prop, (∀ a, WQ P ops C Q rest a → K a) → if Region.wanted o (yielded ops a.tmps) then o.quiet P a C K else K (a.put o.dst undef)) : WQ P ops C Q (o :: rest) a :=
  ⟨wpQuiet_step fun K hK => h K fun a ha => hK a ha.out⟩
theorem WQ_nil (h : Q a) : WQ P ops C Q [] a := ⟨wpQuiet_nil h⟩
end
end Go
namespace Go.Proofs.YtjkenolgkkknaaaGreatDoor
open Go.RowKit
/-- The cells of an owned row that is not empty. -/
theorem own_cells {w : World} {base : Nat} {e : TypeId} {size n : Nat} {v : Value} {xs : List Value} (h : w.ownsRow base e size v n xs) (hn : 0 < n) :
    ∃ g cap, v = .slice (some ⟨g, 0, none⟩) n cap ∧ g < w.heap.size ∧ n ≤ cap ∧ ∀ i x, i < n * size → xs[i]? = some x → w.cell? ⟨g, i, none⟩ = some x := by
  obtain ⟨_, h0 | ⟨g, cap, cur, rfl, _, hg, hc, _, hs, ht⟩⟩ := h
  · omega
  · refine ⟨g, cap, rfl, (Array.getElem?_eq_some_iff.1 hg).1, hc, fun i x hi hx => ?_⟩
    rw [cell_of_row w g i cur e (0, 0) hg]
    rw [← ht, List.getElem?_take] at hx
    simpa [hi] using hx
end Go.Proofs.YtjkenolgkkknaaaGreatDoor
