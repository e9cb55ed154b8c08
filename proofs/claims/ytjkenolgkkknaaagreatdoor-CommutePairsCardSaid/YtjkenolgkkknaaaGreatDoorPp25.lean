/- Part of the proof that the named pairs of calls commute. Conditions: none. -/
import Derived.Test.YtjkenolgkkknaaaGreatDoorPp23
set_option linter.unusedVariables false
set_option linter.unusedSimpArgs false
set_option maxRecDepth 100000
set_option maxHeartbeats 8000000
namespace Go.Proofs.YtjkenolgkkknaaaGreatDoor
open Go.RowKit
def insF {α : Type} (p : α → Bool) (x : α) : List α → Bool → List α → List α
 | [], d, zs => if d = true then zs else zs ++ [x]
 | e :: r, d, zs => if d = true then insF p x r true (zs ++ [e]) else if p e = true then insF p x r true (zs ++ [x] ++ [e]) else insF p x r false (zs ++ [e])
theorem insF_drop {α : Type} (p : α → Bool) (x : α) (es : List α) (q : Nat) (e : α) (d : Bool) (zs : List α) (h : es[q]? = some e) :
 insF p x (es.drop q) d zs = if d = true then insF p x (es.drop (q + 1)) true (zs ++ [e]) else if p e = true then insF p x (es.drop (q + 1)) true (zs ++ [x] ++ [e]) else insF p x (es.drop (q + 1)) false (zs ++ [e]) := by
 obtain ⟨hl, rfl⟩ := gI.1 h
 rw [List.drop_eq_getElem_cons hl, insF]
theorem insF_end {α : Type} (p : α → Bool) (x : α) (es : List α) (q : Nat) (d : Bool) (zs : List α) (h : ¬ q < es.length) : insF p x (es.drop q) d zs = if d = true then zs else zs ++ [x] := by
 rw [List.drop_of_length_le (by omega), insF]
def fullF (b : Int) (but : ByteArray) : List PEnt → Int → Int
 | [], a => a
 | e :: r, a => fullF b but r (if (!(e.name.toList == but.toList) && bucketR e.name == b) = true then a + 1 else a)
end Go.Proofs.YtjkenolgkkknaaaGreatDoor
