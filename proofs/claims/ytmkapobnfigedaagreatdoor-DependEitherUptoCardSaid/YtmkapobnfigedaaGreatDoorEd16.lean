/- The reference's names: runes, Check, Hash, Bucket, Below, Code. Conditions: none. The reference's names: Check, Hash, Bucket, Below, Code. Conditions: none. The reference's looks at a state: At, IsOpen, Fd, given, Entry, Links. Conditions: none. The reference's looks at a state: given, Links. Conditions: none. The reference's look at a directory's entries. Conditions: none. -/
import Derived.Test.YtmkapobnfigedaaGreatDoorEd15
import Derived.Test.YtmkapobnfigedaaGreatDoorEd14
set_option linter.unusedVariables false
set_option linter.unusedSimpArgs false
namespace Go.Proofs.YtmkapobnfigedaaGreatDoor
open Go.RowKit
end Go.Proofs.YtmkapobnfigedaaGreatDoor
namespace Go.Proofs.YtmkapobnfigedaaGreatDoor
open Go.RowKit
end Go.Proofs.YtmkapobnfigedaaGreatDoor
namespace Go.Proofs.YtmkapobnfigedaaGreatDoor
open Go.RowKit
def atR (S : PSt) (n : Int) : Int := idxM (isNum n) S.ins
theorem atR_bounds (S : PSt) (n : Int) : atR S n = -1 ∨ (0 ≤ atR S n ∧ atR S n < S.ins.length) := idxM_bounds _ _
end Go.Proofs.YtmkapobnfigedaaGreatDoor
namespace Go.Proofs.YtmkapobnfigedaaGreatDoor
open Go.RowKit
def lkE (n : Int) : List PEnt → Int → Int
  | [], a => a
  | e :: r, a => lkE n r (if (e.num == n) = true then a + 1 else a)
def lkI (n : Int) : List PIn → Int → Int
  | [], a => a
  | x :: r, a => lkI n r (if x.dir = true then lkE n x.ents a else a)
end Go.Proofs.YtmkapobnfigedaaGreatDoor
namespace Go.Proofs.YtmkapobnfigedaaGreatDoor
open Go.RowKit
theorem Blk.apart {w : World} {b b' o : Nat} {c : Array Value} {t : TypeId} {v : Value} (h : Blk w b c t) (hne : b ≠ b') : Blk (w.setCell ⟨b', o, none⟩ v) b c t := by
  unfold Blk
  rw [Below.heap_setCell _ _ _ _ (by show b ≠ b'; exact hne)]
  exact h
end Go.Proofs.YtmkapobnfigedaaGreatDoor
