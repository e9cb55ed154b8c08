/-
  No cell of these rows narrows 'for every input' (looked for: loops, veiled, ifaces, maps, wideKeys, modest, calm, conditions, laid).
  DERIVED. THE GIVEN ROWS OF THIS SEAT. 8 by the template 'for every input the law returns true; each argument reads behind the call as it read before'; 0 by the template 'total and deterministic' (their statements: YtpndplbomnjioaaTotals.lean).
  GIVEN WITH THE SEED: the statements are not yours to turn. If you find one false, say at which input.
  Laid BY PROGRAM, IN A SANDBOX (cutbox-rows.mjs): the forced cells as the released guide's own fill.sh prints them over the translation 713f5cfe5ca704c8… (all of the seat's roots in one cut). By AI agents, Wed Nov 11 2026. No macro, syntax, notation, axiom, sorry.
-/
import Derived.Test.YtpndplbomnjioaaChecked
import GoSem.Claim
import GoSem.ClaimJoined
import GoSem.ClaimMapViews
import Derived.JoinedTies
import Derived.KernelRfl
namespace Go.Proofs.Ytpndplbomnjioaa
/- THE CELL 'sum', in the pinned program and in every row, IS THE sha256 OF THE DUMP (.gsa) THAT YtpndplbomnjioaaProg.lean LOADS. Nothing in Lean hashes anything: it is a label: what it is worth is what the hold of that sum in a sandbox is worth. -/
noncomputable def Try.pinned : Pinned := { name := "ytpndplbomnjioaa", sum := "713f5cfe5ca704c8a3c69d64f26ae89d9949ed9d63b8c0df8e7656f41a5f6d75", checked := Try.checked }
namespace Rows
def none {H : Type} : Left H := { results := [], args := [] }

/-- 'concourselaw16.Stamps': WHATEVER THE INPUT: true; the input reads as it did. -/
def stampsSpec : ChangeSpec := { name := "stamps", fn := fun _ => fun
  | [d1, d2] => { results := [.lit (.bool true)], args := [d1, d2] }
  | _ => none }
def stampsRow : OpenClaim := { program := "ytpndplbomnjioaa", sum := "713f5cfe5ca704c8a3c69d64f26ae89d9949ed9d63b8c0df8e7656f41a5f6d75", func := "concourse/concourselaw16.Stamps", spec := "stamps", apart := false }
def StampsSaid : Prop := stampsRow.holds Try.pinned (OpenSpec.ofChange stampsSpec)

/-- ITS FALSE NEIGHBOUR: 'it returns false'. Refute it at one input. -/
def stampsWrong : ChangeSpec := { name := "stamps", fn := fun _ => fun
  | [d1, d2] => { results := [.lit (.bool false)], args := [d1, d2] }
  | _ => none }
def StampsWrongFalsely : Prop := stampsRow.holds Try.pinned (OpenSpec.ofChange stampsWrong)

/-- 'concourselaw16.StampOrders': WHATEVER THE INPUT: true; the input reads as it did. -/
def stampOrdersSpec : ChangeSpec := { name := "stampOrders", fn := fun _ => fun
  | [d1, d2, d3] => { results := [.lit (.bool true)], args := [d1, d2, d3] }
  | _ => none }
def stampOrdersRow : OpenClaim := { program := "ytpndplbomnjioaa", sum := "713f5cfe5ca704c8a3c69d64f26ae89d9949ed9d63b8c0df8e7656f41a5f6d75", func := "concourse/concourselaw16.StampOrders", spec := "stampOrders", apart := false }
def StampOrdersSaid : Prop := stampOrdersRow.holds Try.pinned (OpenSpec.ofChange stampOrdersSpec)

/-- ITS FALSE NEIGHBOUR: 'it returns false'. Refute it at one input. -/
def stampOrdersWrong : ChangeSpec := { name := "stampOrders", fn := fun _ => fun
  | [d1, d2, d3] => { results := [.lit (.bool false)], args := [d1, d2, d3] }
  | _ => none }
def StampOrdersWrongFalsely : Prop := stampOrdersRow.holds Try.pinned (OpenSpec.ofChange stampOrdersWrong)

/-- 'concourselaw16.StampClimbs': WHATEVER THE INPUT: true; the input reads as it did. -/
def stampClimbsSpec : ChangeSpec := { name := "stampClimbs", fn := fun _ => fun
  | [d1, d2] => { results := [.lit (.bool true)], args := [d1, d2] }
  | _ => none }
def stampClimbsRow : OpenClaim := { program := "ytpndplbomnjioaa", sum := "713f5cfe5ca704c8a3c69d64f26ae89d9949ed9d63b8c0df8e7656f41a5f6d75", func := "concourse/concourselaw16.StampClimbs", spec := "stampClimbs", apart := false }
def StampClimbsSaid : Prop := stampClimbsRow.holds Try.pinned (OpenSpec.ofChange stampClimbsSpec)

/-- ITS FALSE NEIGHBOUR: 'it returns false'. Refute it at one input. -/
def stampClimbsWrong : ChangeSpec := { name := "stampClimbs", fn := fun _ => fun
  | [d1, d2] => { results := [.lit (.bool false)], args := [d1, d2] }
  | _ => none }
def StampClimbsWrongFalsely : Prop := stampClimbsRow.holds Try.pinned (OpenSpec.ofChange stampClimbsWrong)

/-- 'concourselaw17.OplogRows': WHATEVER THE INPUT: true; the input reads as it did. -/
def oplogRowsSpec : ChangeSpec := { name := "oplogRows", fn := fun _ => fun
  | [d] => { results := [.lit (.bool true)], args := [d] }
  | _ => none }
def oplogRowsRow : OpenClaim := { program := "ytpndplbomnjioaa", sum := "713f5cfe5ca704c8a3c69d64f26ae89d9949ed9d63b8c0df8e7656f41a5f6d75", func := "concourse/concourselaw17.OplogRows", spec := "oplogRows", apart := false }
def OplogRowsSaid : Prop := oplogRowsRow.holds Try.pinned (OpenSpec.ofChange oplogRowsSpec)

/-- ITS FALSE NEIGHBOUR: 'it returns false'. Refute it at one input. -/
def oplogRowsWrong : ChangeSpec := { name := "oplogRows", fn := fun _ => fun
  | [d] => { results := [.lit (.bool false)], args := [d] }
  | _ => none }
def OplogRowsWrongFalsely : Prop := oplogRowsRow.holds Try.pinned (OpenSpec.ofChange oplogRowsWrong)

/-- 'concourselaw17.OplogStamps': WHATEVER THE INPUT: true; the input reads as it did. -/
def oplogStampsSpec : ChangeSpec := { name := "oplogStamps", fn := fun _ => fun
  | [d1, d2] => { results := [.lit (.bool true)], args := [d1, d2] }
  | _ => none }
def oplogStampsRow : OpenClaim := { program := "ytpndplbomnjioaa", sum := "713f5cfe5ca704c8a3c69d64f26ae89d9949ed9d63b8c0df8e7656f41a5f6d75", func := "concourse/concourselaw17.OplogStamps", spec := "oplogStamps", apart := false }
def OplogStampsSaid : Prop := oplogStampsRow.holds Try.pinned (OpenSpec.ofChange oplogStampsSpec)

/-- ITS FALSE NEIGHBOUR: 'it returns false'. Refute it at one input. -/
def oplogStampsWrong : ChangeSpec := { name := "oplogStamps", fn := fun _ => fun
  | [d1, d2] => { results := [.lit (.bool false)], args := [d1, d2] }
  | _ => none }
def OplogStampsWrongFalsely : Prop := oplogStampsRow.holds Try.pinned (OpenSpec.ofChange oplogStampsWrong)

/-- 'concourselaw17.OplogFull': WHATEVER THE INPUT: true; the input reads as it did. -/
def oplogFullSpec : ChangeSpec := { name := "oplogFull", fn := fun _ => fun
  | [d1, d2] => { results := [.lit (.bool true)], args := [d1, d2] }
  | _ => none }
def oplogFullRow : OpenClaim := { program := "ytpndplbomnjioaa", sum := "713f5cfe5ca704c8a3c69d64f26ae89d9949ed9d63b8c0df8e7656f41a5f6d75", func := "concourse/concourselaw17.OplogFull", spec := "oplogFull", unfollowed := true, recurses := true, apart := false }
def OplogFullSaid : Prop := oplogFullRow.holds Try.pinned (OpenSpec.ofChange oplogFullSpec)

/-- ITS FALSE NEIGHBOUR: 'it returns false'. Refute it at one input. -/
def oplogFullWrong : ChangeSpec := { name := "oplogFull", fn := fun _ => fun
  | [d1, d2] => { results := [.lit (.bool false)], args := [d1, d2] }
  | _ => none }
def OplogFullWrongFalsely : Prop := oplogFullRow.holds Try.pinned (OpenSpec.ofChange oplogFullWrong)

/-- 'concourselaw17.OplogDrops': WHATEVER THE INPUT: true; the input reads as it did. -/
def oplogDropsSpec : ChangeSpec := { name := "oplogDrops", fn := fun _ => fun
  | [d1, d2, d3] => { results := [.lit (.bool true)], args := [d1, d2, d3] }
  | _ => none }
def oplogDropsRow : OpenClaim := { program := "ytpndplbomnjioaa", sum := "713f5cfe5ca704c8a3c69d64f26ae89d9949ed9d63b8c0df8e7656f41a5f6d75", func := "concourse/concourselaw17.OplogDrops", spec := "oplogDrops", unfollowed := true, recurses := true, apart := false }
def OplogDropsSaid : Prop := oplogDropsRow.holds Try.pinned (OpenSpec.ofChange oplogDropsSpec)

/-- ITS FALSE NEIGHBOUR: 'it returns false'. Refute it at one input. -/
def oplogDropsWrong : ChangeSpec := { name := "oplogDrops", fn := fun _ => fun
  | [d1, d2, d3] => { results := [.lit (.bool false)], args := [d1, d2, d3] }
  | _ => none }
def OplogDropsWrongFalsely : Prop := oplogDropsRow.holds Try.pinned (OpenSpec.ofChange oplogDropsWrong)

/-- 'concourselaw17.OplogActs': WHATEVER THE INPUT: true; the input reads as it did. -/
def oplogActsSpec : ChangeSpec := { name := "oplogActs", fn := fun _ => fun
  | [d1, d2] => { results := [.lit (.bool true)], args := [d1, d2] }
  | _ => none }
def oplogActsRow : OpenClaim := { program := "ytpndplbomnjioaa", sum := "713f5cfe5ca704c8a3c69d64f26ae89d9949ed9d63b8c0df8e7656f41a5f6d75", func := "concourse/concourselaw17.OplogActs", spec := "oplogActs", unfollowed := true, recurses := true, apart := false }
def OplogActsSaid : Prop := oplogActsRow.holds Try.pinned (OpenSpec.ofChange oplogActsSpec)

/-- ITS FALSE NEIGHBOUR: 'it returns false'. Refute it at one input. -/
def oplogActsWrong : ChangeSpec := { name := "oplogActs", fn := fun _ => fun
  | [d1, d2] => { results := [.lit (.bool false)], args := [d1, d2] }
  | _ => none }
def OplogActsWrongFalsely : Prop := oplogActsRow.holds Try.pinned (OpenSpec.ofChange oplogActsWrong)

/- THE SECOND FORM. 'bulk': how many values and letters a reading holds, each counted each time it is reached (what is shared counts as often as it is met; a slice's spare places count too). A statement '..UptoSaid' is the law's where the arguments, and the package variables that the reading takes, are together of bulk at most 1048576: NARROWER than '..Said'. Prove '..Said' where nothing that the law and all that it calls make is longer than what came in: it says more and counts as full. Else prove '..UptoSaid'. A law counts once. -/
mutual
def uptoBulk {H : Type} : DataW H → Nat
  | .lit (.string bytes) => bytes.length + 1
  | .lit _ => 1
  | .nil => 1
  | .ptr d => uptoBulk d + 1
  | .slice elems spare => uptoBulkAll elems + uptoBulkAll spare + 1
  | .agg parts => uptoBulkAll parts + 1
  | .iface _ d => uptoBulk d + 1
  | .map entries => uptoBulkEntries entries + 1
  | .held _ => 1
def uptoBulkAll {H : Type} : List (DataW H) → Nat
  | [] => 0
  | d :: r => uptoBulk d + uptoBulkAll r
def uptoBulkEntries {H : Type} : List (Lit × DataW H) → Nat
  | [] => 0
  | x :: r => uptoBulkEntry x + uptoBulkEntries r
def uptoBulkEntry {H : Type} : Lit × DataW H → Nat
  | (.string bytes, d) => bytes.length + uptoBulk d + 1
  | (_, d) => uptoBulk d + 1
 end
def uptoSmall : (H : Type) → List (DataW H) → Bool := fun _ ds => decide (uptoBulkAll ds ≤ 1048576)
def OpenSpec.upto (s : _root_.Go.ChangeSpec) : _root_.Go.OpenSpec := { _root_.Go.OpenSpec.ofChange s with cond := some uptoSmall }

/-- 'concourselaw16.Stamps', WHERE WHAT IT READS IS OF BULK AT MOST 1048576: true; the input reads as it did. -/
def stampsUptoRow : OpenClaim := { program := "ytpndplbomnjioaa", sum := "713f5cfe5ca704c8a3c69d64f26ae89d9949ed9d63b8c0df8e7656f41a5f6d75", func := "concourse/concourselaw16.Stamps", spec := "stamps", apart := false, narrowed := true }
def StampsUptoSaid : Prop := stampsUptoRow.holds Try.pinned (OpenSpec.upto stampsSpec)

/-- 'concourselaw16.StampOrders', WHERE WHAT IT READS IS OF BULK AT MOST 1048576: true; the input reads as it did. -/
def stampOrdersUptoRow : OpenClaim := { program := "ytpndplbomnjioaa", sum := "713f5cfe5ca704c8a3c69d64f26ae89d9949ed9d63b8c0df8e7656f41a5f6d75", func := "concourse/concourselaw16.StampOrders", spec := "stampOrders", apart := false, narrowed := true }
def StampOrdersUptoSaid : Prop := stampOrdersUptoRow.holds Try.pinned (OpenSpec.upto stampOrdersSpec)

/-- 'concourselaw16.StampClimbs', WHERE WHAT IT READS IS OF BULK AT MOST 1048576: true; the input reads as it did. -/
def stampClimbsUptoRow : OpenClaim := { program := "ytpndplbomnjioaa", sum := "713f5cfe5ca704c8a3c69d64f26ae89d9949ed9d63b8c0df8e7656f41a5f6d75", func := "concourse/concourselaw16.StampClimbs", spec := "stampClimbs", apart := false, narrowed := true }
def StampClimbsUptoSaid : Prop := stampClimbsUptoRow.holds Try.pinned (OpenSpec.upto stampClimbsSpec)

/-- 'concourselaw17.OplogRows', WHERE WHAT IT READS IS OF BULK AT MOST 1048576: true; the input reads as it did. -/
def oplogRowsUptoRow : OpenClaim := { program := "ytpndplbomnjioaa", sum := "713f5cfe5ca704c8a3c69d64f26ae89d9949ed9d63b8c0df8e7656f41a5f6d75", func := "concourse/concourselaw17.OplogRows", spec := "oplogRows", apart := false, narrowed := true }
def OplogRowsUptoSaid : Prop := oplogRowsUptoRow.holds Try.pinned (OpenSpec.upto oplogRowsSpec)

/-- 'concourselaw17.OplogStamps', WHERE WHAT IT READS IS OF BULK AT MOST 1048576: true; the input reads as it did. -/
def oplogStampsUptoRow : OpenClaim := { program := "ytpndplbomnjioaa", sum := "713f5cfe5ca704c8a3c69d64f26ae89d9949ed9d63b8c0df8e7656f41a5f6d75", func := "concourse/concourselaw17.OplogStamps", spec := "oplogStamps", apart := false, narrowed := true }
def OplogStampsUptoSaid : Prop := oplogStampsUptoRow.holds Try.pinned (OpenSpec.upto oplogStampsSpec)

/-- 'concourselaw17.OplogFull', WHERE WHAT IT READS IS OF BULK AT MOST 1048576: true; the input reads as it did. -/
def oplogFullUptoRow : OpenClaim := { program := "ytpndplbomnjioaa", sum := "713f5cfe5ca704c8a3c69d64f26ae89d9949ed9d63b8c0df8e7656f41a5f6d75", func := "concourse/concourselaw17.OplogFull", spec := "oplogFull", unfollowed := true, recurses := true, apart := false, narrowed := true }
def OplogFullUptoSaid : Prop := oplogFullUptoRow.holds Try.pinned (OpenSpec.upto oplogFullSpec)

/-- 'concourselaw17.OplogDrops', WHERE WHAT IT READS IS OF BULK AT MOST 1048576: true; the input reads as it did. -/
def oplogDropsUptoRow : OpenClaim := { program := "ytpndplbomnjioaa", sum := "713f5cfe5ca704c8a3c69d64f26ae89d9949ed9d63b8c0df8e7656f41a5f6d75", func := "concourse/concourselaw17.OplogDrops", spec := "oplogDrops", unfollowed := true, recurses := true, apart := false, narrowed := true }
def OplogDropsUptoSaid : Prop := oplogDropsUptoRow.holds Try.pinned (OpenSpec.upto oplogDropsSpec)

/-- 'concourselaw17.OplogActs', WHERE WHAT IT READS IS OF BULK AT MOST 1048576: true; the input reads as it did. -/
def oplogActsUptoRow : OpenClaim := { program := "ytpndplbomnjioaa", sum := "713f5cfe5ca704c8a3c69d64f26ae89d9949ed9d63b8c0df8e7656f41a5f6d75", func := "concourse/concourselaw17.OplogActs", spec := "oplogActs", unfollowed := true, recurses := true, apart := false, narrowed := true }
def OplogActsUptoSaid : Prop := oplogActsUptoRow.holds Try.pinned (OpenSpec.upto oplogActsSpec)

end Rows
end Go.Proofs.Ytpndplbomnjioaa
