/- Part of the proof that the calls that look alone commute. Conditions: none. -/
import Derived.Test.YtjkenolgkkknaaaGreatDoorLp35
set_option linter.unusedVariables false
set_option linter.unusedSimpArgs false
set_option maxRecDepth 100000
set_option maxHeartbeats 8000000
/- The reference's May, where it says yes. Conditions: none. -/
set_option linter.unusedVariables false
set_option linter.unusedSimpArgs false
namespace Go.Proofs.YtjkenolgkkknaaaGreatDoor
open Go.RowKit
def numAt (S : PSt) (k : Nat) : Int := match S.ins[k]? with | some x => x.num | none => 0
end Go.Proofs.YtjkenolgkkknaaaGreatDoor
