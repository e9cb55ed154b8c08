/- The reference's May, where it says yes. Conditions: none. -/
import Derived.Test.YtmkapobnfigedaaGreatDoorEl38
import Derived.Test.YtmkapobnfigedaaGreatDoorEl41
set_option linter.unusedVariables false
set_option linter.unusedSimpArgs false
namespace Go.Proofs.YtmkapobnfigedaaGreatDoor
open Go.RowKit
def numAt (S : PSt) (k : Nat) : Int := match S.ins[k]? with | some x => x.num | none => 0
end Go.Proofs.YtmkapobnfigedaaGreatDoor
