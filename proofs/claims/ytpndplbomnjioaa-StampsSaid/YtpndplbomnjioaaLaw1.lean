/- The walks of the first two statements on stamps. Conditions: none. -/
import Derived.Test.YtpndplbomnjioaaStamp
namespace Go.Proofs.Ytpndplbomnjioaa
open Go.RowKit

set_option maxHeartbeats 1000000 in
theorem stamps_walk (c k c' k' : Int) (w : World) :
    Calls Try.prog 3 #[.agg #[.int .i64 c, .int .i64 k], .agg #[.int .i64 c', .int .i64 k']] w fun e w' => e = .returned (.bool true) ∧ Below w.heap.size w w' := by
  go_enter Try.func3, Try.ntmps3
  go_wp2_with fail
  refine wp_region_quiet_rest (by kernel_rfl) (by kernel_rfl) ?_
  repeat (quiet_step (first
    | (go_at_call 11; exact calls_rest (may_any _ _ _))
    | (go_at_call 12; exact calls_rest (refmay_any _ _ _))
    | (go_at_call 13; exact calls_rest (less_any _ _ _ _ _))
    | (go_at_call 14; exact calls_rest (refless_any _ _ _ _ _))
    | (go_at_call 15; exact calls_rest (next_any _ _ _ _ _))
    | (go_at_call 16; exact calls_rest (refnext_any _ _ _ _ _))
    | (go_at_call 17; exact calls_rest (awake16 _))))
  refine wpQuiet_nil ?_
  intro w1 hw1
  obtain ⟨p, hw1⟩ := hw1
  subst hw1
  go_wp2_with fail
  go_ret
  exact ⟨rfl, bel _ _⟩

end Go.Proofs.Ytpndplbomnjioaa
