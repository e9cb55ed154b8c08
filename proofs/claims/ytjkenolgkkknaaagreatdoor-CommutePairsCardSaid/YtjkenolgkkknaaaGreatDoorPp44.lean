/- Part of the proof that the named pairs of calls commute. Conditions: none. -/
import Derived.Test.YtjkenolgkkknaaaGreatDoorPp41
set_option linter.unusedVariables false
set_option linter.unusedSimpArgs false
set_option maxRecDepth 100000
set_option maxHeartbeats 8000000
namespace Go.Proofs.YtjkenolgkkknaaaGreatDoor
theorem row_34_0 : rowP 34 0 = true := by kernel_rfl
theorem row_34_1 : rowP 34 1 = true := by kernel_rfl
theorem row_34_2 : rowP 34 2 = true := by kernel_rfl
theorem row_34_3 : rowP 34 3 = true := by kernel_rfl
theorem row_34_4 : rowP 34 4 = true := by kernel_rfl
theorem row_34_5 : rowP 34 5 = true := by kernel_rfl
theorem row_34_6 : rowP 34 6 = true := by kernel_rfl
theorem row_34_7 : rowP 34 7 = true := by kernel_rfl
theorem row_34_8 : rowP 34 8 = true := by kernel_rfl
theorem row_34_9 : rowP 34 9 = true := by kernel_rfl
theorem row_34_10 : rowP 34 10 = true := by kernel_rfl
theorem row_34_11 : rowP 34 11 = true := by kernel_rfl
theorem row_34_12 : rowP 34 12 = true := by kernel_rfl
theorem row_34_13 : rowP 34 13 = true := by kernel_rfl
theorem row_34_14 : rowP 34 14 = true := by kernel_rfl
theorem row_34_15 : rowP 34 15 = true := by kernel_rfl
theorem rows_34 : (List.range 16).all (rowP 34) = true := all16 row_34_0 row_34_1 row_34_2 row_34_3 row_34_4 row_34_5 row_34_6 row_34_7 row_34_8 row_34_9 row_34_10 row_34_11 row_34_12 row_34_13 row_34_14 row_34_15
end Go.Proofs.YtjkenolgkkknaaaGreatDoor
