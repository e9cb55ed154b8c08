/- Part of the proof that the named pairs of calls commute. Conditions: none. -/
import Derived.Test.YtjkenolgkkknaaaGreatDoorPp41
set_option linter.unusedVariables false
set_option linter.unusedSimpArgs false
set_option maxRecDepth 100000
set_option maxHeartbeats 8000000
namespace Go.Proofs.YtjkenolgkkknaaaGreatDoor
theorem row_32_0 : rowP 32 0 = true := by kernel_rfl
theorem row_32_1 : rowP 32 1 = true := by kernel_rfl
theorem row_32_2 : rowP 32 2 = true := by kernel_rfl
theorem row_32_3 : rowP 32 3 = true := by kernel_rfl
theorem row_32_4 : rowP 32 4 = true := by kernel_rfl
theorem row_32_5 : rowP 32 5 = true := by kernel_rfl
theorem row_32_6 : rowP 32 6 = true := by kernel_rfl
theorem row_32_7 : rowP 32 7 = true := by kernel_rfl
theorem row_32_8 : rowP 32 8 = true := by kernel_rfl
theorem row_32_9 : rowP 32 9 = true := by kernel_rfl
theorem row_32_10 : rowP 32 10 = true := by kernel_rfl
theorem row_32_11 : rowP 32 11 = true := by kernel_rfl
theorem row_32_12 : rowP 32 12 = true := by kernel_rfl
theorem row_32_13 : rowP 32 13 = true := by kernel_rfl
theorem row_32_14 : rowP 32 14 = true := by kernel_rfl
theorem row_32_15 : rowP 32 15 = true := by kernel_rfl
theorem rows_32 : (List.range 16).all (rowP 32) = true := all16 row_32_0 row_32_1 row_32_2 row_32_3 row_32_4 row_32_5 row_32_6 row_32_7 row_32_8 row_32_9 row_32_10 row_32_11 row_32_12 row_32_13 row_32_14 row_32_15
end Go.Proofs.YtjkenolgkkknaaaGreatDoor
