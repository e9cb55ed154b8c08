/- Part of the proof that the named pairs of calls commute. Conditions: none. -/
import Derived.Test.YtjkenolgkkknaaaGreatDoorPp41
set_option linter.unusedVariables false
set_option linter.unusedSimpArgs false
set_option maxRecDepth 100000
set_option maxHeartbeats 8000000
namespace Go.Proofs.YtjkenolgkkknaaaGreatDoor
theorem row_33_0 : rowP 33 0 = true := by kernel_rfl
theorem row_33_1 : rowP 33 1 = true := by kernel_rfl
theorem row_33_2 : rowP 33 2 = true := by kernel_rfl
theorem row_33_3 : rowP 33 3 = true := by kernel_rfl
theorem row_33_4 : rowP 33 4 = true := by kernel_rfl
theorem row_33_5 : rowP 33 5 = true := by kernel_rfl
theorem row_33_6 : rowP 33 6 = true := by kernel_rfl
theorem row_33_7 : rowP 33 7 = true := by kernel_rfl
theorem row_33_8 : rowP 33 8 = true := by kernel_rfl
theorem row_33_9 : rowP 33 9 = true := by kernel_rfl
theorem row_33_10 : rowP 33 10 = true := by kernel_rfl
theorem row_33_11 : rowP 33 11 = true := by kernel_rfl
theorem row_33_12 : rowP 33 12 = true := by kernel_rfl
theorem row_33_13 : rowP 33 13 = true := by kernel_rfl
theorem row_33_14 : rowP 33 14 = true := by kernel_rfl
theorem row_33_15 : rowP 33 15 = true := by kernel_rfl
theorem rows_33 : (List.range 16).all (rowP 33) = true := all16 row_33_0 row_33_1 row_33_2 row_33_3 row_33_4 row_33_5 row_33_6 row_33_7 row_33_8 row_33_9 row_33_10 row_33_11 row_33_12 row_33_13 row_33_14 row_33_15
theorem rows_35 : (List.range 16).all (rowP 35) = true := by kernel_rfl
theorem rows_36 : (List.range 16).all (rowP 36) = true := by kernel_rfl
theorem rows_37 : (List.range 16).all (rowP 37) = true := by kernel_rfl
theorem rows_38 : (List.range 16).all (rowP 38) = true := by kernel_rfl
theorem rows_39 : (List.range 16).all (rowP 39) = true := by kernel_rfl
end Go.Proofs.YtjkenolgkkknaaaGreatDoor
