/- Part of the proof that the named pairs of calls commute. Conditions: none. -/
import Derived.Test.YtjkenolgkkknaaaGreatDoorPp39
set_option linter.unusedVariables false
set_option linter.unusedSimpArgs false
set_option maxRecDepth 100000
set_option maxHeartbeats 8000000
namespace Go.Proofs.YtjkenolgkkknaaaGreatDoor
theorem rows_8 : (List.range 16).all (rowP 8) = true := by kernel_rfl
theorem rows_9 : (List.range 16).all (rowP 9) = true := by kernel_rfl
theorem rows_10 : (List.range 16).all (rowP 10) = true := by kernel_rfl
theorem rows_11 : (List.range 16).all (rowP 11) = true := by kernel_rfl
theorem rows_12 : (List.range 16).all (rowP 12) = true := by kernel_rfl
theorem rows_13 : (List.range 16).all (rowP 13) = true := by kernel_rfl
theorem rows_14 : (List.range 16).all (rowP 14) = true := by kernel_rfl
theorem rows_15 : (List.range 16).all (rowP 15) = true := by kernel_rfl
end Go.Proofs.YtjkenolgkkknaaaGreatDoor
namespace Go.Proofs.YtjkenolgkkknaaaGreatDoor
theorem rows_16 : (List.range 16).all (rowP 16) = true := by kernel_rfl
theorem rows_17 : (List.range 16).all (rowP 17) = true := by kernel_rfl
theorem rows_18 : (List.range 16).all (rowP 18) = true := by kernel_rfl
theorem rows_19 : (List.range 16).all (rowP 19) = true := by kernel_rfl
theorem rows_20 : (List.range 16).all (rowP 20) = true := by kernel_rfl
theorem rows_21 : (List.range 16).all (rowP 21) = true := by kernel_rfl
theorem rows_22 : (List.range 16).all (rowP 22) = true := by kernel_rfl
theorem rows_23 : (List.range 16).all (rowP 23) = true := by kernel_rfl
end Go.Proofs.YtjkenolgkkknaaaGreatDoor
