/- Part of the proof that the calls that look alone commute. Conditions: none. -/
import Derived.Test.YtjkenolgkkknaaaGreatDoorLp19
set_option linter.unusedVariables false
set_option linter.unusedSimpArgs false
set_option maxRecDepth 100000
set_option maxHeartbeats 8000000
/- doer.run at Stat, Fsync, Sync. Conditions: none. -/
set_option linter.unusedVariables false
set_option linter.unusedSimpArgs false
namespace Go.Proofs.YtjkenolgkkknaaaGreatDoor
open Go.RowKit
theorem DoAt.below {B : Nat} {w w' : World} {d b : Nat} {S : PSt} {c : PCall} {r : PRes} (h : DoAt B w d b S c r) (hb : Below w.heap.size w w') : DoAt B w' d b S c r := by
  obtain ⟨iv, ov, mv, nv, hBb, hBd, hD, hbk, hst, hnv⟩ := h
  have hk : Keep (fun _ => False) w w' := Keep.of_below hb _
  exact ⟨iv, ov, mv, nv, hBb, hBd, hk.blk hD id, hk.blk hbk id, hst.keep hk (fun _ h => h.elim), hnv.keep hk (fun _ _ h => h)⟩
theorem DoAt.kind {B : Nat} {w : World} {d b : Nat} {S : PSt} {c : PCall} {r : PRes} (h : DoAt B w d b S c r) : BlockLt d w ∧ w.cell? ⟨d, 1, none⟩ = some (.int .i64 c.kind) := by
  obtain ⟨iv, ov, mv, nv, hBb, hBd, hD, hbk, hst, hnv⟩ := h
  exact ⟨hD.lt, hD.cell 1⟩
end Go.Proofs.YtjkenolgkkknaaaGreatDoor
