/- doer.run at Stat, Fsync, Sync. Conditions: none. -/
import Derived.Test.YtmkapobnfigedaaGreatDoorEl16
import Derived.Test.YtmkapobnfigedaaGreatDoorEl17
set_option linter.unusedVariables false
set_option linter.unusedSimpArgs false
namespace Go.Proofs.YtmkapobnfigedaaGreatDoor
open Go.RowKit
theorem DoAt.below {B : Nat} {w w' : World} {d b : Nat} {S : PSt} {c : PCall} {r : PRes} (h : DoAt B w d b S c r) (hb : Below w.heap.size w w') : DoAt B w' d b S c r := by
 obtain ⟨iv, ov, mv, nv, hBb, hBd, hD, hbk, hst, hnv⟩ := h
 have hk : Keep (fun _ => False) w w' := Keep.of_below hb _
 exact ⟨iv, ov, mv, nv, hBb, hBd, hk.blk hD id, hk.blk hbk id, hst.keep hk (fun _ h => h.elim), hnv.keep hk (fun _ _ h => h)⟩
theorem DoAt.kind {B : Nat} {w : World} {d b : Nat} {S : PSt} {c : PCall} {r : PRes} (h : DoAt B w d b S c r) : BlockLt d w ∧ w.cell? ⟨d, 1, none⟩ = some (.int .i64 c.kind) := by
 obtain ⟨iv, ov, mv, nv, hBb, hBd, hD, hbk, hst, hnv⟩ := h
 exact ⟨hD.lt, hD.cell 1⟩
theorem run_sync (B d b : Nat) (S : PSt) (c : PCall) (r : PRes) (w : World) (h : DoAt B w d b S c r) (hB : B ≤ w.heap.size) (hk : c.kind = 16) :
 Calls Tryz.prog 108 #[.pointer (some ⟨d, 0, none⟩)] w (RunOut B w d b c (.ok (S, r))) := by
 obtain ⟨iD, d1⟩ := h.kind
 rw [hk] at d1
 have HD := Lib.hid h
 clear h hk
 go_enter Tryz.func108, Tryz.ntmps108
 go_wp2_with fail
 exact bodyPost_end (v := .tuple #[]) (by simp [results, go_sem]) rfl ⟨Below.refl _ _, rfl, HD.out⟩
def fsyncM (S : PSt) (c : PCall) (r : PRes) : Except Int (PSt × PRes) := if idxM (isFd c) S.op < 0 then .error 4 else .ok (S, r)
set_option maxRecDepth 100000 in
set_option maxHeartbeats 2000000 in
theorem run_fsync (B d b : Nat) (S : PSt) (c : PCall) (r : PRes) (w : World) (h : DoAt B w d b S c r) (hB : B ≤ w.heap.size) (hf : Fine S) (hk : c.kind = 15) :
 Calls Tryz.prog 108 #[.pointer (some ⟨d, 0, none⟩)] w (RunOut B w d b c (fsyncM S c r)) := by
 have ht := file73 d b S c w h.read hf
 obtain ⟨iD, d1⟩ := h.kind
 rw [hk] at d1
 have HD := Lib.hid h
 unfold fsyncM
 generalize idxM (isFd c) S.op = i at ht ⊢
 clear h hf hk
 by_cases hi : i < 0
 · rw [if_pos hi]
   go_enter Tryz.func108, Tryz.ntmps108
   go_wp2_with (go_at_call 143; refine ht.mono ?_; rintro e w1 ⟨hb1, hr1⟩; obtain rfl : e = thrown 4 := by rcases hr1 with ⟨h, _⟩ | ⟨_, h⟩ <;> first | exact h | omega)
   exact ⟨rfl, hb1.mono hB, rfl⟩
 · rw [if_neg hi]
   go_enter Tryz.func108, Tryz.ntmps108
   go_wp2_with (go_at_call 143; refine ht.mono ?_; rintro e w1 ⟨hb1, hr1⟩; obtain ⟨x, bi, off, f, rfl⟩ : ∃ (x : PDesc) (bi off f : Nat), e = .returned (.tuple #[.pointer (some ⟨bi, off + f * 4, none⟩), .int .i64 i]) := by rcases hr1 with ⟨_, x, bi, off, cap, _, _, h⟩ | ⟨h, _⟩ <;> first | exact ⟨x, bi, off, _, h⟩ | omega)
   exact bodyPost_end (v := .tuple #[]) (by simp [results, go_sem]) rfl ⟨hb1.mono hB, rfl, HD.out.below hb1⟩
end Go.Proofs.YtmkapobnfigedaaGreatDoor
