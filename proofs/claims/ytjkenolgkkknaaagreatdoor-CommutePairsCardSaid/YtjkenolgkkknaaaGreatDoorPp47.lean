/- Part of the proof that the named pairs of calls commute. Conditions: none. -/
import Derived.Test.YtjkenolgkkknaaaGreatDoorPp45
set_option linter.unusedVariables false
set_option linter.unusedSimpArgs false
set_option maxRecDepth 100000
set_option maxHeartbeats 8000000
namespace Go.Proofs.YtjkenolgkkknaaaGreatDoor
open Go.RowKit
theorem pair_eq (which i k : Int) (n m : Nat) (hn : i % 16 = n) (hm : k % 16 = m) (W : Nat) (hWl : W < 32) (hnm : n = m) (hW : (IntKind.u64.wrap which).tmod 40 = W) : PTail W which i k n m := by
 intro w wr g11 a1 a2 a3 a4 a5 a6 a7 a8 a9 u K h16a h16b hn16 hm16 hhw HZ hK
 simp only [tail9, Tryz.f8, Option.getD_some, dropSeq, seqL, seqR, actP] at hK ⊢
 generalize bucketR (nmn n) = B0 at h16a
 generalize bucketR (nmn m) = B1 at h16b
 have HPO := Lib.hid (show pairOk W n m = false by unfold pairOk; rw [if_pos hWl]; simp [hnm])
 have hW32 : decide ((W : Int) < 32) = true := decide_eq_true (by omega)
 have hWI : (W : Int) < 32 := by omega
 have hnmb : ((n : Int) == (m : Int)) = true := by rw [hnm]; exact beq_self_eq_true _
 clear hnm
 go_upto_region 12 with (first | (go_at_call 16; with_reducible refine aT (h16a _) fun pA => ?_) | (go_at_call 16; with_reducible refine aT (h16b _) fun pB => ?_))
 refine PZ.world (HZ.out.on (bel wr _)) ?_
 clear HZ h16a h16b hhw
 rintro wz hZ
 have HX := Lib.hid trivial
 obtain ⟨_, _, _, _⟩ := c3 hZ.b11
 obtain ⟨_, _, _, _⟩ := c3 hZ.b6
 obtain ⟨_, _, _⟩ := f3 hZ.b6
 obtain ⟨_, _, _, _, _, _, _, _, _⟩ := c8 hZ.b7
 obtain ⟨_, _, _, _, _, _, _, _⟩ := f8 hZ.b7
 obtain ⟨_, _, _, _, _, _, _, _, _⟩ := c8 hZ.b8
 obtain ⟨_, _, _, _, _, _, _, _⟩ := f8 hZ.b8
 have hgl := hZ.hgl
 have n0 : ¬ g11 = w.heap.size ∧ ¬ g11 = w.heap.size + 1 ∧ ¬ g11 = w.heap.size + 1 + 1 ∧ ¬ w.heap.size = g11 ∧ ¬ w.heap.size + 1 = g11 ∧ ¬ w.heap.size + 1 + 1 = g11 ∧ ¬ w.heap.size = w.heap.size + 1 ∧ ¬ w.heap.size = w.heap.size + 1 + 1 ∧ ¬ w.heap.size + 1 = w.heap.size ∧ ¬ w.heap.size + 1 + 1 = w.heap.size ∧ ¬ w.heap.size + 1 = w.heap.size + 1 + 1 ∧ ¬ w.heap.size + 1 + 1 = w.heap.size + 1 := by omega
 obtain ⟨_, _, _, _, _, _, _, _, _, _, _, _⟩ := n0
 have hN := (hZ.k6 (st3_keep _ _ _ _ _) (st3_blk hZ.b6 (.slice a1 a2 a3) (.slice a4 a5 a6) (.slice a7 a8 a9)))
 have hN := hN.k7 (st8_keep _ _ (cPath 0 0 ⟨#[]⟩)) (st8_blk hN.b7 (cPath 0 0 ⟨#[]⟩))
 have hN := hN.k8 (st8_keep _ _ (cPath 0 0 ⟨#[]⟩)) (st8_blk hN.b8 (cPath 0 0 ⟨#[]⟩))
 have hF := And.intro hN.below hN.st.read
 clear hN
 simp only [st3, st8, cPath] at hF
 have HF := Lib.hid hF
 clear hF hZ
 go_wp2_with fail
 exact bodyPost_ret (v := .tuple #[.agg #[.slice a1 a2 a3, .slice a4 a5 a6, .slice a7 a8 a9], PCall.val (cPath 0 0 ⟨#[]⟩), PCall.val (cPath 0 0 ⟨#[]⟩), .bool false, .bool false]) (by unfold results PCall.val cPath; simp only [Tryz.results8]; go_simp) rfl ⟨_, _, _, cPath 0 0 ⟨#[]⟩, cPath 0 0 ⟨#[]⟩, false, by rw [HPO.out], (fun h => by rw [HPO.out] at h; cases h), HF.out.1, HF.out.2⟩
end Go.Proofs.YtjkenolgkkknaaaGreatDoor
namespace Go.Proofs.YtjkenolgkkknaaaGreatDoor
theorem rows_0 : (List.range 16).all (rowP 0) = true := by kernel_rfl
theorem rows_1 : (List.range 16).all (rowP 1) = true := by kernel_rfl
theorem rows_2 : (List.range 16).all (rowP 2) = true := by kernel_rfl
theorem rows_3 : (List.range 16).all (rowP 3) = true := by kernel_rfl
theorem rows_4 : (List.range 16).all (rowP 4) = true := by kernel_rfl
theorem rows_5 : (List.range 16).all (rowP 5) = true := by kernel_rfl
theorem rows_6 : (List.range 16).all (rowP 6) = true := by kernel_rfl
theorem rows_7 : (List.range 16).all (rowP 7) = true := by kernel_rfl
end Go.Proofs.YtjkenolgkkknaaaGreatDoor
namespace Go.Proofs.YtjkenolgkkknaaaGreatDoor
theorem rows_24 : (List.range 16).all (rowP 24) = true := by kernel_rfl
theorem rows_25 : (List.range 16).all (rowP 25) = true := by kernel_rfl
theorem rows_26 : (List.range 16).all (rowP 26) = true := by kernel_rfl
theorem rows_27 : (List.range 16).all (rowP 27) = true := by kernel_rfl
theorem rows_28 : (List.range 16).all (rowP 28) = true := by kernel_rfl
theorem rows_29 : (List.range 16).all (rowP 29) = true := by kernel_rfl
theorem rows_30 : (List.range 16).all (rowP 30) = true := by kernel_rfl
theorem rows_31 : (List.range 16).all (rowP 31) = true := by kernel_rfl
end Go.Proofs.YtjkenolgkkknaaaGreatDoor
