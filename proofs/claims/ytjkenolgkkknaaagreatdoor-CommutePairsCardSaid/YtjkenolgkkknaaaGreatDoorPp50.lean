/- Part of the proof that the named pairs of calls commute. Conditions: none. -/
import Derived.Test.YtjkenolgkkknaaaGreatDoorPp45
set_option linter.unusedVariables false
set_option linter.unusedSimpArgs false
set_option maxRecDepth 100000
set_option maxHeartbeats 8000000
namespace Go.Proofs.YtjkenolgkkknaaaGreatDoor
open Go.RowKit
theorem pair_32 (which i k : Int) (n m : Nat) (hn : i % 16 = n) (hm : k % 16 = m) (hW : (IntKind.u64.wrap which).tmod 40 = 32) : PTail 32 which i k n m := by
 intro w wr g11 a1 a2 a3 a4 a5 a6 a7 a8 a9 u K h16a h16b hn16 hm16 hhw HZ hK
 simp only [tail9, Tryz.f8, Option.getD_some, dropSeq, seqL, seqR, actP] at hK ⊢
 generalize bucketR (nmn n) = B0 at h16a
 generalize bucketR (nmn m) = B1 at h16b
 go_upto_region 31 with (first | (go_at_call 16; with_reducible refine aT (h16a _) fun pA => ?_) | (go_at_call 16; with_reducible refine aT (h16b _) fun pB => ?_))
 refine PZ.world (PZ.m2 (g := wr.heap.size + (pA.more pB).len + 1) (h := wr.heap.size + (pA.more pB).len + 1 + 1 + 1) (HZ.out.on (bel wr _)) (cRead 0 (16 * ((n : Int) % 12))) (cRead 1 (16 * ((m : Int) % 12))) (by omega) (by repeat (first | exact Blk.new_i _ _ _ _ | refine Blk.alloc ?_ _)) (by omega) (by repeat (first | exact Blk.new_i _ _ _ _ | refine Blk.alloc ?_ _))) ?_
 obtain ⟨g0, hg0⟩ : ∃ g, wr.heap.size + (pA.more pB).len + 1 = g := ⟨_, rfl⟩
 obtain ⟨g1, hg1⟩ : ∃ g, wr.heap.size + (pA.more pB).len + 1 + 1 + 1 = g := ⟨_, rfl⟩
 rw [hg1, hg0]
 clear HZ h16a h16b hhw hg0 hg1
 rintro wz hZ
 obtain ⟨cx, hcx⟩ : ∃ c, cRead 0 (16 * ((n : Int) % 12)) = c := ⟨_, rfl⟩
 rw [hcx] at hZ
 obtain ⟨cy, hcy⟩ : ∃ c, cRead 1 (16 * ((m : Int) % 12)) = c := ⟨_, rfl⟩
 rw [hcy] at hZ
 have HX := Lib.hid (And.intro hcx hcy)
 clear hcx hcy
 refine hZ.reg [3, 4, 5] (by kernel_rfl) ?_
 clear hZ
 rintro wy hY
 repeat
  refine PS.look rfl rfl ?_; apply Exists.intro; refine ⟨?_, ?_⟩
  focus
   intro w' _ _ _ _; simp only [LF]; intros; go_simp
   first | done | rfl
  simp only [Act.put, sA, sZ, sS]
 refine hY.s6 rfl rfl ?_ fun wy hY => ?_
 · intros; clear hY HX; unfold st3; go_simp
   first | done | rfl
 simp only [Act.put, sA, sZ, sS]
 refine hY.s7 cx rfl rfl ?_ fun wy hY => ?_
 · intros; clear hY HX; simp only [st8]; go_simp
   first | done | rfl
 simp only [Act.put, sA, sZ, sS]
 refine hY.s8 cy rfl rfl ?_ fun wy hY => ?_
 · intros; clear hY HX; simp only [st8]; go_simp
   first | done | rfl
 simp only [Act.put, sA, sZ, sS]
 repeat
  refine PS.look rfl rfl ?_; apply Exists.intro; refine ⟨?_, ?_⟩
  focus
   intro w' _ _ _ _; simp only [LF]; intros; go_simp
   first | done | rfl
  simp only [Act.put, sA, sZ, sS]
 have e1 : (16 * ((n : Int) % 12)) = offP n := by unfold offP; omega
 have e2 : (16 * ((m : Int) % 12)) = offP m := by unfold offP; omega
 refine wpL_end ?_
 obtain ⟨_, _, _, _⟩ := c3 hY.b6
 have v := c8 hY.b7
 have z := c8 hY.b8
 obtain ⟨_, _, _, _, _, _, _, _, _⟩ := v
 obtain ⟨_, _, _, _, _, _, _, _, _⟩ := z
 have HF := Lib.hid (And.intro hY.below hY.st.read)
 clear hY
 go_wp2_with fail
 exact bodyPost_ret (v := .tuple #[.agg #[.slice a1 a2 a3, .slice a4 a5 a6, .slice a7 a8 a9], PCall.val cx, PCall.val cy, .bool true, .bool true]) (by unfold results PCall.val; simp only [Tryz.results8]; go_simp) rfl ⟨_, _, _, cx, cy, true, by rw [(show pairOk 32 n m = true from rfl)], fun _ => ⟨by rw [← HX.out.1, e1]; rfl, by rw [← HX.out.2, e2]; rfl, rfl⟩, HF.out.1, HF.out.2⟩
theorem pair_33 (which i k : Int) (n m : Nat) (hn : i % 16 = n) (hm : k % 16 = m) (hpq : n % 12 ≠ m % 12) (hW : (IntKind.u64.wrap which).tmod 40 = 33) : PTail 33 which i k n m := by
 intro w wr g11 a1 a2 a3 a4 a5 a6 a7 a8 a9 u K h16a h16b hn16 hm16 hhw HZ hK
 simp only [tail9, Tryz.f8, Option.getD_some, dropSeq, seqL, seqR, actP] at hK ⊢
 generalize bucketR (nmn n) = B0 at h16a
 generalize bucketR (nmn m) = B1 at h16b
 have HPO := Lib.hid (show pairOk 33 n m = true by unfold pairOk; simp [hpq])
 have hpqb : (16 * ((n : Int) % 12) == 16 * ((m : Int) % 12)) = false := by rw [beq_eq_false_iff_ne]; omega
 clear hpq
 go_upto_region 33 with (first | (go_at_call 16; with_reducible refine aT (h16a _) fun pA => ?_) | (go_at_call 16; with_reducible refine aT (h16b _) fun pB => ?_))
 refine PZ.world (PZ.m2 (g := wr.heap.size + (pA.more pB).len + 1 + 1) (h := wr.heap.size + (pA.more pB).len + 1 + 1 + 1 + 1) (HZ.out.on (bel wr _)) (cWrite 0 (16 * ((n : Int) % 12)) hexS) (cWrite 1 (16 * ((m : Int) % 12)) hexR) (by omega) (by repeat (first | exact Blk.new_i _ _ _ _ | refine Blk.alloc ?_ _)) (by omega) (by repeat (first | exact Blk.new_i _ _ _ _ | refine Blk.alloc ?_ _))) ?_
 obtain ⟨g0, hg0⟩ : ∃ g, wr.heap.size + (pA.more pB).len + 1 + 1 = g := ⟨_, rfl⟩
 obtain ⟨g1, hg1⟩ : ∃ g, wr.heap.size + (pA.more pB).len + 1 + 1 + 1 + 1 = g := ⟨_, rfl⟩
 rw [hg1, hg0]
 clear HZ h16a h16b hhw hg0 hg1
 rintro wz hZ
 obtain ⟨cx, hcx⟩ : ∃ c, cWrite 0 (16 * ((n : Int) % 12)) hexS = c := ⟨_, rfl⟩
 rw [hcx] at hZ
 obtain ⟨cy, hcy⟩ : ∃ c, cWrite 1 (16 * ((m : Int) % 12)) hexR = c := ⟨_, rfl⟩
 rw [hcy] at hZ
 have HX := Lib.hid (And.intro hcx hcy)
 clear hcx hcy
 refine hZ.reg [3, 4, 5] (by kernel_rfl) ?_
 clear hZ
 rintro wy hY
 repeat
  refine PS.look rfl rfl ?_; apply Exists.intro; refine ⟨?_, ?_⟩
  focus
   intro w' _ _ _ _; simp only [LF]; intros; go_simp
   first | done | rfl
  simp only [Act.put, sA, sZ, sS]
 refine hY.s6 rfl rfl ?_ fun wy hY => ?_
 · intros; clear hY HX; unfold st3; go_simp
   first | done | rfl
 simp only [Act.put, sA, sZ, sS]
 refine hY.s7 cx rfl rfl ?_ fun wy hY => ?_
 · intros; clear hY HX; simp only [st8]; go_simp
   first | done | rfl
 simp only [Act.put, sA, sZ, sS]
 refine hY.s8 cy rfl rfl ?_ fun wy hY => ?_
 · intros; clear hY HX; simp only [st8]; go_simp
   first | done | rfl
 simp only [Act.put, sA, sZ, sS]
 repeat
  refine PS.look rfl rfl ?_; apply Exists.intro; refine ⟨?_, ?_⟩
  focus
   intro w' _ _ _ _; simp only [LF]; intros; go_simp
   first | done | rfl
  simp only [Act.put, sA, sZ, sS]
 have e1 : (16 * ((n : Int) % 12)) = offP n := by unfold offP; omega
 have e2 : (16 * ((m : Int) % 12)) = offP m := by unfold offP; omega
 refine wpL_end ?_
 obtain ⟨_, _, _, _⟩ := c3 hY.b6
 have v := c8 hY.b7
 have z := c8 hY.b8
 obtain ⟨_, _, _, _, _, _, _, _, _⟩ := v
 obtain ⟨_, _, _, _, _, _, _, _, _⟩ := z
 have HF := Lib.hid (And.intro hY.below hY.st.read)
 clear hY
 go_wp2_with fail
 exact bodyPost_ret (v := .tuple #[.agg #[.slice a1 a2 a3, .slice a4 a5 a6, .slice a7 a8 a9], PCall.val cx, PCall.val cy, .bool true, .bool true]) (by unfold results PCall.val; simp only [Tryz.results8]; go_simp) rfl ⟨_, _, _, cx, cy, true, by rw [HPO.out], fun _ => ⟨by rw [← HX.out.1, e1]; rfl, by rw [← HX.out.2, e2]; rfl, rfl⟩, HF.out.1, HF.out.2⟩
theorem pair_34 (which i k : Int) (n m : Nat) (hn : i % 16 = n) (hm : k % 16 = m) (hpq : n % 12 ≠ m % 12) (hW : (IntKind.u64.wrap which).tmod 40 = 34) : PTail 34 which i k n m := by
 intro w wr g11 a1 a2 a3 a4 a5 a6 a7 a8 a9 u K h16a h16b hn16 hm16 hhw HZ hK
 simp only [tail9, Tryz.f8, Option.getD_some, dropSeq, seqL, seqR, actP] at hK ⊢
 generalize bucketR (nmn n) = B0 at h16a
 generalize bucketR (nmn m) = B1 at h16b
 have HPO := Lib.hid (show pairOk 34 n m = true by unfold pairOk; simp [hpq])
 have hpqb : (16 * ((n : Int) % 12) == 16 * ((m : Int) % 12)) = false := by rw [beq_eq_false_iff_ne]; omega
 clear hpq
 go_upto_region 35 with (first | (go_at_call 16; with_reducible refine aT (h16a _) fun pA => ?_) | (go_at_call 16; with_reducible refine aT (h16b _) fun pB => ?_))
 refine PZ.world (PZ.m2 (g := wr.heap.size + (pA.more pB).len + 1 + 1) (h := wr.heap.size + (pA.more pB).len + 1 + 1 + 1) (HZ.out.on (bel wr _)) (cWrite 0 (16 * ((n : Int) % 12)) hexS) (cRead 1 (16 * ((m : Int) % 12))) (by omega) (by repeat (first | exact Blk.new_i _ _ _ _ | refine Blk.alloc ?_ _)) (by omega) (by repeat (first | exact Blk.new_i _ _ _ _ | refine Blk.alloc ?_ _))) ?_
 obtain ⟨g0, hg0⟩ : ∃ g, wr.heap.size + (pA.more pB).len + 1 + 1 = g := ⟨_, rfl⟩
 obtain ⟨g1, hg1⟩ : ∃ g, wr.heap.size + (pA.more pB).len + 1 + 1 + 1 = g := ⟨_, rfl⟩
 rw [hg1, hg0]
 clear HZ h16a h16b hhw hg0 hg1
 rintro wz hZ
 obtain ⟨cx, hcx⟩ : ∃ c, cWrite 0 (16 * ((n : Int) % 12)) hexS = c := ⟨_, rfl⟩
 rw [hcx] at hZ
 obtain ⟨cy, hcy⟩ : ∃ c, cRead 1 (16 * ((m : Int) % 12)) = c := ⟨_, rfl⟩
 rw [hcy] at hZ
 have HX := Lib.hid (And.intro hcx hcy)
 clear hcx hcy
 refine hZ.reg [3, 4, 5] (by kernel_rfl) ?_
 clear hZ
 rintro wy hY
 repeat
  refine PS.look rfl rfl ?_; apply Exists.intro; refine ⟨?_, ?_⟩
  focus
   intro w' _ _ _ _; simp only [LF]; intros; go_simp
   first | done | rfl
  simp only [Act.put, sA, sZ, sS]
 refine hY.s6 rfl rfl ?_ fun wy hY => ?_
 · intros; clear hY HX; unfold st3; go_simp
   first | done | rfl
 simp only [Act.put, sA, sZ, sS]
 refine hY.s7 cx rfl rfl ?_ fun wy hY => ?_
 · intros; clear hY HX; simp only [st8]; go_simp
   first | done | rfl
 simp only [Act.put, sA, sZ, sS]
 refine hY.s8 cy rfl rfl ?_ fun wy hY => ?_
 · intros; clear hY HX; simp only [st8]; go_simp
   first | done | rfl
 simp only [Act.put, sA, sZ, sS]
 repeat
  refine PS.look rfl rfl ?_; apply Exists.intro; refine ⟨?_, ?_⟩
  focus
   intro w' _ _ _ _; simp only [LF]; intros; go_simp
   first | done | rfl
  simp only [Act.put, sA, sZ, sS]
 have e1 : (16 * ((n : Int) % 12)) = offP n := by unfold offP; omega
 have e2 : (16 * ((m : Int) % 12)) = offP m := by unfold offP; omega
 refine wpL_end ?_
 obtain ⟨_, _, _, _⟩ := c3 hY.b6
 have v := c8 hY.b7
 have z := c8 hY.b8
 obtain ⟨_, _, _, _, _, _, _, _, _⟩ := v
 obtain ⟨_, _, _, _, _, _, _, _, _⟩ := z
 have HF := Lib.hid (And.intro hY.below hY.st.read)
 clear hY
 go_wp2_with fail
 exact bodyPost_ret (v := .tuple #[.agg #[.slice a1 a2 a3, .slice a4 a5 a6, .slice a7 a8 a9], PCall.val cx, PCall.val cy, .bool true, .bool true]) (by unfold results PCall.val; simp only [Tryz.results8]; go_simp) rfl ⟨_, _, _, cx, cy, true, by rw [HPO.out], fun _ => ⟨by rw [← HX.out.1, e1]; rfl, by rw [← HX.out.2, e2]; rfl, rfl⟩, HF.out.1, HF.out.2⟩
theorem pair_35 (which i k : Int) (n m : Nat) (hn : i % 16 = n) (hm : k % 16 = m) (hW : (IntKind.u64.wrap which).tmod 40 = 35) : PTail 35 which i k n m := by
 intro w wr g11 a1 a2 a3 a4 a5 a6 a7 a8 a9 u K h16a h16b hn16 hm16 hhw HZ hK
 simp only [tail9, Tryz.f8, Option.getD_some, dropSeq, seqL, seqR, actP] at hK ⊢
 generalize bucketR (nmn n) = B0 at h16a
 generalize bucketR (nmn m) = B1 at h16b
 go_upto_region 37 with (first | (go_at_call 16; with_reducible refine aT (h16a _) fun pA => ?_) | (go_at_call 16; with_reducible refine aT (h16b _) fun pB => ?_))
 refine PZ.world (PZ.m1 (g := wr.heap.size + (pA.more pB).len + 1 + 1) (HZ.out.on (bel wr _)) (cWrite 0 (16 * ((n : Int) % 12)) hexS) (by omega) (by repeat (first | exact Blk.new_i _ _ _ _ | refine Blk.alloc ?_ _))) ?_
 obtain ⟨g0, hg0⟩ : ∃ g, wr.heap.size + (pA.more pB).len + 1 + 1 = g := ⟨_, rfl⟩
 rw [hg0]
 clear HZ h16a h16b hhw hg0
 rintro wz hZ
 obtain ⟨cx, hcx⟩ : ∃ c, cWrite 0 (16 * ((n : Int) % 12)) hexS = c := ⟨_, rfl⟩
 rw [hcx] at hZ
 have HX := Lib.hid hcx
 clear hcx
 refine hZ.reg [3, 4, 5] (by kernel_rfl) ?_
 clear hZ
 rintro wy hY
 repeat
  refine PS.look rfl rfl ?_; apply Exists.intro; refine ⟨?_, ?_⟩
  focus
   intro w' _ _ _ _; simp only [LF]; intros; go_simp
   first | done | rfl
  simp only [Act.put, sA, sZ, sS]
 refine hY.s6 rfl rfl ?_ fun wy hY => ?_
 · intros; clear hY HX; unfold st3; go_simp
   first | done | rfl
 simp only [Act.put, sA, sZ, sS]
 refine hY.s7 cx rfl rfl ?_ fun wy hY => ?_
 · intros; clear hY HX; simp only [st8]; go_simp
   first | done | rfl
 simp only [Act.put, sA, sZ, sS]
 refine hY.s8 (cPath 7 1 ⟨#[]⟩) rfl rfl ?_ fun wy hY => ?_
 · intros; clear hY HX; simp only [st8, cPath]; go_simp
   first | done | rfl
 simp only [Act.put, sA, sZ, sS]
 repeat
  refine PS.look rfl rfl ?_; apply Exists.intro; refine ⟨?_, ?_⟩
  focus
   intro w' _ _ _ _; simp only [LF]; intros; go_simp
   first | done | rfl
  simp only [Act.put, sA, sZ, sS]
 have e1 : (16 * ((n : Int) % 12)) = offP n := by unfold offP; omega
 have e2 : (16 * ((m : Int) % 12)) = offP m := by unfold offP; omega
 refine wpL_end ?_
 obtain ⟨_, _, _, _⟩ := c3 hY.b6
 have v := c8 hY.b7
 have z := c8 hY.b8
 simp only [cPath] at z
 obtain ⟨_, _, _, _, _, _, _, _, _⟩ := v
 obtain ⟨_, _, _, _, _, _, _, _, _⟩ := z
 have HF := Lib.hid (And.intro hY.below hY.st.read)
 clear hY
 go_wp2_with fail
 exact bodyPost_ret (v := .tuple #[.agg #[.slice a1 a2 a3, .slice a4 a5 a6, .slice a7 a8 a9], PCall.val cx, PCall.val (cPath 7 1 ⟨#[]⟩), .bool true, .bool true]) (by unfold results PCall.val cPath; simp only [Tryz.results8]; go_simp) rfl ⟨_, _, _, cx, cPath 7 1 ⟨#[]⟩, true, by rw [(show pairOk 35 n m = true from rfl)], fun _ => ⟨by rw [← HX.out, e1]; rfl, rfl, rfl⟩, HF.out.1, HF.out.2⟩
end Go.Proofs.YtjkenolgkkknaaaGreatDoor
