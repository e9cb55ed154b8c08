/- Part of the proof that the named pairs of calls commute. Conditions: none. -/
import Derived.Test.YtjkenolgkkknaaaGreatDoorPp45
set_option linter.unusedVariables false
set_option linter.unusedSimpArgs false
set_option maxRecDepth 100000
set_option maxHeartbeats 8000000
namespace Go.Proofs.YtjkenolgkkknaaaGreatDoor
open Go.RowKit
theorem pair_37 (which i k : Int) (n m : Nat) (hn : i % 16 = n) (hm : k % 16 = m) (hW : (IntKind.u64.wrap which).tmod 40 = 37) : PTail 37 which i k n m := by
 intro w wr g11 a1 a2 a3 a4 a5 a6 a7 a8 a9 u K h16a h16b hn16 hm16 hhw HZ hK
 simp only [tail9, Tryz.f8, Option.getD_some, dropSeq, seqL, seqR, actP] at hK ⊢
 generalize bucketR (nmn n) = B0 at h16a
 generalize bucketR (nmn m) = B1 at h16b
 go_upto_region 41 with (first | (go_at_call 16; with_reducible refine aT (h16a _) fun pA => ?_) | (go_at_call 16; with_reducible refine aT (h16b _) fun pB => ?_))
 refine PZ.world (HZ.out.on (bel wr _)) ?_
 clear HZ h16a h16b hhw
 rintro wz hZ
 have HX := Lib.hid trivial
 obtain ⟨_, _, _, _⟩ := c3 hZ.b11
 obtain ⟨_, _, _, _⟩ := c3 hZ.b6
 obtain ⟨_, _, _⟩ := f3 hZ.b6
 obtain ⟨_, _, _, _, _, _, _, _, _⟩ := c8 hZ.b7
 obtain ⟨_, _, _, _, _, _, _, _⟩ := f8 hZ.b7
 obtain ⟨_, _, _, _, _, _, _, _, _⟩ := c8 hZ.b8
 obtain ⟨_, _, _, _, _, _, _, _⟩ := f8 hZ.b8
 have hgl := hZ.hgl
 have n0 : ¬ g11 = w.heap.size ∧ ¬ g11 = w.heap.size + 1 ∧ ¬ g11 = w.heap.size + 1 + 1 ∧ ¬ w.heap.size = g11 ∧ ¬ w.heap.size + 1 = g11 ∧ ¬ w.heap.size + 1 + 1 = g11 ∧ ¬ w.heap.size = w.heap.size + 1 ∧ ¬ w.heap.size = w.heap.size + 1 + 1 ∧ ¬ w.heap.size + 1 = w.heap.size ∧ ¬ w.heap.size + 1 + 1 = w.heap.size ∧ ¬ w.heap.size + 1 = w.heap.size + 1 + 1 ∧ ¬ w.heap.size + 1 + 1 = w.heap.size + 1 := by omega
 obtain ⟨_, _, _, _, _, _, _, _, _, _, _, _⟩ := n0
 have hN := (hZ.k6 (st3_keep _ _ _ _ _) (st3_blk hZ.b6 (.slice a1 a2 a3) (.slice a4 a5 a6) (.slice a7 a8 a9)))
 have hN := hN.k7 (st8_keep _ _ (cPath 2 0 ⟨#[47, 120]⟩)) (st8_blk hN.b7 (cPath 2 0 ⟨#[47, 120]⟩))
 have hN := hN.k8 (st8_keep _ _ (cPath 2 1 ⟨#[47, 120]⟩)) (st8_blk hN.b8 (cPath 2 1 ⟨#[47, 120]⟩))
 have hF := And.intro hN.below hN.st.read
 clear hN
 simp only [st3, st8, cPath] at hF
 have HF := Lib.hid hF
 clear hF hZ
 go_wp2_with fail
 exact bodyPost_ret (v := .tuple #[.agg #[.slice a1 a2 a3, .slice a4 a5 a6, .slice a7 a8 a9], PCall.val (cPath 2 0 ⟨#[47, 120]⟩), PCall.val (cPath 2 1 ⟨#[47, 120]⟩), .bool true, .bool true]) (by unfold results PCall.val cPath; simp only [Tryz.results8]; go_simp) rfl ⟨_, _, _, cPath 2 0 ⟨#[47, 120]⟩, cPath 2 1 ⟨#[47, 120]⟩, true, by rw [(show pairOk 37 n m = true from rfl)], fun _ => ⟨rfl, rfl, rfl⟩, HF.out.1, HF.out.2⟩
theorem pair_38 (which i k : Int) (n m : Nat) (hn : i % 16 = n) (hm : k % 16 = m) (hW : (IntKind.u64.wrap which).tmod 40 = 38) : PTail 38 which i k n m := by
 intro w wr g11 a1 a2 a3 a4 a5 a6 a7 a8 a9 u K h16a h16b hn16 hm16 hhw HZ hK
 simp only [tail9, Tryz.f8, Option.getD_some, dropSeq, seqL, seqR, actP] at hK ⊢
 generalize bucketR (nmn n) = B0 at h16a
 generalize bucketR (nmn m) = B1 at h16b
 go_upto_region 43 with (first | (go_at_call 16; with_reducible refine aT (h16a _) fun pA => ?_) | (go_at_call 16; with_reducible refine aT (h16b _) fun pB => ?_))
 refine PZ.world (HZ.out.on (bel wr _)) ?_
 clear HZ h16a h16b hhw
 rintro wz hZ
 have HX := Lib.hid trivial
 obtain ⟨_, _, _, _⟩ := c3 hZ.b11
 obtain ⟨_, _, _, _⟩ := c3 hZ.b6
 obtain ⟨_, _, _⟩ := f3 hZ.b6
 obtain ⟨_, _, _, _, _, _, _, _, _⟩ := c8 hZ.b7
 obtain ⟨_, _, _, _, _, _, _, _⟩ := f8 hZ.b7
 obtain ⟨_, _, _, _, _, _, _, _, _⟩ := c8 hZ.b8
 obtain ⟨_, _, _, _, _, _, _, _⟩ := f8 hZ.b8
 have hgl := hZ.hgl
 have n0 : ¬ g11 = w.heap.size ∧ ¬ g11 = w.heap.size + 1 ∧ ¬ g11 = w.heap.size + 1 + 1 ∧ ¬ w.heap.size = g11 ∧ ¬ w.heap.size + 1 = g11 ∧ ¬ w.heap.size + 1 + 1 = g11 ∧ ¬ w.heap.size = w.heap.size + 1 ∧ ¬ w.heap.size = w.heap.size + 1 + 1 ∧ ¬ w.heap.size + 1 = w.heap.size ∧ ¬ w.heap.size + 1 + 1 = w.heap.size ∧ ¬ w.heap.size + 1 = w.heap.size + 1 + 1 ∧ ¬ w.heap.size + 1 + 1 = w.heap.size + 1 := by omega
 obtain ⟨_, _, _, _, _, _, _, _, _, _, _, _⟩ := n0
 have hN := (hZ.k6 (st3_keep _ _ _ _ _) (st3_blk hZ.b6 (.slice a1 a2 a3) (.slice a4 a5 a6) (.slice a7 a8 a9)))
 have hN := hN.k7 (st8_keep _ _ (cPath 3 0 ⟨#[]⟩)) (st8_blk hN.b7 (cPath 3 0 ⟨#[]⟩))
 have hN := hN.k8 (st8_keep _ _ (cPath 3 1 ⟨#[]⟩)) (st8_blk hN.b8 (cPath 3 1 ⟨#[]⟩))
 have hF := And.intro hN.below hN.st.read
 clear hN
 simp only [st3, st8, cPath] at hF
 have HF := Lib.hid hF
 clear hF hZ
 go_wp2_with fail
 exact bodyPost_ret (v := .tuple #[.agg #[.slice a1 a2 a3, .slice a4 a5 a6, .slice a7 a8 a9], PCall.val (cPath 3 0 ⟨#[]⟩), PCall.val (cPath 3 1 ⟨#[]⟩), .bool true, .bool true]) (by unfold results PCall.val cPath; simp only [Tryz.results8]; go_simp) rfl ⟨_, _, _, cPath 3 0 ⟨#[]⟩, cPath 3 1 ⟨#[]⟩, true, by rw [(show pairOk 38 n m = true from rfl)], fun _ => ⟨rfl, rfl, rfl⟩, HF.out.1, HF.out.2⟩
theorem pair_39 (which i k : Int) (n m : Nat) (hn : i % 16 = n) (hm : k % 16 = m) (hW : (IntKind.u64.wrap which).tmod 40 = 39) : PTail 39 which i k n m := by
 intro w wr g11 a1 a2 a3 a4 a5 a6 a7 a8 a9 u K h16a h16b hn16 hm16 hhw HZ hK
 simp only [tail9, Tryz.f8, Option.getD_some, dropSeq, seqL, seqR, actP] at hK ⊢
 generalize bucketR (nmn n) = B0 at h16a
 generalize bucketR (nmn m) = B1 at h16b
 obtain ⟨q, hq⟩ : ∃ q, pth m = q := ⟨_, rfl⟩
 have h14 : ∀ ww, Calls Tryz.prog 14 #[.int .i64 m] ww fun e w' => e = .returned (.string q) ∧ Below ww.heap.size ww w' := fun ww => by
  have := at14 m ww; rw [show ((m : Int) % 16).toNat = m by omega, hq] at this; exact this
 have hqs : ¬ 9223372036854775807 < 2 + q.size := by
  rw [← hq]; have h : ((List.range 16).all fun j => (pth j).size.ble 10) = true := by kernel_rfl
  have := Nat.le_of_ble_eq_true (List.all_eq_true.1 h m (List.mem_range.2 (by omega))); omega
 have HQ := Lib.hid hq
 clear hq
 go_upto_region 44 with (first | (go_at_call 16; with_reducible refine aT (h16a _) fun pA => ?_) | (go_at_call 16; with_reducible refine aT (h16b _) fun pB => ?_))
 refine PZ.world (HZ.out.on (bel wr _)) ?_
 clear HZ h16a h16b hhw
 rintro wz hZ
 have HX := Lib.hid trivial
 refine hZ.reg [3, 6, 7, 8] (by kernel_rfl) ?_
 clear hZ
 rintro wy hY
 repeat
  refine PS.look rfl rfl ?_; apply Exists.intro; refine ⟨?_, ?_⟩
  focus
   intro w' _ _ _ _; simp only [LF]; intros; go_simp
   first | done | rfl
  simp only [Act.put, sA, sZ, sS]
 refine wpL_act rfl rfl ?_
 refine eff_call 14 #[.int .i64 m] ?hr ?_
 case hr =>
  go_simp
  first | done | rfl
 refine (h14 _).mono ?_
 rintro e wy0 ⟨rfl, hb⟩
 have hY := hY.on hb
 clear hb
 refine Exists.intro (.string q) ?_
 refine And.intro rfl ?_
 refine And.intro (Or.inl ⟨hY.b11, hY.ex⟩) ?_
 simp only [Act.put, sA, sZ, sS]
 repeat
  refine PS.look rfl rfl ?_; apply Exists.intro; refine ⟨?_, ?_⟩
  focus
   intro w' _ _ _ _; simp only [LF]; intros; go_simp
   first | done | rfl
  simp only [Act.put, sA, sZ, sS]
 refine hY.s6 rfl rfl ?_ fun wy hY => ?_
 · intros; clear hY HX; unfold st3; go_simp
   first | done | rfl
 simp only [Act.put, sA, sZ, sS]
 refine hY.s7 (cPath 12 0 ⟨#[47, 100]⟩) rfl rfl ?_ fun wy hY => ?_
 · intros; clear hY HX; simp only [st8, cPath]; go_simp
   first | done | rfl
 simp only [Act.put, sA, sZ, sS]
 refine hY.s8 (cPath 0 1 ((⟨#[47, 101]⟩ : ByteArray) ++ q)) rfl rfl ?_ fun wy hY => ?_
 · intros; clear hY HX; simp only [st8, cPath]; go_simp
   first | done | rfl
 simp only [Act.put, sA, sZ, sS]
 repeat
  refine PS.look rfl rfl ?_; apply Exists.intro; refine ⟨?_, ?_⟩
  focus
   intro w' _ _ _ _; simp only [LF]; intros; go_simp
   first | done | rfl
  simp only [Act.put, sA, sZ, sS]
 refine wpL_end ?_
 obtain ⟨_, _, _, _⟩ := c3 hY.b6
 have v := c8 hY.b7
 have z := c8 hY.b8
 simp only [cPath] at v
 simp only [cPath] at z
 obtain ⟨_, _, _, _, _, _, _, _, _⟩ := v
 obtain ⟨_, _, _, _, _, _, _, _, _⟩ := z
 have HF := Lib.hid (And.intro hY.below hY.st.read)
 clear hY
 go_wp2_with fail
 exact bodyPost_ret (v := .tuple #[.agg #[.slice a1 a2 a3, .slice a4 a5 a6, .slice a7 a8 a9], PCall.val (cPath 12 0 ⟨#[47, 100]⟩), PCall.val (cPath 0 1 ((⟨#[47, 101]⟩ : ByteArray) ++ q)), .bool true, .bool true]) (by unfold results PCall.val cPath; simp only [Tryz.results8]; go_simp) rfl ⟨_, _, _, cPath 12 0 ⟨#[47, 100]⟩, cPath 0 1 ((⟨#[47, 101]⟩ : ByteArray) ++ q), true, by rw [(show pairOk 39 n m = true from rfl)], fun _ => ⟨rfl, by rw [← HQ.out]; rfl, rfl⟩, HF.out.1, HF.out.2⟩
end Go.Proofs.YtjkenolgkkknaaaGreatDoor
