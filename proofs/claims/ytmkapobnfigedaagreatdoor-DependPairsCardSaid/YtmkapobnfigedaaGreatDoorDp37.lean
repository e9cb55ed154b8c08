/- Part of the proof of a law of chapter 15. Conditions: none. -/
import Derived.Test.YtmkapobnfigedaaGreatDoorDp36
set_option linter.unusedVariables false
set_option linter.unusedSimpArgs false
set_option maxRecDepth 100000
set_option maxHeartbeats 8000000
namespace Go.Proofs.YtmkapobnfigedaaGreatDoor
open Go.RowKit
section
variable {w0 w w' w1 w2 : World} {S S' : PSt} {c : PCall} {bs bh bc : Nat} {ks : List PKey}
theorem gather_k0 (h : GAt w0 w S S' c bs bh bc ks) (hl : ks.length ≤ 1000) (hwf : S.wf) (hwf' : S'.wf) (ok : GatherOk S c) (hk : c.kind = 0) :
 Calls Tryz.prog 74 #[.pointer (some ⟨w0.heap.size, 0, none⟩)] w fun e w' => e = .returned (.bool true) ∧ GAt w0 w' S S' c bs bh bc (ks ++ ((entryK S c.path ++ inodeK S' c.path) ++ [⟨-1 - c.core, ⟨#[]⟩⟩])) := by
 obtain ⟨out0, hgb0, -⟩ := h.own
 have iG0 := hgb0.lt
 have ga0 : w.cell? ⟨w0.heap.size, 0, none⟩ = some (.pointer (some ⟨bs, 0, none⟩)) := hgb0.cell 0
 have gb0 : w.cell? ⟨w0.heap.size, 1, none⟩ = some (.pointer (some ⟨bh, 0, none⟩)) := hgb0.cell 1
 have gc0 : w.cell? ⟨w0.heap.size, 2, none⟩ = some (.pointer (some ⟨bc, 0, none⟩)) := hgb0.cell 2
 have iC0 : BlockLt bc w := ⟨Nat.lt_of_lt_of_le h.cp.1 h.below.size⟩
 have cp0 : ∀ (t : Nat) (u : Value), c.cells[t]? = some u → w.cell? ⟨bc, t, none⟩ = some u := fun t u hu => (h.below.cell (p := ⟨bc, t, none⟩) h.cp.1).trans (h.cp.2 t u hu)
 have cc0 : w.cell? ⟨bc, 1, none⟩ = some (.int .i64 c.core) := cp0 1 _ rfl
 have cf0 : w.cell? ⟨bc, 5, none⟩ = some (.string c.path) := cp0 5 _ rfl
 have cg0 : w.cell? ⟨bc, 6, none⟩ = some (.string c.path2) := cp0 6 _ rfl
 have cd0 : w.cell? ⟨bc, 7, none⟩ = some (.string c.data) := cp0 7 _ rfl
 have ck : w.cell? ⟨bc, 0, none⟩ = some (.int .i64 0) := by rw [← hk]; exact cp0 0 _ rfl
 have hcore := ok.core
 have hml := hwf.2.2.1
 have ew : IntKind.i64.wrap (-1 - c.core) = -1 - c.core := I64.wrap (by unfold I64; omega)
 have lw : ∀ p, PathOk p → (walkK S p).length ≤ 10 ∧ (entryK S p).length ≤ 11 := fun p hp => by
  have := parse_len hp.1; unfold entryK walkK thruK; rw [lP, lM, List.length_range]; exact ⟨by omega, by simp; omega⟩
 have hc1 := entry109 h (by omega) hwf (ok.path (by omega))
 clear cp0
 go_enter Tryz.func74, Tryz.ntmps74
 go_upto_region 6 with (go_at_call 109; refine hc1.mono ?_; rintro e w1 ⟨rfl, hg1, hk1⟩)
 obtain ⟨out1, hgb1, -⟩ := hg1.own
 have iG1 := hgb1.lt
 have ga1 : w1.cell? ⟨w0.heap.size, 0, none⟩ = some (.pointer (some ⟨bs, 0, none⟩)) := hgb1.cell 0
 have gb1 : w1.cell? ⟨w0.heap.size, 1, none⟩ = some (.pointer (some ⟨bh, 0, none⟩)) := hgb1.cell 1
 have gc1 : w1.cell? ⟨w0.heap.size, 2, none⟩ = some (.pointer (some ⟨bc, 0, none⟩)) := hgb1.cell 2
 have iC1 : BlockLt bc w1 := ⟨Nat.lt_of_lt_of_le hg1.cp.1 hg1.below.size⟩
 have cp1 : ∀ (t : Nat) (u : Value), c.cells[t]? = some u → w1.cell? ⟨bc, t, none⟩ = some u := fun t u hu => (hg1.below.cell (p := ⟨bc, t, none⟩) hg1.cp.1).trans (hg1.cp.2 t u hu)
 have cc1 : w1.cell? ⟨bc, 1, none⟩ = some (.int .i64 c.core) := cp1 1 _ rfl
 have cf1 : w1.cell? ⟨bc, 5, none⟩ = some (.string c.path) := cp1 5 _ rfl
 have cg1 : w1.cell? ⟨bc, 6, none⟩ = some (.string c.path2) := cp1 6 _ rfl
 have cd1 : w1.cell? ⟨bc, 7, none⟩ = some (.string c.data) := cp1 7 _ rfl
 have hc2 := inode110 (hg1.later (bel w1 w1.drew)) (by simp only [lP]; have q2 := (lw c.path (ok.path (by omega))).2; omega) hg1.sh hwf' c.path
 refine wp_region_eff [12] true (fun w' => w'.cell? ⟨w0.heap.size, 1, none⟩ = some (.pointer (some ⟨bh, 0, none⟩)) ∧ w'.cell? ⟨w0.heap.size, 2, none⟩ = some (.pointer (some ⟨bc, 0, none⟩)) ∧ w'.cell? ⟨bc, 5, none⟩ = some (.string c.path)) (by kernel_rfl) (by kernel_rfl) ?_ ?_
 · (try dsimp only); (repeat' apply And.intro) <;> go_simp
 repeat
  refine wpL_look rfl rfl ?_; apply Exists.intro; refine ⟨?_, ?_⟩
  focus
   rintro w' ⟨s0, s1, s2⟩; go_simp
   first | done | rfl
  simp only [Act.put, sA, sZ, sS]
 refine wpL_act rfl rfl ?_
 refine eff_call 110 #[.pointer (some ⟨w0.heap.size, 0, none⟩), .pointer (some ⟨bh, 0, none⟩), .string c.path] ?_ ((hc2).mono ?_)
 · go_simp
   first | done | rfl
 rintro e w2 ⟨rfl, hg2, hk2⟩
 refine ⟨_, rfl, .inr ⟨rfl, rfl⟩, ?_⟩
 refine wpL_end ?_
 obtain ⟨out2, hgb2, -⟩ := hg2.own
 have iG2 := hgb2.lt
 have ga2 : w2.cell? ⟨w0.heap.size, 0, none⟩ = some (.pointer (some ⟨bs, 0, none⟩)) := hgb2.cell 0
 have gb2 : w2.cell? ⟨w0.heap.size, 1, none⟩ = some (.pointer (some ⟨bh, 0, none⟩)) := hgb2.cell 1
 have gc2 : w2.cell? ⟨w0.heap.size, 2, none⟩ = some (.pointer (some ⟨bc, 0, none⟩)) := hgb2.cell 2
 have iC2 : BlockLt bc w2 := ⟨Nat.lt_of_lt_of_le hg2.cp.1 hg2.below.size⟩
 have cp2 : ∀ (t : Nat) (u : Value), c.cells[t]? = some u → w2.cell? ⟨bc, t, none⟩ = some u := fun t u hu => (hg2.below.cell (p := ⟨bc, t, none⟩) hg2.cp.1).trans (hg2.cp.2 t u hu)
 have cc2 : w2.cell? ⟨bc, 1, none⟩ = some (.int .i64 c.core) := cp2 1 _ rfl
 have cf2 : w2.cell? ⟨bc, 5, none⟩ = some (.string c.path) := cp2 5 _ rfl
 have cg2 : w2.cell? ⟨bc, 6, none⟩ = some (.string c.path2) := cp2 6 _ rfl
 have cd2 : w2.cell? ⟨bc, 7, none⟩ = some (.string c.data) := cp2 7 _ rfl
 have hc3 := add113 hg2 (by simp only [lP]; have q2 := (lw c.path (ok.path (by omega))).2; simp only [inodeK, List.length_cons, List.length_nil]; omega) (-1 - c.core) ⟨#[]⟩
 go_wp2_with (go_at_call 113; refine hc3.mono ?_; rintro e w3 ⟨rfl, hg3, hk3⟩)
 go_ret
 refine ⟨rfl, ?_⟩
 simpa only [List.append_assoc] using hg3
theorem gather_k1 (h : GAt w0 w S S' c bs bh bc ks) (hl : ks.length ≤ 1000) (hwf : S.wf) (hwf' : S'.wf) (ok : GatherOk S c) (hk : c.kind = 1) :
 Calls Tryz.prog 74 #[.pointer (some ⟨w0.heap.size, 0, none⟩)] w fun e w' => e = .returned (.bool true) ∧ GAt w0 w' S S' c bs bh bc (ks ++ ((entryK S c.path ++ inodeK S' c.path) ++ [⟨-1 - c.core, ⟨#[]⟩⟩])) := by
 obtain ⟨out0, hgb0, -⟩ := h.own
 have iG0 := hgb0.lt
 have ga0 : w.cell? ⟨w0.heap.size, 0, none⟩ = some (.pointer (some ⟨bs, 0, none⟩)) := hgb0.cell 0
 have gb0 : w.cell? ⟨w0.heap.size, 1, none⟩ = some (.pointer (some ⟨bh, 0, none⟩)) := hgb0.cell 1
 have gc0 : w.cell? ⟨w0.heap.size, 2, none⟩ = some (.pointer (some ⟨bc, 0, none⟩)) := hgb0.cell 2
 have iC0 : BlockLt bc w := ⟨Nat.lt_of_lt_of_le h.cp.1 h.below.size⟩
 have cp0 : ∀ (t : Nat) (u : Value), c.cells[t]? = some u → w.cell? ⟨bc, t, none⟩ = some u := fun t u hu => (h.below.cell (p := ⟨bc, t, none⟩) h.cp.1).trans (h.cp.2 t u hu)
 have cc0 : w.cell? ⟨bc, 1, none⟩ = some (.int .i64 c.core) := cp0 1 _ rfl
 have cf0 : w.cell? ⟨bc, 5, none⟩ = some (.string c.path) := cp0 5 _ rfl
 have cg0 : w.cell? ⟨bc, 6, none⟩ = some (.string c.path2) := cp0 6 _ rfl
 have cd0 : w.cell? ⟨bc, 7, none⟩ = some (.string c.data) := cp0 7 _ rfl
 have ck : w.cell? ⟨bc, 0, none⟩ = some (.int .i64 1) := by rw [← hk]; exact cp0 0 _ rfl
 have hcore := ok.core
 have hml := hwf.2.2.1
 have ew : IntKind.i64.wrap (-1 - c.core) = -1 - c.core := I64.wrap (by unfold I64; omega)
 have lw : ∀ p, PathOk p → (walkK S p).length ≤ 10 ∧ (entryK S p).length ≤ 11 := fun p hp => by
  have := parse_len hp.1; unfold entryK walkK thruK; rw [lP, lM, List.length_range]; exact ⟨by omega, by simp; omega⟩
 have hc1 := entry109 h (by omega) hwf (ok.path (by omega))
 clear cp0
 go_enter Tryz.func74, Tryz.ntmps74
 go_upto_region 6 with (go_at_call 109; refine hc1.mono ?_; rintro e w1 ⟨rfl, hg1, hk1⟩)
 obtain ⟨out1, hgb1, -⟩ := hg1.own
 have iG1 := hgb1.lt
 have ga1 : w1.cell? ⟨w0.heap.size, 0, none⟩ = some (.pointer (some ⟨bs, 0, none⟩)) := hgb1.cell 0
 have gb1 : w1.cell? ⟨w0.heap.size, 1, none⟩ = some (.pointer (some ⟨bh, 0, none⟩)) := hgb1.cell 1
 have gc1 : w1.cell? ⟨w0.heap.size, 2, none⟩ = some (.pointer (some ⟨bc, 0, none⟩)) := hgb1.cell 2
 have iC1 : BlockLt bc w1 := ⟨Nat.lt_of_lt_of_le hg1.cp.1 hg1.below.size⟩
 have cp1 : ∀ (t : Nat) (u : Value), c.cells[t]? = some u → w1.cell? ⟨bc, t, none⟩ = some u := fun t u hu => (hg1.below.cell (p := ⟨bc, t, none⟩) hg1.cp.1).trans (hg1.cp.2 t u hu)
 have cc1 : w1.cell? ⟨bc, 1, none⟩ = some (.int .i64 c.core) := cp1 1 _ rfl
 have cf1 : w1.cell? ⟨bc, 5, none⟩ = some (.string c.path) := cp1 5 _ rfl
 have cg1 : w1.cell? ⟨bc, 6, none⟩ = some (.string c.path2) := cp1 6 _ rfl
 have cd1 : w1.cell? ⟨bc, 7, none⟩ = some (.string c.data) := cp1 7 _ rfl
 have hc2 := inode110 (hg1.later (bel w1 w1.drew)) (by simp only [lP]; have q2 := (lw c.path (ok.path (by omega))).2; omega) hg1.sh hwf' c.path
 refine wp_region_eff [12] true (fun w' => w'.cell? ⟨w0.heap.size, 1, none⟩ = some (.pointer (some ⟨bh, 0, none⟩)) ∧ w'.cell? ⟨w0.heap.size, 2, none⟩ = some (.pointer (some ⟨bc, 0, none⟩)) ∧ w'.cell? ⟨bc, 5, none⟩ = some (.string c.path)) (by kernel_rfl) (by kernel_rfl) ?_ ?_
 · (try dsimp only); (repeat' apply And.intro) <;> go_simp
 repeat
  refine wpL_look rfl rfl ?_; apply Exists.intro; refine ⟨?_, ?_⟩
  focus
   rintro w' ⟨s0, s1, s2⟩; go_simp
   first | done | rfl
  simp only [Act.put, sA, sZ, sS]
 refine wpL_act rfl rfl ?_
 refine eff_call 110 #[.pointer (some ⟨w0.heap.size, 0, none⟩), .pointer (some ⟨bh, 0, none⟩), .string c.path] ?_ ((hc2).mono ?_)
 · go_simp
   first | done | rfl
 rintro e w2 ⟨rfl, hg2, hk2⟩
 refine ⟨_, rfl, .inr ⟨rfl, rfl⟩, ?_⟩
 refine wpL_end ?_
 obtain ⟨out2, hgb2, -⟩ := hg2.own
 have iG2 := hgb2.lt
 have ga2 : w2.cell? ⟨w0.heap.size, 0, none⟩ = some (.pointer (some ⟨bs, 0, none⟩)) := hgb2.cell 0
 have gb2 : w2.cell? ⟨w0.heap.size, 1, none⟩ = some (.pointer (some ⟨bh, 0, none⟩)) := hgb2.cell 1
 have gc2 : w2.cell? ⟨w0.heap.size, 2, none⟩ = some (.pointer (some ⟨bc, 0, none⟩)) := hgb2.cell 2
 have iC2 : BlockLt bc w2 := ⟨Nat.lt_of_lt_of_le hg2.cp.1 hg2.below.size⟩
 have cp2 : ∀ (t : Nat) (u : Value), c.cells[t]? = some u → w2.cell? ⟨bc, t, none⟩ = some u := fun t u hu => (hg2.below.cell (p := ⟨bc, t, none⟩) hg2.cp.1).trans (hg2.cp.2 t u hu)
 have cc2 : w2.cell? ⟨bc, 1, none⟩ = some (.int .i64 c.core) := cp2 1 _ rfl
 have cf2 : w2.cell? ⟨bc, 5, none⟩ = some (.string c.path) := cp2 5 _ rfl
 have cg2 : w2.cell? ⟨bc, 6, none⟩ = some (.string c.path2) := cp2 6 _ rfl
 have cd2 : w2.cell? ⟨bc, 7, none⟩ = some (.string c.data) := cp2 7 _ rfl
 have hc3 := add113 hg2 (by simp only [lP]; have q2 := (lw c.path (ok.path (by omega))).2; simp only [inodeK, List.length_cons, List.length_nil]; omega) (-1 - c.core) ⟨#[]⟩
 go_wp2_with (go_at_call 113; refine hc3.mono ?_; rintro e w3 ⟨rfl, hg3, hk3⟩)
 go_ret
 refine ⟨rfl, ?_⟩
 simpa only [List.append_assoc] using hg3
theorem gather_k2 (h : GAt w0 w S S' c bs bh bc ks) (hl : ks.length ≤ 1000) (hwf : S.wf) (hwf' : S'.wf) (ok : GatherOk S c) (hk : c.kind = 2) :
 Calls Tryz.prog 74 #[.pointer (some ⟨w0.heap.size, 0, none⟩)] w fun e w' => e = .returned (.bool true) ∧ GAt w0 w' S S' c bs bh bc (ks ++ ((walkK S c.path ++ inodeK S c.path) ++ [⟨-1 - c.core, ⟨#[]⟩⟩])) := by
 obtain ⟨out0, hgb0, -⟩ := h.own
 have iG0 := hgb0.lt
 have ga0 : w.cell? ⟨w0.heap.size, 0, none⟩ = some (.pointer (some ⟨bs, 0, none⟩)) := hgb0.cell 0
 have gb0 : w.cell? ⟨w0.heap.size, 1, none⟩ = some (.pointer (some ⟨bh, 0, none⟩)) := hgb0.cell 1
 have gc0 : w.cell? ⟨w0.heap.size, 2, none⟩ = some (.pointer (some ⟨bc, 0, none⟩)) := hgb0.cell 2
 have iC0 : BlockLt bc w := ⟨Nat.lt_of_lt_of_le h.cp.1 h.below.size⟩
 have cp0 : ∀ (t : Nat) (u : Value), c.cells[t]? = some u → w.cell? ⟨bc, t, none⟩ = some u := fun t u hu => (h.below.cell (p := ⟨bc, t, none⟩) h.cp.1).trans (h.cp.2 t u hu)
 have cc0 : w.cell? ⟨bc, 1, none⟩ = some (.int .i64 c.core) := cp0 1 _ rfl
 have cf0 : w.cell? ⟨bc, 5, none⟩ = some (.string c.path) := cp0 5 _ rfl
 have cg0 : w.cell? ⟨bc, 6, none⟩ = some (.string c.path2) := cp0 6 _ rfl
 have cd0 : w.cell? ⟨bc, 7, none⟩ = some (.string c.data) := cp0 7 _ rfl
 have ck : w.cell? ⟨bc, 0, none⟩ = some (.int .i64 2) := by rw [← hk]; exact cp0 0 _ rfl
 have hcore := ok.core
 have hml := hwf.2.2.1
 have ew : IntKind.i64.wrap (-1 - c.core) = -1 - c.core := I64.wrap (by unfold I64; omega)
 have lw : ∀ p, PathOk p → (walkK S p).length ≤ 10 ∧ (entryK S p).length ≤ 11 := fun p hp => by
  have := parse_len hp.1; unfold entryK walkK thruK; rw [lP, lM, List.length_range]; exact ⟨by omega, by simp; omega⟩
 have hc1 := walk111 h (by omega) hwf (ok.path (by omega))
 clear cp0
 go_enter Tryz.func74, Tryz.ntmps74
 go_upto_region 9 with (go_at_call 111; refine hc1.mono ?_; rintro e w1 ⟨rfl, hg1, hk1⟩)
 obtain ⟨out1, hgb1, -⟩ := hg1.own
 have iG1 := hgb1.lt
 have ga1 : w1.cell? ⟨w0.heap.size, 0, none⟩ = some (.pointer (some ⟨bs, 0, none⟩)) := hgb1.cell 0
 have gb1 : w1.cell? ⟨w0.heap.size, 1, none⟩ = some (.pointer (some ⟨bh, 0, none⟩)) := hgb1.cell 1
 have gc1 : w1.cell? ⟨w0.heap.size, 2, none⟩ = some (.pointer (some ⟨bc, 0, none⟩)) := hgb1.cell 2
 have iC1 : BlockLt bc w1 := ⟨Nat.lt_of_lt_of_le hg1.cp.1 hg1.below.size⟩
 have cp1 : ∀ (t : Nat) (u : Value), c.cells[t]? = some u → w1.cell? ⟨bc, t, none⟩ = some u := fun t u hu => (hg1.below.cell (p := ⟨bc, t, none⟩) hg1.cp.1).trans (hg1.cp.2 t u hu)
 have cc1 : w1.cell? ⟨bc, 1, none⟩ = some (.int .i64 c.core) := cp1 1 _ rfl
 have cf1 : w1.cell? ⟨bc, 5, none⟩ = some (.string c.path) := cp1 5 _ rfl
 have cg1 : w1.cell? ⟨bc, 6, none⟩ = some (.string c.path2) := cp1 6 _ rfl
 have cd1 : w1.cell? ⟨bc, 7, none⟩ = some (.string c.data) := cp1 7 _ rfl
 have hc2 := inode110 (hg1.later (bel w1 w1.drew)) (by simp only [lP]; have q1 := (lw c.path (ok.path (by omega))).1; omega) hg1.sp hwf c.path
 refine wp_region_eff [12] true (fun w' => w'.cell? ⟨w0.heap.size, 0, none⟩ = some (.pointer (some ⟨bs, 0, none⟩)) ∧ w'.cell? ⟨w0.heap.size, 2, none⟩ = some (.pointer (some ⟨bc, 0, none⟩)) ∧ w'.cell? ⟨bc, 5, none⟩ = some (.string c.path)) (by kernel_rfl) (by kernel_rfl) ?_ ?_
 · (try dsimp only); (repeat' apply And.intro) <;> go_simp
 repeat
  refine wpL_look rfl rfl ?_; apply Exists.intro; refine ⟨?_, ?_⟩
  focus
   rintro w' ⟨s0, s1, s2⟩; go_simp
   first | done | rfl
  simp only [Act.put, sA, sZ, sS]
 refine wpL_act rfl rfl ?_
 refine eff_call 110 #[.pointer (some ⟨w0.heap.size, 0, none⟩), .pointer (some ⟨bs, 0, none⟩), .string c.path] ?_ ((hc2).mono ?_)
 · go_simp
   first | done | rfl
 rintro e w2 ⟨rfl, hg2, hk2⟩
 refine ⟨_, rfl, .inr ⟨rfl, rfl⟩, ?_⟩
 refine wpL_end ?_
 obtain ⟨out2, hgb2, -⟩ := hg2.own
 have iG2 := hgb2.lt
 have ga2 : w2.cell? ⟨w0.heap.size, 0, none⟩ = some (.pointer (some ⟨bs, 0, none⟩)) := hgb2.cell 0
 have gb2 : w2.cell? ⟨w0.heap.size, 1, none⟩ = some (.pointer (some ⟨bh, 0, none⟩)) := hgb2.cell 1
 have gc2 : w2.cell? ⟨w0.heap.size, 2, none⟩ = some (.pointer (some ⟨bc, 0, none⟩)) := hgb2.cell 2
 have iC2 : BlockLt bc w2 := ⟨Nat.lt_of_lt_of_le hg2.cp.1 hg2.below.size⟩
 have cp2 : ∀ (t : Nat) (u : Value), c.cells[t]? = some u → w2.cell? ⟨bc, t, none⟩ = some u := fun t u hu => (hg2.below.cell (p := ⟨bc, t, none⟩) hg2.cp.1).trans (hg2.cp.2 t u hu)
 have cc2 : w2.cell? ⟨bc, 1, none⟩ = some (.int .i64 c.core) := cp2 1 _ rfl
 have cf2 : w2.cell? ⟨bc, 5, none⟩ = some (.string c.path) := cp2 5 _ rfl
 have cg2 : w2.cell? ⟨bc, 6, none⟩ = some (.string c.path2) := cp2 6 _ rfl
 have cd2 : w2.cell? ⟨bc, 7, none⟩ = some (.string c.data) := cp2 7 _ rfl
 have hc3 := add113 hg2 (by simp only [lP]; have q1 := (lw c.path (ok.path (by omega))).1; simp only [inodeK, List.length_cons, List.length_nil]; omega) (-1 - c.core) ⟨#[]⟩
 go_wp2_with (go_at_call 113; refine hc3.mono ?_; rintro e w3 ⟨rfl, hg3, hk3⟩)
 go_ret
 refine ⟨rfl, ?_⟩
 simpa only [List.append_assoc] using hg3
theorem gather_k3 (h : GAt w0 w S S' c bs bh bc ks) (hl : ks.length ≤ 1000) (hwf : S.wf) (hwf' : S'.wf) (ok : GatherOk S c) (hk : c.kind = 3) :
 Calls Tryz.prog 74 #[.pointer (some ⟨w0.heap.size, 0, none⟩)] w fun e w' => e = .returned (.bool true) ∧ GAt w0 w' S S' c bs bh bc (ks ++ (openedK S c ++ [⟨-1 - c.core, ⟨#[]⟩⟩])) := by
 obtain ⟨out0, hgb0, -⟩ := h.own
 have iG0 := hgb0.lt
 have ga0 : w.cell? ⟨w0.heap.size, 0, none⟩ = some (.pointer (some ⟨bs, 0, none⟩)) := hgb0.cell 0
 have gb0 : w.cell? ⟨w0.heap.size, 1, none⟩ = some (.pointer (some ⟨bh, 0, none⟩)) := hgb0.cell 1
 have gc0 : w.cell? ⟨w0.heap.size, 2, none⟩ = some (.pointer (some ⟨bc, 0, none⟩)) := hgb0.cell 2
 have iC0 : BlockLt bc w := ⟨Nat.lt_of_lt_of_le h.cp.1 h.below.size⟩
 have cp0 : ∀ (t : Nat) (u : Value), c.cells[t]? = some u → w.cell? ⟨bc, t, none⟩ = some u := fun t u hu => (h.below.cell (p := ⟨bc, t, none⟩) h.cp.1).trans (h.cp.2 t u hu)
 have cc0 : w.cell? ⟨bc, 1, none⟩ = some (.int .i64 c.core) := cp0 1 _ rfl
 have cf0 : w.cell? ⟨bc, 5, none⟩ = some (.string c.path) := cp0 5 _ rfl
 have cg0 : w.cell? ⟨bc, 6, none⟩ = some (.string c.path2) := cp0 6 _ rfl
 have cd0 : w.cell? ⟨bc, 7, none⟩ = some (.string c.data) := cp0 7 _ rfl
 have ck : w.cell? ⟨bc, 0, none⟩ = some (.int .i64 3) := by rw [← hk]; exact cp0 0 _ rfl
 have hcore := ok.core
 have hml := hwf.2.2.1
 have ew : IntKind.i64.wrap (-1 - c.core) = -1 - c.core := I64.wrap (by unfold I64; omega)
 have lw : ∀ p, PathOk p → (walkK S p).length ≤ 10 ∧ (entryK S p).length ≤ 11 := fun p hp => by
  have := parse_len hp.1; unfold entryK walkK thruK; rw [lP, lM, List.length_range]; exact ⟨by omega, by simp; omega⟩
 have hc1 := opened112 h (by omega) hwf (ok.fd (by omega))
 clear cp0
 go_enter Tryz.func74, Tryz.ntmps74
 go_upto_region 29 with (go_at_call 112; refine hc1.mono ?_; rintro e w1 ⟨rfl, hg1, hk1⟩)
 obtain ⟨out1, hgb1, -⟩ := hg1.own
 have iG1 := hgb1.lt
 have ga1 : w1.cell? ⟨w0.heap.size, 0, none⟩ = some (.pointer (some ⟨bs, 0, none⟩)) := hgb1.cell 0
 have gb1 : w1.cell? ⟨w0.heap.size, 1, none⟩ = some (.pointer (some ⟨bh, 0, none⟩)) := hgb1.cell 1
 have gc1 : w1.cell? ⟨w0.heap.size, 2, none⟩ = some (.pointer (some ⟨bc, 0, none⟩)) := hgb1.cell 2
 have iC1 : BlockLt bc w1 := ⟨Nat.lt_of_lt_of_le hg1.cp.1 hg1.below.size⟩
 have cp1 : ∀ (t : Nat) (u : Value), c.cells[t]? = some u → w1.cell? ⟨bc, t, none⟩ = some u := fun t u hu => (hg1.below.cell (p := ⟨bc, t, none⟩) hg1.cp.1).trans (hg1.cp.2 t u hu)
 have cc1 : w1.cell? ⟨bc, 1, none⟩ = some (.int .i64 c.core) := cp1 1 _ rfl
 have cf1 : w1.cell? ⟨bc, 5, none⟩ = some (.string c.path) := cp1 5 _ rfl
 have cg1 : w1.cell? ⟨bc, 6, none⟩ = some (.string c.path2) := cp1 6 _ rfl
 have cd1 : w1.cell? ⟨bc, 7, none⟩ = some (.string c.data) := cp1 7 _ rfl
 have hc2 := add113 hg1 (by simp only [lP]; simp only [openedK, List.length_cons, List.length_nil]; omega) (-1 - c.core) ⟨#[]⟩
 go_wp2_with (go_at_call 113; refine hc2.mono ?_; rintro e w2 ⟨rfl, hg2, hk2⟩)
 go_ret
 refine ⟨rfl, ?_⟩
 simpa only [List.append_assoc] using hg2
theorem gather_k6 (h : GAt w0 w S S' c bs bh bc ks) (hl : ks.length ≤ 1000) (hwf : S.wf) (hwf' : S'.wf) (ok : GatherOk S c) (hk : c.kind = 6) :
 Calls Tryz.prog 74 #[.pointer (some ⟨w0.heap.size, 0, none⟩)] w fun e w' => e = .returned (.bool true) ∧ GAt w0 w' S S' c bs bh bc (ks ++ (openedK S c ++ [⟨-1 - c.core, ⟨#[]⟩⟩])) := by
 obtain ⟨out0, hgb0, -⟩ := h.own
 have iG0 := hgb0.lt
 have ga0 : w.cell? ⟨w0.heap.size, 0, none⟩ = some (.pointer (some ⟨bs, 0, none⟩)) := hgb0.cell 0
 have gb0 : w.cell? ⟨w0.heap.size, 1, none⟩ = some (.pointer (some ⟨bh, 0, none⟩)) := hgb0.cell 1
 have gc0 : w.cell? ⟨w0.heap.size, 2, none⟩ = some (.pointer (some ⟨bc, 0, none⟩)) := hgb0.cell 2
 have iC0 : BlockLt bc w := ⟨Nat.lt_of_lt_of_le h.cp.1 h.below.size⟩
 have cp0 : ∀ (t : Nat) (u : Value), c.cells[t]? = some u → w.cell? ⟨bc, t, none⟩ = some u := fun t u hu => (h.below.cell (p := ⟨bc, t, none⟩) h.cp.1).trans (h.cp.2 t u hu)
 have cc0 : w.cell? ⟨bc, 1, none⟩ = some (.int .i64 c.core) := cp0 1 _ rfl
 have cf0 : w.cell? ⟨bc, 5, none⟩ = some (.string c.path) := cp0 5 _ rfl
 have cg0 : w.cell? ⟨bc, 6, none⟩ = some (.string c.path2) := cp0 6 _ rfl
 have cd0 : w.cell? ⟨bc, 7, none⟩ = some (.string c.data) := cp0 7 _ rfl
 have ck : w.cell? ⟨bc, 0, none⟩ = some (.int .i64 6) := by rw [← hk]; exact cp0 0 _ rfl
 have hcore := ok.core
 have hml := hwf.2.2.1
 have ew : IntKind.i64.wrap (-1 - c.core) = -1 - c.core := I64.wrap (by unfold I64; omega)
 have lw : ∀ p, PathOk p → (walkK S p).length ≤ 10 ∧ (entryK S p).length ≤ 11 := fun p hp => by
  have := parse_len hp.1; unfold entryK walkK thruK; rw [lP, lM, List.length_range]; exact ⟨by omega, by simp; omega⟩
 have hc1 := opened112 h (by omega) hwf (ok.fd (by omega))
 clear cp0
 go_enter Tryz.func74, Tryz.ntmps74
 go_upto_region 29 with (go_at_call 112; refine hc1.mono ?_; rintro e w1 ⟨rfl, hg1, hk1⟩)
 obtain ⟨out1, hgb1, -⟩ := hg1.own
 have iG1 := hgb1.lt
 have ga1 : w1.cell? ⟨w0.heap.size, 0, none⟩ = some (.pointer (some ⟨bs, 0, none⟩)) := hgb1.cell 0
 have gb1 : w1.cell? ⟨w0.heap.size, 1, none⟩ = some (.pointer (some ⟨bh, 0, none⟩)) := hgb1.cell 1
 have gc1 : w1.cell? ⟨w0.heap.size, 2, none⟩ = some (.pointer (some ⟨bc, 0, none⟩)) := hgb1.cell 2
 have iC1 : BlockLt bc w1 := ⟨Nat.lt_of_lt_of_le hg1.cp.1 hg1.below.size⟩
 have cp1 : ∀ (t : Nat) (u : Value), c.cells[t]? = some u → w1.cell? ⟨bc, t, none⟩ = some u := fun t u hu => (hg1.below.cell (p := ⟨bc, t, none⟩) hg1.cp.1).trans (hg1.cp.2 t u hu)
 have cc1 : w1.cell? ⟨bc, 1, none⟩ = some (.int .i64 c.core) := cp1 1 _ rfl
 have cf1 : w1.cell? ⟨bc, 5, none⟩ = some (.string c.path) := cp1 5 _ rfl
 have cg1 : w1.cell? ⟨bc, 6, none⟩ = some (.string c.path2) := cp1 6 _ rfl
 have cd1 : w1.cell? ⟨bc, 7, none⟩ = some (.string c.data) := cp1 7 _ rfl
 have hc2 := add113 hg1 (by simp only [lP]; simp only [openedK, List.length_cons, List.length_nil]; omega) (-1 - c.core) ⟨#[]⟩
 go_wp2_with (go_at_call 113; refine hc2.mono ?_; rintro e w2 ⟨rfl, hg2, hk2⟩)
 go_ret
 refine ⟨rfl, ?_⟩
 simpa only [List.append_assoc] using hg2
theorem gather_k5 (h : GAt w0 w S S' c bs bh bc ks) (hl : ks.length ≤ 1000) (hwf : S.wf) (hwf' : S'.wf) (ok : GatherOk S c) (hk : c.kind = 5) (hd : c.data.size ≠ 0) :
 Calls Tryz.prog 74 #[.pointer (some ⟨w0.heap.size, 0, none⟩)] w fun e w' => e = .returned (.bool true) ∧ GAt w0 w' S S' c bs bh bc (ks ++ (openedK S c ++ [⟨-1 - c.core, ⟨#[]⟩⟩])) := by
 obtain ⟨out0, hgb0, -⟩ := h.own
 have iG0 := hgb0.lt
 have ga0 : w.cell? ⟨w0.heap.size, 0, none⟩ = some (.pointer (some ⟨bs, 0, none⟩)) := hgb0.cell 0
 have gb0 : w.cell? ⟨w0.heap.size, 1, none⟩ = some (.pointer (some ⟨bh, 0, none⟩)) := hgb0.cell 1
 have gc0 : w.cell? ⟨w0.heap.size, 2, none⟩ = some (.pointer (some ⟨bc, 0, none⟩)) := hgb0.cell 2
 have iC0 : BlockLt bc w := ⟨Nat.lt_of_lt_of_le h.cp.1 h.below.size⟩
 have cp0 : ∀ (t : Nat) (u : Value), c.cells[t]? = some u → w.cell? ⟨bc, t, none⟩ = some u := fun t u hu => (h.below.cell (p := ⟨bc, t, none⟩) h.cp.1).trans (h.cp.2 t u hu)
 have cc0 : w.cell? ⟨bc, 1, none⟩ = some (.int .i64 c.core) := cp0 1 _ rfl
 have cf0 : w.cell? ⟨bc, 5, none⟩ = some (.string c.path) := cp0 5 _ rfl
 have cg0 : w.cell? ⟨bc, 6, none⟩ = some (.string c.path2) := cp0 6 _ rfl
 have cd0 : w.cell? ⟨bc, 7, none⟩ = some (.string c.data) := cp0 7 _ rfl
 have ck : w.cell? ⟨bc, 0, none⟩ = some (.int .i64 5) := by rw [← hk]; exact cp0 0 _ rfl
 have hcore := ok.core
 have hml := hwf.2.2.1
 have ew : IntKind.i64.wrap (-1 - c.core) = -1 - c.core := I64.wrap (by unfold I64; omega)
 have lw : ∀ p, PathOk p → (walkK S p).length ≤ 10 ∧ (entryK S p).length ≤ 11 := fun p hp => by
  have := parse_len hp.1; unfold entryK walkK thruK; rw [lP, lM, List.length_range]; exact ⟨by omega, by simp; omega⟩
 have hc1 := opened112 h (by omega) hwf (ok.fd (by omega))
 clear cp0
 have cdz : c.data.toList.isEmpty = false := by
  rw [ByteArray.toList_eq, Bool.eq_false_iff]; intro hz; rw [List.isEmpty_iff] at hz; apply hd; show c.data.data.toList.length = 0; rw [hz]; rfl
 go_enter Tryz.func74, Tryz.ntmps74
 go_upto_region 29 with (go_at_call 112; refine hc1.mono ?_; rintro e w1 ⟨rfl, hg1, hk1⟩)
 obtain ⟨out1, hgb1, -⟩ := hg1.own
 have iG1 := hgb1.lt
 have ga1 : w1.cell? ⟨w0.heap.size, 0, none⟩ = some (.pointer (some ⟨bs, 0, none⟩)) := hgb1.cell 0
 have gb1 : w1.cell? ⟨w0.heap.size, 1, none⟩ = some (.pointer (some ⟨bh, 0, none⟩)) := hgb1.cell 1
 have gc1 : w1.cell? ⟨w0.heap.size, 2, none⟩ = some (.pointer (some ⟨bc, 0, none⟩)) := hgb1.cell 2
 have iC1 : BlockLt bc w1 := ⟨Nat.lt_of_lt_of_le hg1.cp.1 hg1.below.size⟩
 have cp1 : ∀ (t : Nat) (u : Value), c.cells[t]? = some u → w1.cell? ⟨bc, t, none⟩ = some u := fun t u hu => (hg1.below.cell (p := ⟨bc, t, none⟩) hg1.cp.1).trans (hg1.cp.2 t u hu)
 have cc1 : w1.cell? ⟨bc, 1, none⟩ = some (.int .i64 c.core) := cp1 1 _ rfl
 have cf1 : w1.cell? ⟨bc, 5, none⟩ = some (.string c.path) := cp1 5 _ rfl
 have cg1 : w1.cell? ⟨bc, 6, none⟩ = some (.string c.path2) := cp1 6 _ rfl
 have cd1 : w1.cell? ⟨bc, 7, none⟩ = some (.string c.data) := cp1 7 _ rfl
 have hc2 := add113 hg1 (by simp only [lP]; simp only [openedK, List.length_cons, List.length_nil]; omega) (-1 - c.core) ⟨#[]⟩
 go_wp2_with (go_at_call 113; refine hc2.mono ?_; rintro e w2 ⟨rfl, hg2, hk2⟩)
 go_ret
 refine ⟨rfl, ?_⟩
 simpa only [List.append_assoc] using hg2
theorem gather_k8 (h : GAt w0 w S S' c bs bh bc ks) (hl : ks.length ≤ 1000) (hwf : S.wf) (hwf' : S'.wf) (ok : GatherOk S c) (hk : c.kind = 8) :
 Calls Tryz.prog 74 #[.pointer (some ⟨w0.heap.size, 0, none⟩)] w fun e w' => e = .returned (.bool true) ∧ GAt w0 w' S S' c bs bh bc (ks ++ ((walkK S c.path ++ entryK S c.path2 ++ inodeK S c.path) ++ [⟨-1 - c.core, ⟨#[]⟩⟩])) := by
 obtain ⟨out0, hgb0, -⟩ := h.own
 have iG0 := hgb0.lt
 have ga0 : w.cell? ⟨w0.heap.size, 0, none⟩ = some (.pointer (some ⟨bs, 0, none⟩)) := hgb0.cell 0
 have gb0 : w.cell? ⟨w0.heap.size, 1, none⟩ = some (.pointer (some ⟨bh, 0, none⟩)) := hgb0.cell 1
 have gc0 : w.cell? ⟨w0.heap.size, 2, none⟩ = some (.pointer (some ⟨bc, 0, none⟩)) := hgb0.cell 2
 have iC0 : BlockLt bc w := ⟨Nat.lt_of_lt_of_le h.cp.1 h.below.size⟩
 have cp0 : ∀ (t : Nat) (u : Value), c.cells[t]? = some u → w.cell? ⟨bc, t, none⟩ = some u := fun t u hu => (h.below.cell (p := ⟨bc, t, none⟩) h.cp.1).trans (h.cp.2 t u hu)
 have cc0 : w.cell? ⟨bc, 1, none⟩ = some (.int .i64 c.core) := cp0 1 _ rfl
 have cf0 : w.cell? ⟨bc, 5, none⟩ = some (.string c.path) := cp0 5 _ rfl
 have cg0 : w.cell? ⟨bc, 6, none⟩ = some (.string c.path2) := cp0 6 _ rfl
 have cd0 : w.cell? ⟨bc, 7, none⟩ = some (.string c.data) := cp0 7 _ rfl
 have ck : w.cell? ⟨bc, 0, none⟩ = some (.int .i64 8) := by rw [← hk]; exact cp0 0 _ rfl
 have hcore := ok.core
 have hml := hwf.2.2.1
 have ew : IntKind.i64.wrap (-1 - c.core) = -1 - c.core := I64.wrap (by unfold I64; omega)
 have lw : ∀ p, PathOk p → (walkK S p).length ≤ 10 ∧ (entryK S p).length ≤ 11 := fun p hp => by
  have := parse_len hp.1; unfold entryK walkK thruK; rw [lP, lM, List.length_range]; exact ⟨by omega, by simp; omega⟩
 have hc1 := walk111 h (by omega) hwf (ok.path (by omega))
 clear cp0
 go_enter Tryz.func74, Tryz.ntmps74
 go_upto_region 19 with (go_at_call 111; refine hc1.mono ?_; rintro e w1 ⟨rfl, hg1, hk1⟩)
 obtain ⟨out1, hgb1, -⟩ := hg1.own
 have iG1 := hgb1.lt
 have ga1 : w1.cell? ⟨w0.heap.size, 0, none⟩ = some (.pointer (some ⟨bs, 0, none⟩)) := hgb1.cell 0
 have gb1 : w1.cell? ⟨w0.heap.size, 1, none⟩ = some (.pointer (some ⟨bh, 0, none⟩)) := hgb1.cell 1
 have gc1 : w1.cell? ⟨w0.heap.size, 2, none⟩ = some (.pointer (some ⟨bc, 0, none⟩)) := hgb1.cell 2
 have iC1 : BlockLt bc w1 := ⟨Nat.lt_of_lt_of_le hg1.cp.1 hg1.below.size⟩
 have cp1 : ∀ (t : Nat) (u : Value), c.cells[t]? = some u → w1.cell? ⟨bc, t, none⟩ = some u := fun t u hu => (hg1.below.cell (p := ⟨bc, t, none⟩) hg1.cp.1).trans (hg1.cp.2 t u hu)
 have cc1 : w1.cell? ⟨bc, 1, none⟩ = some (.int .i64 c.core) := cp1 1 _ rfl
 have cf1 : w1.cell? ⟨bc, 5, none⟩ = some (.string c.path) := cp1 5 _ rfl
 have cg1 : w1.cell? ⟨bc, 6, none⟩ = some (.string c.path2) := cp1 6 _ rfl
 have cd1 : w1.cell? ⟨bc, 7, none⟩ = some (.string c.data) := cp1 7 _ rfl
 have hc2 := entry109 hg1 (by simp only [lP]; have q1 := (lw c.path (ok.path (by omega))).1; omega) hwf (ok.path2 (by omega))
 go_upto_region 20 with (go_at_call 109; refine hc2.mono ?_; rintro e w2 ⟨rfl, hg2, hk2⟩)
 obtain ⟨out2, hgb2, -⟩ := hg2.own
 have iG2 := hgb2.lt
 have ga2 : w2.cell? ⟨w0.heap.size, 0, none⟩ = some (.pointer (some ⟨bs, 0, none⟩)) := hgb2.cell 0
 have gb2 : w2.cell? ⟨w0.heap.size, 1, none⟩ = some (.pointer (some ⟨bh, 0, none⟩)) := hgb2.cell 1
 have gc2 : w2.cell? ⟨w0.heap.size, 2, none⟩ = some (.pointer (some ⟨bc, 0, none⟩)) := hgb2.cell 2
 have iC2 : BlockLt bc w2 := ⟨Nat.lt_of_lt_of_le hg2.cp.1 hg2.below.size⟩
 have cp2 : ∀ (t : Nat) (u : Value), c.cells[t]? = some u → w2.cell? ⟨bc, t, none⟩ = some u := fun t u hu => (hg2.below.cell (p := ⟨bc, t, none⟩) hg2.cp.1).trans (hg2.cp.2 t u hu)
 have cc2 : w2.cell? ⟨bc, 1, none⟩ = some (.int .i64 c.core) := cp2 1 _ rfl
 have cf2 : w2.cell? ⟨bc, 5, none⟩ = some (.string c.path) := cp2 5 _ rfl
 have cg2 : w2.cell? ⟨bc, 6, none⟩ = some (.string c.path2) := cp2 6 _ rfl
 have cd2 : w2.cell? ⟨bc, 7, none⟩ = some (.string c.data) := cp2 7 _ rfl
 have hc3 := inode110 (hg2.later (bel w2 w2.drew)) (by simp only [lP]; have q1 := (lw c.path (ok.path (by omega))).1; have q3 := (lw c.path2 (ok.path2 (by omega))).2; omega) hg2.sp hwf c.path
 refine wp_region_eff [12] true (fun w' => w'.cell? ⟨w0.heap.size, 0, none⟩ = some (.pointer (some ⟨bs, 0, none⟩)) ∧ w'.cell? ⟨w0.heap.size, 2, none⟩ = some (.pointer (some ⟨bc, 0, none⟩)) ∧ w'.cell? ⟨bc, 5, none⟩ = some (.string c.path)) (by kernel_rfl) (by kernel_rfl) ?_ ?_
 · (try dsimp only); (repeat' apply And.intro) <;> go_simp
 repeat
  refine wpL_look rfl rfl ?_; apply Exists.intro; refine ⟨?_, ?_⟩
  focus
   rintro w' ⟨s0, s1, s2⟩; go_simp
   first | done | rfl
  simp only [Act.put, sA, sZ, sS]
 refine wpL_act rfl rfl ?_
 refine eff_call 110 #[.pointer (some ⟨w0.heap.size, 0, none⟩), .pointer (some ⟨bs, 0, none⟩), .string c.path] ?_ ((hc3).mono ?_)
 · go_simp
   first | done | rfl
 rintro e w3 ⟨rfl, hg3, hk3⟩
 refine ⟨_, rfl, .inr ⟨rfl, rfl⟩, ?_⟩
 refine wpL_end ?_
 obtain ⟨out3, hgb3, -⟩ := hg3.own
 have iG3 := hgb3.lt
 have ga3 : w3.cell? ⟨w0.heap.size, 0, none⟩ = some (.pointer (some ⟨bs, 0, none⟩)) := hgb3.cell 0
 have gb3 : w3.cell? ⟨w0.heap.size, 1, none⟩ = some (.pointer (some ⟨bh, 0, none⟩)) := hgb3.cell 1
 have gc3 : w3.cell? ⟨w0.heap.size, 2, none⟩ = some (.pointer (some ⟨bc, 0, none⟩)) := hgb3.cell 2
 have iC3 : BlockLt bc w3 := ⟨Nat.lt_of_lt_of_le hg3.cp.1 hg3.below.size⟩
 have cp3 : ∀ (t : Nat) (u : Value), c.cells[t]? = some u → w3.cell? ⟨bc, t, none⟩ = some u := fun t u hu => (hg3.below.cell (p := ⟨bc, t, none⟩) hg3.cp.1).trans (hg3.cp.2 t u hu)
 have cc3 : w3.cell? ⟨bc, 1, none⟩ = some (.int .i64 c.core) := cp3 1 _ rfl
 have cf3 : w3.cell? ⟨bc, 5, none⟩ = some (.string c.path) := cp3 5 _ rfl
 have cg3 : w3.cell? ⟨bc, 6, none⟩ = some (.string c.path2) := cp3 6 _ rfl
 have cd3 : w3.cell? ⟨bc, 7, none⟩ = some (.string c.data) := cp3 7 _ rfl
 have hc4 := add113 hg3 (by simp only [lP]; have q1 := (lw c.path (ok.path (by omega))).1; have q3 := (lw c.path2 (ok.path2 (by omega))).2; simp only [inodeK, List.length_cons, List.length_nil]; omega) (-1 - c.core) ⟨#[]⟩
 go_wp2_with (go_at_call 113; refine hc4.mono ?_; rintro e w4 ⟨rfl, hg4, hk4⟩)
 go_ret
 refine ⟨rfl, ?_⟩
 simpa only [List.append_assoc] using hg4
theorem gather_k9 (h : GAt w0 w S S' c bs bh bc ks) (hl : ks.length ≤ 1000) (hwf : S.wf) (hwf' : S'.wf) (ok : GatherOk S c) (hk : c.kind = 9) :
 Calls Tryz.prog 74 #[.pointer (some ⟨w0.heap.size, 0, none⟩)] w fun e w' => e = .returned (.bool true) ∧ GAt w0 w' S S' c bs bh bc (ks ++ ((entryK S c.path ++ inodeK S c.path) ++ [⟨-1 - c.core, ⟨#[]⟩⟩])) := by
 obtain ⟨out0, hgb0, -⟩ := h.own
 have iG0 := hgb0.lt
 have ga0 : w.cell? ⟨w0.heap.size, 0, none⟩ = some (.pointer (some ⟨bs, 0, none⟩)) := hgb0.cell 0
 have gb0 : w.cell? ⟨w0.heap.size, 1, none⟩ = some (.pointer (some ⟨bh, 0, none⟩)) := hgb0.cell 1
 have gc0 : w.cell? ⟨w0.heap.size, 2, none⟩ = some (.pointer (some ⟨bc, 0, none⟩)) := hgb0.cell 2
 have iC0 : BlockLt bc w := ⟨Nat.lt_of_lt_of_le h.cp.1 h.below.size⟩
 have cp0 : ∀ (t : Nat) (u : Value), c.cells[t]? = some u → w.cell? ⟨bc, t, none⟩ = some u := fun t u hu => (h.below.cell (p := ⟨bc, t, none⟩) h.cp.1).trans (h.cp.2 t u hu)
 have cc0 : w.cell? ⟨bc, 1, none⟩ = some (.int .i64 c.core) := cp0 1 _ rfl
 have cf0 : w.cell? ⟨bc, 5, none⟩ = some (.string c.path) := cp0 5 _ rfl
 have cg0 : w.cell? ⟨bc, 6, none⟩ = some (.string c.path2) := cp0 6 _ rfl
 have cd0 : w.cell? ⟨bc, 7, none⟩ = some (.string c.data) := cp0 7 _ rfl
 have ck : w.cell? ⟨bc, 0, none⟩ = some (.int .i64 9) := by rw [← hk]; exact cp0 0 _ rfl
 have hcore := ok.core
 have hml := hwf.2.2.1
 have ew : IntKind.i64.wrap (-1 - c.core) = -1 - c.core := I64.wrap (by unfold I64; omega)
 have lw : ∀ p, PathOk p → (walkK S p).length ≤ 10 ∧ (entryK S p).length ≤ 11 := fun p hp => by
  have := parse_len hp.1; unfold entryK walkK thruK; rw [lP, lM, List.length_range]; exact ⟨by omega, by simp; omega⟩
 have hc1 := entry109 h (by omega) hwf (ok.path (by omega))
 clear cp0
 go_enter Tryz.func74, Tryz.ntmps74
 go_upto_region 24 with (go_at_call 109; refine hc1.mono ?_; rintro e w1 ⟨rfl, hg1, hk1⟩)
 obtain ⟨out1, hgb1, -⟩ := hg1.own
 have iG1 := hgb1.lt
 have ga1 : w1.cell? ⟨w0.heap.size, 0, none⟩ = some (.pointer (some ⟨bs, 0, none⟩)) := hgb1.cell 0
 have gb1 : w1.cell? ⟨w0.heap.size, 1, none⟩ = some (.pointer (some ⟨bh, 0, none⟩)) := hgb1.cell 1
 have gc1 : w1.cell? ⟨w0.heap.size, 2, none⟩ = some (.pointer (some ⟨bc, 0, none⟩)) := hgb1.cell 2
 have iC1 : BlockLt bc w1 := ⟨Nat.lt_of_lt_of_le hg1.cp.1 hg1.below.size⟩
 have cp1 : ∀ (t : Nat) (u : Value), c.cells[t]? = some u → w1.cell? ⟨bc, t, none⟩ = some u := fun t u hu => (hg1.below.cell (p := ⟨bc, t, none⟩) hg1.cp.1).trans (hg1.cp.2 t u hu)
 have cc1 : w1.cell? ⟨bc, 1, none⟩ = some (.int .i64 c.core) := cp1 1 _ rfl
 have cf1 : w1.cell? ⟨bc, 5, none⟩ = some (.string c.path) := cp1 5 _ rfl
 have cg1 : w1.cell? ⟨bc, 6, none⟩ = some (.string c.path2) := cp1 6 _ rfl
 have cd1 : w1.cell? ⟨bc, 7, none⟩ = some (.string c.data) := cp1 7 _ rfl
 have hc2 := inode110 (hg1.later (bel w1 w1.drew)) (by simp only [lP]; have q2 := (lw c.path (ok.path (by omega))).2; omega) hg1.sp hwf c.path
 refine wp_region_eff [12] true (fun w' => w'.cell? ⟨w0.heap.size, 0, none⟩ = some (.pointer (some ⟨bs, 0, none⟩)) ∧ w'.cell? ⟨w0.heap.size, 2, none⟩ = some (.pointer (some ⟨bc, 0, none⟩)) ∧ w'.cell? ⟨bc, 5, none⟩ = some (.string c.path)) (by kernel_rfl) (by kernel_rfl) ?_ ?_
 · (try dsimp only); (repeat' apply And.intro) <;> go_simp
 repeat
  refine wpL_look rfl rfl ?_; apply Exists.intro; refine ⟨?_, ?_⟩
  focus
   rintro w' ⟨s0, s1, s2⟩; go_simp
   first | done | rfl
  simp only [Act.put, sA, sZ, sS]
 refine wpL_act rfl rfl ?_
 refine eff_call 110 #[.pointer (some ⟨w0.heap.size, 0, none⟩), .pointer (some ⟨bs, 0, none⟩), .string c.path] ?_ ((hc2).mono ?_)
 · go_simp
   first | done | rfl
 rintro e w2 ⟨rfl, hg2, hk2⟩
 refine ⟨_, rfl, .inr ⟨rfl, rfl⟩, ?_⟩
 refine wpL_end ?_
 obtain ⟨out2, hgb2, -⟩ := hg2.own
 have iG2 := hgb2.lt
 have ga2 : w2.cell? ⟨w0.heap.size, 0, none⟩ = some (.pointer (some ⟨bs, 0, none⟩)) := hgb2.cell 0
 have gb2 : w2.cell? ⟨w0.heap.size, 1, none⟩ = some (.pointer (some ⟨bh, 0, none⟩)) := hgb2.cell 1
 have gc2 : w2.cell? ⟨w0.heap.size, 2, none⟩ = some (.pointer (some ⟨bc, 0, none⟩)) := hgb2.cell 2
 have iC2 : BlockLt bc w2 := ⟨Nat.lt_of_lt_of_le hg2.cp.1 hg2.below.size⟩
 have cp2 : ∀ (t : Nat) (u : Value), c.cells[t]? = some u → w2.cell? ⟨bc, t, none⟩ = some u := fun t u hu => (hg2.below.cell (p := ⟨bc, t, none⟩) hg2.cp.1).trans (hg2.cp.2 t u hu)
 have cc2 : w2.cell? ⟨bc, 1, none⟩ = some (.int .i64 c.core) := cp2 1 _ rfl
 have cf2 : w2.cell? ⟨bc, 5, none⟩ = some (.string c.path) := cp2 5 _ rfl
 have cg2 : w2.cell? ⟨bc, 6, none⟩ = some (.string c.path2) := cp2 6 _ rfl
 have cd2 : w2.cell? ⟨bc, 7, none⟩ = some (.string c.data) := cp2 7 _ rfl
 have hc3 := add113 hg2 (by simp only [lP]; have q2 := (lw c.path (ok.path (by omega))).2; simp only [inodeK, List.length_cons, List.length_nil]; omega) (-1 - c.core) ⟨#[]⟩
 go_wp2_with (go_at_call 113; refine hc3.mono ?_; rintro e w3 ⟨rfl, hg3, hk3⟩)
 go_ret
 refine ⟨rfl, ?_⟩
 simpa only [List.append_assoc] using hg3
theorem gather_k10 (h : GAt w0 w S S' c bs bh bc ks) (hl : ks.length ≤ 1000) (hwf : S.wf) (hwf' : S'.wf) (ok : GatherOk S c) (hk : c.kind = 10) :
 Calls Tryz.prog 74 #[.pointer (some ⟨w0.heap.size, 0, none⟩)] w fun e w' => e = .returned (.bool true) ∧ GAt w0 w' S S' c bs bh bc (ks ++ ((entryK S c.path ++ inodeK S c.path) ++ [⟨-1 - c.core, ⟨#[]⟩⟩])) := by
 obtain ⟨out0, hgb0, -⟩ := h.own
 have iG0 := hgb0.lt
 have ga0 : w.cell? ⟨w0.heap.size, 0, none⟩ = some (.pointer (some ⟨bs, 0, none⟩)) := hgb0.cell 0
 have gb0 : w.cell? ⟨w0.heap.size, 1, none⟩ = some (.pointer (some ⟨bh, 0, none⟩)) := hgb0.cell 1
 have gc0 : w.cell? ⟨w0.heap.size, 2, none⟩ = some (.pointer (some ⟨bc, 0, none⟩)) := hgb0.cell 2
 have iC0 : BlockLt bc w := ⟨Nat.lt_of_lt_of_le h.cp.1 h.below.size⟩
 have cp0 : ∀ (t : Nat) (u : Value), c.cells[t]? = some u → w.cell? ⟨bc, t, none⟩ = some u := fun t u hu => (h.below.cell (p := ⟨bc, t, none⟩) h.cp.1).trans (h.cp.2 t u hu)
 have cc0 : w.cell? ⟨bc, 1, none⟩ = some (.int .i64 c.core) := cp0 1 _ rfl
 have cf0 : w.cell? ⟨bc, 5, none⟩ = some (.string c.path) := cp0 5 _ rfl
 have cg0 : w.cell? ⟨bc, 6, none⟩ = some (.string c.path2) := cp0 6 _ rfl
 have cd0 : w.cell? ⟨bc, 7, none⟩ = some (.string c.data) := cp0 7 _ rfl
 have ck : w.cell? ⟨bc, 0, none⟩ = some (.int .i64 10) := by rw [← hk]; exact cp0 0 _ rfl
 have hcore := ok.core
 have hml := hwf.2.2.1
 have ew : IntKind.i64.wrap (-1 - c.core) = -1 - c.core := I64.wrap (by unfold I64; omega)
 have lw : ∀ p, PathOk p → (walkK S p).length ≤ 10 ∧ (entryK S p).length ≤ 11 := fun p hp => by
  have := parse_len hp.1; unfold entryK walkK thruK; rw [lP, lM, List.length_range]; exact ⟨by omega, by simp; omega⟩
 have hc1 := entry109 h (by omega) hwf (ok.path (by omega))
 clear cp0
 go_enter Tryz.func74, Tryz.ntmps74
 go_upto_region 24 with (go_at_call 109; refine hc1.mono ?_; rintro e w1 ⟨rfl, hg1, hk1⟩)
 obtain ⟨out1, hgb1, -⟩ := hg1.own
 have iG1 := hgb1.lt
 have ga1 : w1.cell? ⟨w0.heap.size, 0, none⟩ = some (.pointer (some ⟨bs, 0, none⟩)) := hgb1.cell 0
 have gb1 : w1.cell? ⟨w0.heap.size, 1, none⟩ = some (.pointer (some ⟨bh, 0, none⟩)) := hgb1.cell 1
 have gc1 : w1.cell? ⟨w0.heap.size, 2, none⟩ = some (.pointer (some ⟨bc, 0, none⟩)) := hgb1.cell 2
 have iC1 : BlockLt bc w1 := ⟨Nat.lt_of_lt_of_le hg1.cp.1 hg1.below.size⟩
 have cp1 : ∀ (t : Nat) (u : Value), c.cells[t]? = some u → w1.cell? ⟨bc, t, none⟩ = some u := fun t u hu => (hg1.below.cell (p := ⟨bc, t, none⟩) hg1.cp.1).trans (hg1.cp.2 t u hu)
 have cc1 : w1.cell? ⟨bc, 1, none⟩ = some (.int .i64 c.core) := cp1 1 _ rfl
 have cf1 : w1.cell? ⟨bc, 5, none⟩ = some (.string c.path) := cp1 5 _ rfl
 have cg1 : w1.cell? ⟨bc, 6, none⟩ = some (.string c.path2) := cp1 6 _ rfl
 have cd1 : w1.cell? ⟨bc, 7, none⟩ = some (.string c.data) := cp1 7 _ rfl
 have hc2 := inode110 (hg1.later (bel w1 w1.drew)) (by simp only [lP]; have q2 := (lw c.path (ok.path (by omega))).2; omega) hg1.sp hwf c.path
 refine wp_region_eff [12] true (fun w' => w'.cell? ⟨w0.heap.size, 0, none⟩ = some (.pointer (some ⟨bs, 0, none⟩)) ∧ w'.cell? ⟨w0.heap.size, 2, none⟩ = some (.pointer (some ⟨bc, 0, none⟩)) ∧ w'.cell? ⟨bc, 5, none⟩ = some (.string c.path)) (by kernel_rfl) (by kernel_rfl) ?_ ?_
 · (try dsimp only); (repeat' apply And.intro) <;> go_simp
 repeat
  refine wpL_look rfl rfl ?_; apply Exists.intro; refine ⟨?_, ?_⟩
  focus
   rintro w' ⟨s0, s1, s2⟩; go_simp
   first | done | rfl
  simp only [Act.put, sA, sZ, sS]
 refine wpL_act rfl rfl ?_
 refine eff_call 110 #[.pointer (some ⟨w0.heap.size, 0, none⟩), .pointer (some ⟨bs, 0, none⟩), .string c.path] ?_ ((hc2).mono ?_)
 · go_simp
   first | done | rfl
 rintro e w2 ⟨rfl, hg2, hk2⟩
 refine ⟨_, rfl, .inr ⟨rfl, rfl⟩, ?_⟩
 refine wpL_end ?_
 obtain ⟨out2, hgb2, -⟩ := hg2.own
 have iG2 := hgb2.lt
 have ga2 : w2.cell? ⟨w0.heap.size, 0, none⟩ = some (.pointer (some ⟨bs, 0, none⟩)) := hgb2.cell 0
 have gb2 : w2.cell? ⟨w0.heap.size, 1, none⟩ = some (.pointer (some ⟨bh, 0, none⟩)) := hgb2.cell 1
 have gc2 : w2.cell? ⟨w0.heap.size, 2, none⟩ = some (.pointer (some ⟨bc, 0, none⟩)) := hgb2.cell 2
 have iC2 : BlockLt bc w2 := ⟨Nat.lt_of_lt_of_le hg2.cp.1 hg2.below.size⟩
 have cp2 : ∀ (t : Nat) (u : Value), c.cells[t]? = some u → w2.cell? ⟨bc, t, none⟩ = some u := fun t u hu => (hg2.below.cell (p := ⟨bc, t, none⟩) hg2.cp.1).trans (hg2.cp.2 t u hu)
 have cc2 : w2.cell? ⟨bc, 1, none⟩ = some (.int .i64 c.core) := cp2 1 _ rfl
 have cf2 : w2.cell? ⟨bc, 5, none⟩ = some (.string c.path) := cp2 5 _ rfl
 have cg2 : w2.cell? ⟨bc, 6, none⟩ = some (.string c.path2) := cp2 6 _ rfl
 have cd2 : w2.cell? ⟨bc, 7, none⟩ = some (.string c.data) := cp2 7 _ rfl
 have hc3 := add113 hg2 (by simp only [lP]; have q2 := (lw c.path (ok.path (by omega))).2; simp only [inodeK, List.length_cons, List.length_nil]; omega) (-1 - c.core) ⟨#[]⟩
 go_wp2_with (go_at_call 113; refine hc3.mono ?_; rintro e w3 ⟨rfl, hg3, hk3⟩)
 go_ret
 refine ⟨rfl, ?_⟩
 simpa only [List.append_assoc] using hg3
theorem gather_k11 (h : GAt w0 w S S' c bs bh bc ks) (hl : ks.length ≤ 1000) (hwf : S.wf) (hwf' : S'.wf) (ok : GatherOk S c) (hk : c.kind = 11) :
 Calls Tryz.prog 74 #[.pointer (some ⟨w0.heap.size, 0, none⟩)] w fun e w' => e = .returned (.bool true) ∧ GAt w0 w' S S' c bs bh bc (ks ++ ((entryK S c.path ++ entryK S c.path2 ++ inodeK S c.path) ++ [⟨-1 - c.core, ⟨#[]⟩⟩])) := by
 obtain ⟨out0, hgb0, -⟩ := h.own
 have iG0 := hgb0.lt
 have ga0 : w.cell? ⟨w0.heap.size, 0, none⟩ = some (.pointer (some ⟨bs, 0, none⟩)) := hgb0.cell 0
 have gb0 : w.cell? ⟨w0.heap.size, 1, none⟩ = some (.pointer (some ⟨bh, 0, none⟩)) := hgb0.cell 1
 have gc0 : w.cell? ⟨w0.heap.size, 2, none⟩ = some (.pointer (some ⟨bc, 0, none⟩)) := hgb0.cell 2
 have iC0 : BlockLt bc w := ⟨Nat.lt_of_lt_of_le h.cp.1 h.below.size⟩
 have cp0 : ∀ (t : Nat) (u : Value), c.cells[t]? = some u → w.cell? ⟨bc, t, none⟩ = some u := fun t u hu => (h.below.cell (p := ⟨bc, t, none⟩) h.cp.1).trans (h.cp.2 t u hu)
 have cc0 : w.cell? ⟨bc, 1, none⟩ = some (.int .i64 c.core) := cp0 1 _ rfl
 have cf0 : w.cell? ⟨bc, 5, none⟩ = some (.string c.path) := cp0 5 _ rfl
 have cg0 : w.cell? ⟨bc, 6, none⟩ = some (.string c.path2) := cp0 6 _ rfl
 have cd0 : w.cell? ⟨bc, 7, none⟩ = some (.string c.data) := cp0 7 _ rfl
 have ck : w.cell? ⟨bc, 0, none⟩ = some (.int .i64 11) := by rw [← hk]; exact cp0 0 _ rfl
 have hcore := ok.core
 have hml := hwf.2.2.1
 have ew : IntKind.i64.wrap (-1 - c.core) = -1 - c.core := I64.wrap (by unfold I64; omega)
 have lw : ∀ p, PathOk p → (walkK S p).length ≤ 10 ∧ (entryK S p).length ≤ 11 := fun p hp => by
  have := parse_len hp.1; unfold entryK walkK thruK; rw [lP, lM, List.length_range]; exact ⟨by omega, by simp; omega⟩
 have hc1 := entry109 h (by omega) hwf (ok.path (by omega))
 clear cp0
 go_enter Tryz.func74, Tryz.ntmps74
 go_upto_region 27 with (go_at_call 109; refine hc1.mono ?_; rintro e w1 ⟨rfl, hg1, hk1⟩)
 obtain ⟨out1, hgb1, -⟩ := hg1.own
 have iG1 := hgb1.lt
 have ga1 : w1.cell? ⟨w0.heap.size, 0, none⟩ = some (.pointer (some ⟨bs, 0, none⟩)) := hgb1.cell 0
 have gb1 : w1.cell? ⟨w0.heap.size, 1, none⟩ = some (.pointer (some ⟨bh, 0, none⟩)) := hgb1.cell 1
 have gc1 : w1.cell? ⟨w0.heap.size, 2, none⟩ = some (.pointer (some ⟨bc, 0, none⟩)) := hgb1.cell 2
 have iC1 : BlockLt bc w1 := ⟨Nat.lt_of_lt_of_le hg1.cp.1 hg1.below.size⟩
 have cp1 : ∀ (t : Nat) (u : Value), c.cells[t]? = some u → w1.cell? ⟨bc, t, none⟩ = some u := fun t u hu => (hg1.below.cell (p := ⟨bc, t, none⟩) hg1.cp.1).trans (hg1.cp.2 t u hu)
 have cc1 : w1.cell? ⟨bc, 1, none⟩ = some (.int .i64 c.core) := cp1 1 _ rfl
 have cf1 : w1.cell? ⟨bc, 5, none⟩ = some (.string c.path) := cp1 5 _ rfl
 have cg1 : w1.cell? ⟨bc, 6, none⟩ = some (.string c.path2) := cp1 6 _ rfl
 have cd1 : w1.cell? ⟨bc, 7, none⟩ = some (.string c.data) := cp1 7 _ rfl
 have hc2 := entry109 hg1 (by simp only [lP]; have q2 := (lw c.path (ok.path (by omega))).2; omega) hwf (ok.path2 (by omega))
 go_upto_region 28 with (go_at_call 109; refine hc2.mono ?_; rintro e w2 ⟨rfl, hg2, hk2⟩)
 obtain ⟨out2, hgb2, -⟩ := hg2.own
 have iG2 := hgb2.lt
 have ga2 : w2.cell? ⟨w0.heap.size, 0, none⟩ = some (.pointer (some ⟨bs, 0, none⟩)) := hgb2.cell 0
 have gb2 : w2.cell? ⟨w0.heap.size, 1, none⟩ = some (.pointer (some ⟨bh, 0, none⟩)) := hgb2.cell 1
 have gc2 : w2.cell? ⟨w0.heap.size, 2, none⟩ = some (.pointer (some ⟨bc, 0, none⟩)) := hgb2.cell 2
 have iC2 : BlockLt bc w2 := ⟨Nat.lt_of_lt_of_le hg2.cp.1 hg2.below.size⟩
 have cp2 : ∀ (t : Nat) (u : Value), c.cells[t]? = some u → w2.cell? ⟨bc, t, none⟩ = some u := fun t u hu => (hg2.below.cell (p := ⟨bc, t, none⟩) hg2.cp.1).trans (hg2.cp.2 t u hu)
 have cc2 : w2.cell? ⟨bc, 1, none⟩ = some (.int .i64 c.core) := cp2 1 _ rfl
 have cf2 : w2.cell? ⟨bc, 5, none⟩ = some (.string c.path) := cp2 5 _ rfl
 have cg2 : w2.cell? ⟨bc, 6, none⟩ = some (.string c.path2) := cp2 6 _ rfl
 have cd2 : w2.cell? ⟨bc, 7, none⟩ = some (.string c.data) := cp2 7 _ rfl
 have hc3 := inode110 (hg2.later (bel w2 w2.drew)) (by simp only [lP]; have q2 := (lw c.path (ok.path (by omega))).2; have q3 := (lw c.path2 (ok.path2 (by omega))).2; omega) hg2.sp hwf c.path
 refine wp_region_eff [12] true (fun w' => w'.cell? ⟨w0.heap.size, 0, none⟩ = some (.pointer (some ⟨bs, 0, none⟩)) ∧ w'.cell? ⟨w0.heap.size, 2, none⟩ = some (.pointer (some ⟨bc, 0, none⟩)) ∧ w'.cell? ⟨bc, 5, none⟩ = some (.string c.path)) (by kernel_rfl) (by kernel_rfl) ?_ ?_
 · (try dsimp only); (repeat' apply And.intro) <;> go_simp
 repeat
  refine wpL_look rfl rfl ?_; apply Exists.intro; refine ⟨?_, ?_⟩
  focus
   rintro w' ⟨s0, s1, s2⟩; go_simp
   first | done | rfl
  simp only [Act.put, sA, sZ, sS]
 refine wpL_act rfl rfl ?_
 refine eff_call 110 #[.pointer (some ⟨w0.heap.size, 0, none⟩), .pointer (some ⟨bs, 0, none⟩), .string c.path] ?_ ((hc3).mono ?_)
 · go_simp
   first | done | rfl
 rintro e w3 ⟨rfl, hg3, hk3⟩
 refine ⟨_, rfl, .inr ⟨rfl, rfl⟩, ?_⟩
 refine wpL_end ?_
 obtain ⟨out3, hgb3, -⟩ := hg3.own
 have iG3 := hgb3.lt
 have ga3 : w3.cell? ⟨w0.heap.size, 0, none⟩ = some (.pointer (some ⟨bs, 0, none⟩)) := hgb3.cell 0
 have gb3 : w3.cell? ⟨w0.heap.size, 1, none⟩ = some (.pointer (some ⟨bh, 0, none⟩)) := hgb3.cell 1
 have gc3 : w3.cell? ⟨w0.heap.size, 2, none⟩ = some (.pointer (some ⟨bc, 0, none⟩)) := hgb3.cell 2
 have iC3 : BlockLt bc w3 := ⟨Nat.lt_of_lt_of_le hg3.cp.1 hg3.below.size⟩
 have cp3 : ∀ (t : Nat) (u : Value), c.cells[t]? = some u → w3.cell? ⟨bc, t, none⟩ = some u := fun t u hu => (hg3.below.cell (p := ⟨bc, t, none⟩) hg3.cp.1).trans (hg3.cp.2 t u hu)
 have cc3 : w3.cell? ⟨bc, 1, none⟩ = some (.int .i64 c.core) := cp3 1 _ rfl
 have cf3 : w3.cell? ⟨bc, 5, none⟩ = some (.string c.path) := cp3 5 _ rfl
 have cg3 : w3.cell? ⟨bc, 6, none⟩ = some (.string c.path2) := cp3 6 _ rfl
 have cd3 : w3.cell? ⟨bc, 7, none⟩ = some (.string c.data) := cp3 7 _ rfl
 have hc4 := add113 hg3 (by simp only [lP]; have q2 := (lw c.path (ok.path (by omega))).2; have q3 := (lw c.path2 (ok.path2 (by omega))).2; simp only [inodeK, List.length_cons, List.length_nil]; omega) (-1 - c.core) ⟨#[]⟩
 go_wp2_with (go_at_call 113; refine hc4.mono ?_; rintro e w4 ⟨rfl, hg4, hk4⟩)
 go_ret
 refine ⟨rfl, ?_⟩
 simpa only [List.append_assoc] using hg4
end
end Go.Proofs.YtmkapobnfigedaaGreatDoor
