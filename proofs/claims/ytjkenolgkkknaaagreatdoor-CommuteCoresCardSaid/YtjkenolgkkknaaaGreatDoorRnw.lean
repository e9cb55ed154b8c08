/- The reference's New and Num. Conditions: none. -/
import Derived.Test.YtjkenolgkkknaaaGreatDoorDo0
set_option linter.unusedVariables false
set_option linter.unusedSimpArgs false
namespace Go.Proofs.YtjkenolgkkknaaaGreatDoor
open Go.RowKit
theorem num12 (n : Int) (w : World) : Calls Tryz.prog 12 #[.int .i64 n] w fun e w' => e = .returned (.int .i64 n) ∧ Below w.heap.size w w' := by
  go_enter Tryz.func12, Tryz.ntmps12
  go_wp2_with fail
  go_ret
  exact ⟨rfl, bel _ _⟩
/-- The empty state of n cores. -/
def newSt (n : Nat) : PSt := ⟨[⟨1, true, [], { data := #[] }⟩], [], List.replicate n 0⟩
theorem made_map' {α : Type} (f : α → Value) (z : α) (n : Nat) : madeCells #[f z] n = ((List.replicate n z).map f).toArray := by
  apply Array.toList_inj.1
  rw [toList_madeCells_one]
  simp
theorem RowAt.of_blk1 {w : World} {b : Nat} {t : TypeId} (xs : List Int) (cap : Nat) (h : Blk w b (xs.map fun x => Value.int .i64 x).toArray t) (hm : xs.length ≤ maxLen) : RowAt w 1 (.slice (some ⟨b, 0, none⟩) xs.length cap) (xs.map intCells) := by
  refine ⟨_, _, by rw [List.length_map], by rw [List.length_map]; exact hm, fun _ => ⟨b, 0, rfl, h.lt.lt, fun q cs hq t u hu => ?_⟩⟩
  rw [List.getElem?_map] at hq
  obtain ⟨x, hx, rfl⟩ := Option.map_eq_some_iff.1 hq
  rcases t with _ | t
  · simp only [intCells, List.getElem?_cons_zero, Option.some.injEq] at hu
    subst hu
    rw [h.cell]
    simp [hx]
  · simp [intCells] at hu
set_option maxRecDepth 100000 in
set_option maxHeartbeats 2000000 in
theorem new11 (n : Nat) (h1 : 1 ≤ n) (h8 : n ≤ 8) (w : World) :
    Calls Tryz.prog 11 #[.int .i64 n] w fun e w' => ∃ iv ov mv, e = .returned (.tuple #[.agg #[iv, ov, mv], .int .i64 0]) ∧ Below w.heap.size w w' ∧ StRead w' iv ov mv (newSt n) := by
  obtain ⟨i0, hi, hz0, hz1, hz2⟩ := info_parts info3
  have hmk : ∀ u : World, (Instr.makeSlice 25 (.int .i64 n) (.int .i64 n)).run Tryz.prog u = .ok (.slice (some ⟨u.heap.size, 0, none⟩) n n) (u.alloc (.cells ((List.replicate n (0 : Int)).map fun x => Value.int .i64 x).toArray 3)) := fun u => by
    have := run_makeSlice (P := Tryz.prog) u 25 3 i0 _ Tryz.underlying25 hi hz0 .i64 .i64 n n (by omega) (Int.le_refl _) (by rw [hz1]; omega) (by rw [hz2]; omega) (by omega)
    rw [← made_map' (fun x => Value.int .i64 x)]
    simpa [hz1, Value.cells] using this
  have g1 : ¬ (n : Int) < 1 := by omega
  have g2 : ¬ (8 : Int) < n := by omega
  go_enter Tryz.func11, Tryz.ntmps11
  go_wp2_with fail
  refine bodyPost_ret (v := .tuple #[.agg #[.slice (some ⟨w.heap.size + 1, 0, none⟩) 1 1, .slice none 0 0, .slice (some ⟨w.heap.size + 1 + 1, 0, none⟩) n n], .int .i64 0]) (by unfold results; simp only [Tryz.results11]; go_simp) rfl ⟨_, _, _, rfl, bel _ _, ?_, ?_, [⟨1, true, .slice none 0 0, { data := #[] }, rfl⟩], ?_, rfl, ?_⟩
  · exact ⟨none, 0, rfl, by simp [newSt], fun h => absurd h (by simp [newSt])⟩
  · have hb3 : Blk (((w.alloc (.cells #[.slice (some ⟨w.heap.size + 1, 0, none⟩) 1 1, .slice none 0 0, .slice (some ⟨w.heap.size + 1 + 1, 0, none⟩) n n] 27)).alloc (.cells #[.int .i64 1, .bool true, .slice none 0 0, .string { data := #[] }] 65)).alloc (.cells (Array.replicate n (.int .i64 0)) 3)) (w.heap.size + 1 + 1) (Array.replicate n (.int .i64 0)) 3 := Blk.new_i ((w.alloc (.cells #[.slice (some ⟨w.heap.size + 1, 0, none⟩) 1 1, .slice none 0 0, .slice (some ⟨w.heap.size + 1 + 1, 0, none⟩) n n] 27)).alloc (.cells #[.int .i64 1, .bool true, .slice none 0 0, .string { data := #[] }] 65)) _ _ _
    have := RowAt.of_blk1 (b := w.heap.size + 1 + 1) (t := 3) (List.replicate n (0 : Int)) n (by simpa using hb3) (by rw [List.length_replicate]; unfold maxLen; omega)
    rw [List.length_replicate] at this
    exact this
  · refine ⟨_, _, rfl, by unfold maxLen; simp, fun _ => ⟨w.heap.size + 1, 0, rfl, by simp, fun q cs hq t u hu => ?_⟩⟩
    rcases q with _ | q
    · simp only [List.map_cons, List.map_nil, List.getElem?_cons_zero, Option.some.injEq] at hq
      subst hq
      have hb : Blk ((((w.alloc (.cells #[.slice (some ⟨w.heap.size + 1, 0, none⟩) 1 1, .slice none 0 0, .slice (some ⟨w.heap.size + 1 + 1, 0, none⟩) n n] 27)).alloc (.cells #[.int .i64 1, .bool true, .slice none 0 0, .string { data := #[] }] 65))).alloc (.cells ((List.replicate n (0 : Int)).map fun x => Value.int .i64 x).toArray 3)) (w.heap.size + 1) #[.int .i64 1, .bool true, .slice none 0 0, .string { data := #[] }] 65 := (Blk.new_i (w.alloc (.cells #[.slice (some ⟨w.heap.size + 1, 0, none⟩) 1 1, .slice none 0 0, .slice (some ⟨w.heap.size + 1 + 1, 0, none⟩) n n] 27)) _ _ _).alloc _
      have := (hb.cell t).trans (by simpa [IRec.cells] using hu)
      simpa using this
    · simp at hq
  · intro q r x hr hx
    rcases q with _ | q
    · cases hr
      cases hx
      exact ⟨rfl, rfl, rfl, ⟨none, 0, rfl, by simp, fun h => absurd h (by simp)⟩⟩
    · simp at hr
end Go.Proofs.YtjkenolgkkknaaaGreatDoor
