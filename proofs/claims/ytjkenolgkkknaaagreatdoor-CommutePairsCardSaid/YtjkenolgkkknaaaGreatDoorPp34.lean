/- Part of the proof that the named pairs of calls commute. Conditions: none. -/
import Derived.Test.YtjkenolgkkknaaaGreatDoorPp33
set_option linter.unusedVariables false
set_option linter.unusedSimpArgs false
set_option maxRecDepth 100000
set_option maxHeartbeats 8000000
namespace Go.Proofs.YtjkenolgkkknaaaGreatDoor
open Go.RowKit
theorem new11o (n : Nat) (h1 : 1 ≤ n) (h8 : n ≤ 8) (w : World) :
 Calls Tryz.prog 11 #[.int .i64 n] w fun e w' => ∃ iv ov mv, e = .returned (.tuple #[.agg #[iv, ov, mv], .int .i64 0]) ∧ Below w.heap.size w w' ∧ StOwn w.heap.size w' iv ov mv (newSt n) := by
 obtain ⟨i0, hi, hz0, hz1, hz2⟩ := info_parts info3
 have hmk : ∀ u : World, (Instr.makeSlice 25 (.int .i64 n) (.int .i64 n)).run Tryz.prog u = .ok (.slice (some ⟨u.heap.size, 0, none⟩) n n) (u.alloc (.cells ((List.replicate n (0 : Int)).map fun x => Value.int .i64 x).toArray 3)) := fun u => by
  have := run_makeSlice (P := Tryz.prog) u 25 3 i0 _ Tryz.underlying25 hi hz0 .i64 .i64 n n (by omega) (Int.le_refl _) (by rw [hz1]; omega) (by rw [hz2]; omega) (by omega); rw [← made_map' (fun x => Value.int .i64 x)]; simpa [hz1, Value.cells] using this
 have g1 : ¬ (n : Int) < 1 := by omega
 have g2 : ¬ (8 : Int) < n := by omega
 go_enter Tryz.func11, Tryz.ntmps11
 go_wp2_with fail
 have hb3 : Blk (((w.alloc (.cells #[.slice (some ⟨w.heap.size + 1, 0, none⟩) 1 1, .slice none 0 0, .slice (some ⟨w.heap.size + 1 + 1, 0, none⟩) n n] 27)).alloc (.cells #[.int .i64 1, .bool true, .slice none 0 0, .string { data := #[] }] 65)).alloc (.cells (Array.replicate n (.int .i64 0)) 3)) (w.heap.size + 1 + 1) (Array.replicate n (.int .i64 0)) 3 := Blk.new_i ((w.alloc (.cells #[.slice (some ⟨w.heap.size + 1, 0, none⟩) 1 1, .slice none 0 0, .slice (some ⟨w.heap.size + 1 + 1, 0, none⟩) n n] 27)).alloc (.cells #[.int .i64 1, .bool true, .slice none 0 0, .string { data := #[] }] 65)) _ _ _
 have hb : Blk ((((w.alloc (.cells #[.slice (some ⟨w.heap.size + 1, 0, none⟩) 1 1, .slice none 0 0, .slice (some ⟨w.heap.size + 1 + 1, 0, none⟩) n n] 27)).alloc (.cells #[.int .i64 1, .bool true, .slice none 0 0, .string { data := #[] }] 65))).alloc (.cells (Array.replicate n (.int .i64 0)) 3)) (w.heap.size + 1) #[.int .i64 1, .bool true, .slice none 0 0, .string { data := #[] }] 65 := (Blk.new_i (w.alloc (.cells #[.slice (some ⟨w.heap.size + 1, 0, none⟩) 1 1, .slice none 0 0, .slice (some ⟨w.heap.size + 1 + 1, 0, none⟩) n n] 27)) _ _ _).alloc _
 refine bodyPost_ret (v := .tuple #[.agg #[.slice (some ⟨w.heap.size + 1, 0, none⟩) 1 1, .slice none 0 0, .slice (some ⟨w.heap.size + 1 + 1, 0, none⟩) n n], .int .i64 0]) (by unfold results; simp only [Tryz.results11]; go_simp) rfl ⟨_, _, _, rfl, bel _ _, ?_⟩
 have e : ((List.replicate n (0 : Int)).map fun x => Value.int .i64 x).toArray = Array.replicate n (.int .i64 0) := by simp
 first | rw [e] | skip
 refine ⟨.inl ⟨rfl, rfl⟩, .inr ⟨w.heap.size + 1 + 1, n, Array.replicate n (.int .i64 0), ?_, by omega, hb3, ?_, ?_, ?_, ?_⟩, [⟨1, true, .slice none 0 0, { data := #[] }, rfl⟩], .inr ⟨w.heap.size + 1, 1, _, rfl, by omega, hb, by simp, by unfold maxLen; omega, rfl, ?_⟩, rfl, ?_, ?_⟩
 · simp [newSt]
 · simp [newSt]
 · unfold maxLen; omega
 · simp
 · intro q cs hq t u hu; rw [gM] at hq; obtain ⟨x, hx, rfl⟩ := Option.map_eq_some_iff.1 hq; have hx2 : (List.replicate n (0 : Int))[q]? = some x := hx; obtain ⟨hl, hx3⟩ := gI.1 hx2; rw [List.getElem_replicate] at hx3; subst hx3; rw [List.length_replicate] at hl; rcases t with _ | t
   · simp only [intCells, List.getElem?_cons_zero, Option.some.injEq] at hu; subst hu; rw [Nat.mul_one, Nat.add_zero]; simp [hl]
   · simp [intCells] at hu
 · intro q cs hq t u hu; rcases q with _ | q
   · simp only [List.map_cons, List.map_nil, List.getElem?_cons_zero, Option.some.injEq] at hq; subst hq; simpa [IRec.cells] using hu
   · simp at hq
 · intro q r x hr hx; rcases q with _ | q
   · cases hr; cases hx; exact ⟨rfl, rfl, rfl, .inl ⟨rfl, rfl⟩⟩
   · simp at hr
 · intro p q r r' hpq hp hq g hg; rcases p with _ | p
   · cases hp; simp [Value.ownBlock] at hg
   · simp at hp
end Go.Proofs.YtjkenolgkkknaaaGreatDoor
