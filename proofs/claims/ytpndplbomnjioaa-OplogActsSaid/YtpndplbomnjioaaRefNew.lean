/- The document's NewLog. Conditions: none. -/
import Derived.Test.YtpndplbomnjioaaRef0
set_option linter.unusedVariables false
namespace Go.Proofs.Ytpndplbomnjioaa
open Go.RowKit
structure NewRefAt (w : World) (n L A T : Nat) (tv : Array Value) (wr : World) : Prop where
  bel : Below w.heap.size w wr
  hA : Blk wr A (madeCells #[.slice none 0 0] n) 42
  hT : Blk wr T tv 23
  hL : Blk wr L #[.slice (some ⟨A, 0, none⟩) n n, .slice (some ⟨T, 0, none⟩) n n] 65
  bA : w.heap.size ≤ A
  bT : w.heap.size ≤ T
  bL : w.heap.size ≤ L
set_option maxRecDepth 100000 in
set_option maxHeartbeats 1000000 in
theorem newref_ok (n : Nat) (h1 : 1 ≤ n) (h8 : n ≤ 8) (w : World) :
    Calls Try.prog 26 #[.int .i64 n] w fun e w' => ∃ L, e = .returned (.tuple #[.pointer (some ⟨L, 0, none⟩), .int .i64 0]) ∧ Below w.heap.size w w' ∧ RRef w.heap.size [] w' L n (fun _ => []) (fun _ => 0) := by
  obtain ⟨i0, hi, hz0, hz1, hz2⟩ := info_parts info42
  obtain ⟨j0, ji, jz0, jz1, jz2⟩ := info_parts info23
  have hmk : ∀ u : World, (Instr.makeSlice 63 (.int .i64 n) (.int .i64 n)).run Try.prog u = .ok (.slice (some ⟨u.heap.size, 0, none⟩) n n) (u.alloc (.cells (madeCells #[.slice none 0 0] n) 42)) := fun u => by
    have := run_makeSlice (P := Try.prog) u 63 42 i0 _ Try.underlying63 hi hz0 .i64 .i64 n n (by omega) (Int.le_refl _) (by rw [hz1]; omega) (by rw [hz2]; omega) (by omega)
    simpa [hz1, Value.cells] using this
  have hmk2 : ∀ u : World, (Instr.makeSlice 37 (.int .i64 n) (.int .i64 n)).run Try.prog u = .ok (.slice (some ⟨u.heap.size, 0, none⟩) n n) (u.alloc (.cells (madeCells #[.int .i64 0, .int .i64 0] (n * 2)) 23)) := fun u => by
    have := run_makeSlice (P := Try.prog) u 37 23 j0 _ Try.underlying37 ji jz0 .i64 .i64 n n (by omega) (Int.le_refl _) (by rw [jz1]; omega) (by rw [jz2]; omega) (by omega)
    simpa [jz1, Value.cells] using this
  go_enter Try.func26, Try.ntmps26
  go_upto_region 3 with fail
  go_cut [4] (fun s4 wx => ∃ L A T, s4 = .pointer (some ⟨L, 0, none⟩) ∧ NewRefAt w n L A T (madeCells #[.int .i64 0, .int .i64 0] (n * 2)) wx)
  case first =>
    go_region_held3 (fun w' => True)
      (first | trivial)
      (fail)
    all_goals go_wp2_with fail
    all_goals go_meet
    · exact ⟨_, w.heap.size, w.heap.size + 1, rfl, bel _ _, (((Blk.new w _ _).alloc _).alloc _).drew, ((Blk.new_i _ _ _ _).alloc _).drew, (Blk.new_i _ _ _ _).drew, by omega, by omega, by omega⟩
    · exact ⟨_, w.heap.size + 1, w.heap.size, rfl, bel _ _, ((Blk.new_i _ _ _ _).alloc _).drew, (((Blk.new w _ _).alloc _).alloc _).drew, (Blk.new_i _ _ _ _).drew, by omega, by omega, by omega⟩
  case rest =>
    obtain ⟨L, A, T, rfl, h⟩ := hcut
    rename World => wx
    have H := Lib.hid h
    clear h
    go_wp2_with fail
    go_loopw [5] (fun i wr => ∃ (k : Nat) (tv : Array Value), i = .int .i64 k ∧ k ≤ n ∧ NewRefAt w n L A T tv wr ∧ tv.size = n * 2 ∧ (∀ j, j < n → tv[j * 2]? = some (.int .i64 0)) ∧ ∀ j, j < n → tv[j * 2 + 1]? = some (.int .i64 (if j < k then j else 0))) (fun i _ => 9 - (intOf i).toNat)
    case atStart =>
      refine ⟨0, _, rfl, by omega, H.out, by simp [madeCells], fun j hj => ?_, fun j hj => ?_⟩
      · have e : j * 2 < n * 2 := by omega
        have e2 : j * 2 % 2 = 0 := by omega
        simp [madeCells, e, e2]
      · have e : j * 2 + 1 < n * 2 := by omega
        have e2 : (j * 2 + 1) % 2 = 1 := by omega
        simp [madeCells, e, e2]
    case round =>
      obtain ⟨k, tv, rfl, hk, h, hs, ht0, ht1⟩ := hrel
      have iL := h.hL.lt
      have iT := h.hT.lt
      have cL1 := h.hL.cell 1
      simp only [List.getElem?_toArray, List.getElem?_cons_zero, List.getElem?_cons_succ] at cL1
      have fT := h.hT.frozen (k * 2 + 1)
      have nLT := h.hL.ne_ h.hT (by decide)
      by_cases hlt : k < n
      · have cT := h.hT.cell (k * 2 + 1)
        rw [ht1 k hlt] at cT
        have H2 := Lib.hid (And.intro h (And.intro ht0 ht1))
        clear h ht0 ht1
        go_wp2_with fail
        go_roundw
        case rel =>
          obtain ⟨h, ht0, ht1⟩ := H2.out
          refine ⟨k + 1, _, by go_num, by omega, ⟨h.bel.setCell h.bT _, h.hA.far (h.hA.ne_ h.hT (by decide)) _, h.hT.set_ _ _, h.hL.far nLT _, h.bA, h.bT, h.bL⟩, by simpa using hs, fun j hj => ?_, fun j hj => ?_⟩
          · rw [Array.getElem?_setIfInBounds_ne (by omega)]
            exact ht0 j hj
          · by_cases e : j = k
            · subst e
              rw [Array.getElem?_setIfInBounds_self_of_lt (by omega), if_pos (by omega)]
            · rw [Array.getElem?_setIfInBounds_ne (by omega), ht1 j hj]
              have e2 : (j < k + 1) = (j < k) := by simp; omega
              simp only [e2]
        case measure => simp [intOf]; omega
      · obtain rfl : k = n := by omega
        have H2 := Lib.hid (And.intro h (And.intro ht0 ht1))
        clear h ht0 ht1
        go_wp2_with fail
        obtain ⟨h, ht0, ht1⟩ := H2.out
        refine bodyPost_ret (v := .tuple #[.pointer (some ⟨L, 0, none⟩), .int .i64 0]) (by simp [results, Try.results26, go_sem]) rfl ⟨L, rfl, h.bel, A, T, _, _, tv, ⟨h.hL, h.hA, h.hT, h.bL, h.bA, h.bT, h8, by simp [madeCells], by omega, ht0, fun j hj => ?_, fun j hj => ?_, ?_⟩, by simp, by simp, by simp, by simp⟩
        · rw [ht1 j hj, if_pos hj]
        · exact ⟨none, 0, by simp [madeCells, hj, Nat.mod_one, lenOf], ⟨rfl, .inl ⟨rfl, rfl⟩⟩, by simp [Value.ownBlock]⟩
        · intro i j u v b hne hu hv hb
          have hi2 : i < k := by have := (Array.getElem?_eq_some_iff.1 hu).1; simpa [madeCells] using this
          have hm : (madeCells #[.slice none 0 0] k)[i]? = some (.slice none 0 0) := by simp [madeCells, hi2, Nat.mod_one]
          rw [hm] at hu
          injection hu with hu
          subst hu
          simp [Value.ownBlock] at hb
theorem newref_bad (n : Int) (h : n < 1 ∨ 8 < n) (w : World) :
    Calls Try.prog 26 #[.int .i64 n] w fun e w' => e = .returned (.tuple #[.pointer none, .int .i64 1700]) ∧ Below w.heap.size w w' := by
  by_cases h1 : n < 1
  · go_enter Try.func26, Try.ntmps26
    go_wp2_with fail
    refine bodyPost_ret (v := .tuple #[.pointer none, .int .i64 1700]) (by simp [results, Try.results26, go_sem]) rfl ⟨rfl, bel _ _⟩
  · have h2 : 8 < n := by omega
    go_enter Try.func26, Try.ntmps26
    go_wp2_with fail
    refine bodyPost_ret (v := .tuple #[.pointer none, .int .i64 1700]) (by simp [results, Try.results26, go_sem]) rfl ⟨rfl, bel _ _⟩
end Go.Proofs.Ytpndplbomnjioaa
