/- What oplog.Add answers where it refuses, and what Last answers. Conditions: none. -/
import Derived.Test.YtpndplbomnjioaaNew
set_option linter.unusedVariables false
namespace Go.Proofs.Ytpndplbomnjioaa
open Go.RowKit
set_option maxHeartbeats 1000000 in
/-- Is there such a core? -/
theorem core_any (L A n : Nat) (j : Int) (w : World) (hL0 : w.cell? ⟨L, 0, none⟩ = some (.slice (some ⟨A, 0, none⟩) n n)) :
    Calls Try.prog 32 #[.pointer (some ⟨L, 0, none⟩), .int .i64 j] w fun e w' => e = .returned (.bool (decide (0 ≤ j ∧ j < n))) ∧ Below w.heap.size w w' := by
  go_enter Try.func32, Try.ntmps32
  go_wp2
  all_goals go_ret
  all_goals refine ⟨?_, bel _ _⟩
  all_goals (apply ret_bool; simp; try omega)
set_option maxRecDepth 100000 in
set_option maxHeartbeats 2000000 in
/-- Add to a core that is none, of a call or with a stamp that is none: it is refused. -/
theorem add_form (L A n : Nat) (kind core fd off num : Int) (path path2 data : ByteArray) (sc sk : Int)
    (w : World) (hL0 : w.cell? ⟨L, 0, none⟩ = some (.slice (some ⟨A, 0, none⟩) n n)) (iL : BlockLt L w) (h : kind < 0 ∨ 16 < kind ∨ ¬ (0 ≤ core ∧ core < n) ∨ mayB sc sk = false) :
    Calls Try.prog 21 #[.pointer (some ⟨L, 0, none⟩), .agg #[.int .i64 kind, .int .i64 core, .int .i64 fd, .int .i64 off, .int .i64 num, .string path, .string path2, .string data], .agg #[.int .i64 sc, .int .i64 sk]] w fun e w' => e = .returned (.tuple #[.agg #[.int .i64 0, .int .i64 0], .int .i64 1700]) ∧ Below w.heap.size w w' := by
  rcases hm : mayB sc sk with _ | _ <;> by_cases hc : (0 ≤ core ∧ core < n) <;> by_cases hk0 : kind < 0 <;> by_cases hk1 : 16 < kind
  all_goals first | (exfalso; omega) | (exfalso; simp_all; done) | skip
  all_goals
    go_enter Try.func21, Try.ntmps21
    go_wp2_with (first
      | (go_at_call 11; refine (may_any _ _ _).mono ?_; rintro e w' ⟨rfl, hb⟩; obtain ⟨p, rfl⟩ := hb.rest; clear hb; simp only [hm])
      | (go_at_call 32; refine (core_any L A n _ _ (by go_simp)).mono ?_; rintro e w' ⟨rfl, hb⟩; obtain ⟨p, rfl⟩ := hb.rest; clear hb; simp only [hc])
      | (refine wp_region_quiet_rest (by kernel_rfl) (by kernel_rfl) ?_; (repeat (quiet_step (fail))); refine wpQuiet_nil ?_; intro w1 hw1; obtain ⟨p, hw1⟩ := hw1; subst hw1))
    refine bodyPost_ret (v := .tuple #[.agg #[.int .i64 0, .int .i64 0], .int .i64 1700]) (by simp [results, Try.results21, go_sem]) rfl ⟨rfl, bel _ _⟩
set_option maxRecDepth 100000 in
set_option maxHeartbeats 2000000 in
/-- Add to a core whose log is full: it is refused. -/
theorem add_full (L A n j : Nat) (kind fd off num : Int) (path path2 data : ByteArray) (sc sk : Int) (a : Option Addr) (m cp : Nat)
    (w : World) (hL0 : w.cell? ⟨L, 0, none⟩ = some (.slice (some ⟨A, 0, none⟩) n n)) (iL : BlockLt L w) (cA : w.cell? ⟨A, j, none⟩ = some (.slice a m cp)) (iA : BlockLt A w)
    (hj : j < n) (hn : n ≤ 8) (hm : 256 ≤ m) (hk0 : 0 ≤ kind) (hk1 : kind ≤ 16) (hs : mayB sc sk = true) :
    Calls Try.prog 21 #[.pointer (some ⟨L, 0, none⟩), .agg #[.int .i64 kind, .int .i64 j, .int .i64 fd, .int .i64 off, .int .i64 num, .string path, .string path2, .string data], .agg #[.int .i64 sc, .int .i64 sk]] w fun e w' => e = .returned (.tuple #[.agg #[.int .i64 0, .int .i64 0], .int .i64 1701]) ∧ Below w.heap.size w w' := by
  have hc : (0 ≤ (j : Int) ∧ (j : Int) < n) := by omega
  go_enter Try.func21, Try.ntmps21
  go_wp2_with (first
    | (go_at_call 11; refine (may_any _ _ _).mono ?_; rintro e w' ⟨rfl, hb⟩; obtain ⟨p, rfl⟩ := hb.rest; clear hb; simp only [hs])
    | (go_at_call 32; refine (core_any L A n _ _ (by go_simp)).mono ?_; rintro e w' ⟨rfl, hb⟩; obtain ⟨p, rfl⟩ := hb.rest; clear hb; simp only [hc])
    | (refine wp_region_quiet_rest (by kernel_rfl) (by kernel_rfl) ?_; (repeat (quiet_step (fail))); refine wpQuiet_nil ?_; intro w1 hw1; obtain ⟨p, hw1⟩ := hw1; subst hw1))
  refine bodyPost_ret (v := .tuple #[.agg #[.int .i64 0, .int .i64 0], .int .i64 1701]) (by simp [results, Try.results21, go_sem]) rfl ⟨rfl, bel _ _⟩
set_option maxHeartbeats 1000000 in
/-- The last stamp of a core. -/
theorem last_in (L A T n tc j : Nat) (lc lk : Int) (w : World) (hL0 : w.cell? ⟨L, 0, none⟩ = some (.slice (some ⟨A, 0, none⟩) n n)) (hL1 : w.cell? ⟨L, 1, none⟩ = some (.slice (some ⟨T, 0, none⟩) n tc)) (iL : BlockLt L w) (iT : BlockLt T w)
    (c0 : w.cell? ⟨T, j * 2, none⟩ = some (.int .i64 lc)) (c1 : w.cell? ⟨T, j * 2 + 1, none⟩ = some (.int .i64 lk)) (hj : j < n) (hn : n ≤ 8) :
    Calls Try.prog 23 #[.pointer (some ⟨L, 0, none⟩), .int .i64 j] w fun e w' => e = .returned (.agg #[.int .i64 lc, .int .i64 lk]) ∧ Below w.heap.size w w' := by
  have hc : (0 ≤ (j : Int) ∧ (j : Int) < n) := by omega
  go_enter Try.func23, Try.ntmps23
  go_wp2_with (first
    | (go_at_call 32; refine (core_any L A n _ _ (by go_simp)).mono ?_; rintro e w' ⟨rfl, hb⟩; obtain ⟨p, rfl⟩ := hb.rest; clear hb; simp only [hc])
    | (refine wp_region_quiet_rest (by kernel_rfl) (by kernel_rfl) ?_; (repeat (quiet_step (fail))); refine wpQuiet_nil ?_; intro w1 hw1; obtain ⟨p, hw1⟩ := hw1; subst hw1))
  refine bodyPost_ret (v := .agg #[.int .i64 lc, .int .i64 lk]) (by simp [results, Try.results23, go_sem]) rfl ⟨rfl, bel _ _⟩
end Go.Proofs.Ytpndplbomnjioaa
