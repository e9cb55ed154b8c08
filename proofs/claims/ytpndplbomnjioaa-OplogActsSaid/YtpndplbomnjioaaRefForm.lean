/- The document's Add with an argument of no good form, or to a full row. Conditions: none. -/
import Derived.Test.YtpndplbomnjioaaRef0
set_option linter.unusedVariables false
namespace Go.Proofs.Ytpndplbomnjioaa
open Go.RowKit
set_option maxRecDepth 100000 in
set_option maxHeartbeats 2000000 in
theorem refadd_form (L A n : Nat) (kind core fd off num : Int) (path path2 data : ByteArray) (sc sk : Int)
    (w : World) (hL0 : w.cell? ⟨L, 0, none⟩ = some (.slice (some ⟨A, 0, none⟩) n n)) (iL : BlockLt L w) (h : kind < 0 ∨ 16 < kind ∨ ¬ (0 ≤ core ∧ core < n) ∨ mayB sc sk = false) :
    Calls Try.prog 27 #[.pointer (some ⟨L, 0, none⟩), .agg #[.int .i64 kind, .int .i64 core, .int .i64 fd, .int .i64 off, .int .i64 num, .string path, .string path2, .string data], .agg #[.int .i64 sc, .int .i64 sk]] w fun e w' => e = .returned (.tuple #[.agg #[.int .i64 0, .int .i64 0], .int .i64 1700]) ∧ Below w.heap.size w w' := by
  have hcs : kind < 0 ∨ (¬ kind < 0 ∧ 16 < kind) ∨ (¬ kind < 0 ∧ ¬ 16 < kind ∧ core < 0) ∨ (¬ kind < 0 ∧ ¬ 16 < kind ∧ ¬ core < 0 ∧ (n : Int) ≤ core) ∨ (¬ kind < 0 ∧ ¬ 16 < kind ∧ ¬ core < 0 ∧ ¬ (n : Int) ≤ core ∧ mayB sc sk = false) := by
    by_cases p1 : kind < 0
    · exact .inl p1
    by_cases p2 : 16 < kind
    · exact .inr (.inl ⟨p1, p2⟩)
    by_cases p3 : core < 0
    · exact .inr (.inr (.inl ⟨p1, p2, p3⟩))
    by_cases p4 : (n : Int) ≤ core
    · exact .inr (.inr (.inr (.inl ⟨p1, p2, p3, p4⟩)))
    refine .inr (.inr (.inr (.inr ⟨p1, p2, p3, p4, ?_⟩)))
    rcases h with h | h | h | h
    · omega
    · omega
    · omega
    · exact h
  clear h
  have hmay : ∀ w, Calls Try.prog 12 #[.agg #[.int .i64 sc, .int .i64 sk]] w _ := fun w => refmay_any sc sk w
  rcases hcs with h1 | ⟨h1, h2⟩ | ⟨h1, h2, h3⟩ | ⟨h1, h2, h3, h4⟩ | ⟨h1, h2, h3, h4, h5⟩
  all_goals
    try rw [h5] at hmay
    go_enter Try.func27, Try.ntmps27
    go_upto_region 1 with fail
    refine wp_region_quiet_rest (by kernel_rfl) (by kernel_rfl) (WQ.out ?_)
    repeat
      refine WQ_step (fun K hK => ?_)
      go_simp
      first
        | (refine hK _ ?_; clear hK K)
        | (apply Exists.intro
           refine ⟨fun _ => ?_, hK _ ?_⟩
           focus
             go_at_call 12
             refine calls_in (hmay _) (fun w' hb => ?_)
             first | exact rest1 hb | exact rest2 hb
           clear hK K)
    refine WQ_nil ?_
    intro w1 hw1
    obtain ⟨p, hw1⟩ := hw1
    subst hw1
    go_wp2_with fail
    refine bodyPost_ret (v := .tuple #[.agg #[.int .i64 0, .int .i64 0], .int .i64 1700]) (by simp [results, Try.results27, go_sem]) rfl ⟨rfl, bel _ _⟩
set_option maxRecDepth 100000 in
set_option maxHeartbeats 2000000 in
theorem refadd_full (L A n j : Nat) (kind fd off num : Int) (path path2 data : ByteArray) (sc sk : Int) (a : Option Addr) (m cp : Nat)
    (w : World) (hL0 : w.cell? ⟨L, 0, none⟩ = some (.slice (some ⟨A, 0, none⟩) n n)) (iL : BlockLt L w) (cA : w.cell? ⟨A, j, none⟩ = some (.slice a m cp)) (iA : BlockLt A w)
    (hj : j < n) (hn : n ≤ 8) (hm : 256 ≤ m) (hk0 : 0 ≤ kind) (hk1 : kind ≤ 16) (hs : mayB sc sk = true) :
    Calls Try.prog 27 #[.pointer (some ⟨L, 0, none⟩), .agg #[.int .i64 kind, .int .i64 j, .int .i64 fd, .int .i64 off, .int .i64 num, .string path, .string path2, .string data], .agg #[.int .i64 sc, .int .i64 sk]] w fun e w' => e = .returned (.tuple #[.agg #[.int .i64 0, .int .i64 0], .int .i64 1701]) ∧ Below w.heap.size w w' := by
  have hjn : ¬ (n : Int) ≤ j := by omega
  have hmay : ∀ w, Calls Try.prog 12 #[.agg #[.int .i64 sc, .int .i64 sk]] w _ := fun w => refmay_any sc sk w
  rw [hs] at hmay
  go_enter Try.func27, Try.ntmps27
  go_upto_region 1 with fail
  refine wp_region_quiet_rest (by kernel_rfl) (by kernel_rfl) (WQ.out ?_)
  repeat
    refine WQ_step (fun K hK => ?_)
    go_simp
    first
      | (refine hK _ ?_; clear hK K)
      | (apply Exists.intro
         refine ⟨fun _ => ?_, hK _ ?_⟩
         focus
           go_at_call 12
           refine calls_in (hmay _) (fun w' hb => ?_)
           first | exact rest1 hb | exact rest2 hb
         clear hK K)
  refine WQ_nil ?_
  intro w1 hw1
  obtain ⟨p, hw1⟩ := hw1
  subst hw1
  go_upto_region 3 with fail
  refine wp_region_quiet_rest (by kernel_rfl) (by kernel_rfl) (WQ.out ?_)
  repeat
    refine WQ_step (fun K hK => ?_)
    go_simp
    refine hK _ ?_
    clear hK K
  refine WQ_nil ?_
  intro w1 hw1
  obtain ⟨p, hw1⟩ := hw1
  subst hw1
  go_wp2_with fail
  refine bodyPost_ret (v := .tuple #[.agg #[.int .i64 0, .int .i64 0], .int .i64 1701]) (by simp [results, Try.results27, go_sem]) rfl ⟨rfl, bel _ _⟩
end Go.Proofs.Ytpndplbomnjioaa
