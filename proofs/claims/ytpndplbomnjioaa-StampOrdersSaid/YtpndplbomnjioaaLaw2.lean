/- The walk of the second statement on stamps. Conditions: none. -/
import Derived.Test.YtpndplbomnjioaaStamp
namespace Go.Proofs.Ytpndplbomnjioaa
open Go.RowKit

theorem less_trans {a b c d e f : Int} (h1 : lessB a b c d = true) (h2 : lessB c d e f = true) (h3 : lessB a b e f = false) : False := by
  rw [lessB_t] at h1 h2
  rw [← Bool.not_eq_true, lessB_t] at h3
  omega
theorem less_trans' {a b c d e f : Int} (h1 : lessB a b c d = true) (h2 : lessB c d e f = true) : lessB a b e f = true := by
  rw [lessB_t] at h1 h2 ⊢
  omega
theorem less_self (a b : Int) : lessB a b a b = false := by rw [← Bool.not_eq_true, lessB_t]; omega

set_option maxHeartbeats 1000000 in
theorem orders_no1a (c k c' k' c2 k2 : Int) (w : World) (h : mayB c k = false) (h3 : lessB c k c' k' = false) :
    Calls Try.prog 4 #[.agg #[.int .i64 c, .int .i64 k], .agg #[.int .i64 c', .int .i64 k'], .agg #[.int .i64 c2, .int .i64 k2]] w fun e w' => e = .returned (.bool true) ∧ Below w.heap.size w w' := by
  have hn : nextC c k c' k' = c := nextC_f1 h
  go_enter Try.func4, Try.ntmps4
  go_wp2_with (first
    | (go_at_call 11; refine (may_any _ _ _).mono ?_; rintro e w' ⟨rfl, hb⟩; obtain ⟨p, rfl⟩ := hb.rest; clear hb)
    | (go_at_call 13; refine (less_any _ _ _ _ _).mono ?_; rintro e w' ⟨rfl, hb⟩; obtain ⟨p, rfl⟩ := hb.rest; clear hb)
    | (go_at_call 15; refine (next_any _ _ _ _ _).mono ?_; rintro e w' ⟨rfl, hb⟩; obtain ⟨p, rfl⟩ := hb.rest; clear hb)
    | (go_at_call 17; refine (awake16 _).mono ?_; rintro e w' ⟨rfl, hb⟩; obtain ⟨p, rfl⟩ := hb.rest; clear hb))
  · refine wp_region_quiet_rest (by kernel_rfl) (by kernel_rfl) ?_
    repeat (quiet_step (first
      | (go_at_call 13; refine calls_in (less_any _ _ _ _ _) (fun w' hb => ?_); first | exact rest1 hb | exact rest2 hb)
      | (go_at_call 15; refine calls_in (next_any _ _ _ _ _) (fun w' hb => ?_); first | exact rest1 hb | exact rest2 hb)))
    refine wpQuiet_nil ?_
    intro w1 hw1
    obtain ⟨p, hw1⟩ := hw1
    subst hw1
    go_wp2_with fail
    go_ret
    exact ⟨rfl, bel _ _⟩

set_option maxHeartbeats 1000000 in
theorem orders_no1b (c k c' k' c2 k2 : Int) (w : World) (h : mayB c k = false) (h3 : lessB c k c' k' = true) (h5 : lessB c' k' c2 k2 = false) :
    Calls Try.prog 4 #[.agg #[.int .i64 c, .int .i64 k], .agg #[.int .i64 c', .int .i64 k'], .agg #[.int .i64 c2, .int .i64 k2]] w fun e w' => e = .returned (.bool true) ∧ Below w.heap.size w w' := by
  have hn : nextC c k c' k' = c := nextC_f1 h
  go_enter Try.func4, Try.ntmps4
  go_wp2_with (first
    | (go_at_call 11; refine (may_any _ _ _).mono ?_; rintro e w' ⟨rfl, hb⟩; obtain ⟨p, rfl⟩ := hb.rest; clear hb)
    | (go_at_call 13; refine (less_any _ _ _ _ _).mono ?_; rintro e w' ⟨rfl, hb⟩; obtain ⟨p, rfl⟩ := hb.rest; clear hb)
    | (go_at_call 15; refine (next_any _ _ _ _ _).mono ?_; rintro e w' ⟨rfl, hb⟩; obtain ⟨p, rfl⟩ := hb.rest; clear hb)
    | (go_at_call 17; refine (awake16 _).mono ?_; rintro e w' ⟨rfl, hb⟩; obtain ⟨p, rfl⟩ := hb.rest; clear hb))
  · refine wp_region_quiet_rest (by kernel_rfl) (by kernel_rfl) ?_
    repeat (quiet_step (first
      | (go_at_call 13; refine calls_in (less_any _ _ _ _ _) (fun w' hb => ?_); first | exact rest1 hb | exact rest2 hb)
      | (go_at_call 15; refine calls_in (next_any _ _ _ _ _) (fun w' hb => ?_); first | exact rest1 hb | exact rest2 hb)))
    refine wpQuiet_nil ?_
    intro w1 hw1
    obtain ⟨p, hw1⟩ := hw1
    subst hw1
    go_wp2_with fail
    go_ret
    exact ⟨rfl, bel _ _⟩

set_option maxHeartbeats 1000000 in
theorem orders_no1c (c k c' k' c2 k2 : Int) (w : World) (h : mayB c k = false) (h3 : lessB c k c' k' = true) (h5 : lessB c' k' c2 k2 = true) :
    Calls Try.prog 4 #[.agg #[.int .i64 c, .int .i64 k], .agg #[.int .i64 c', .int .i64 k'], .agg #[.int .i64 c2, .int .i64 k2]] w fun e w' => e = .returned (.bool true) ∧ Below w.heap.size w w' := by
  have hn : nextC c k c' k' = c := nextC_f1 h
  have d3 : lessB c k c2 k2 = true := less_trans' h3 h5
  go_enter Try.func4, Try.ntmps4
  go_wp2_with (first
    | (go_at_call 11; refine (may_any _ _ _).mono ?_; rintro e w' ⟨rfl, hb⟩; obtain ⟨p, rfl⟩ := hb.rest; clear hb)
    | (go_at_call 13; refine (less_any _ _ _ _ _).mono ?_; rintro e w' ⟨rfl, hb⟩; obtain ⟨p, rfl⟩ := hb.rest; clear hb)
    | (go_at_call 15; refine (next_any _ _ _ _ _).mono ?_; rintro e w' ⟨rfl, hb⟩; obtain ⟨p, rfl⟩ := hb.rest; clear hb)
    | (go_at_call 17; refine (awake16 _).mono ?_; rintro e w' ⟨rfl, hb⟩; obtain ⟨p, rfl⟩ := hb.rest; clear hb))
  · refine wp_region_quiet_rest (by kernel_rfl) (by kernel_rfl) ?_
    repeat (quiet_step (first
      | (go_at_call 13; refine calls_in (less_any _ _ _ _ _) (fun w' hb => ?_); first | exact rest1 hb | exact rest2 hb)
      | (go_at_call 15; refine calls_in (next_any _ _ _ _ _) (fun w' hb => ?_); first | exact rest1 hb | exact rest2 hb)))
    refine wpQuiet_nil ?_
    intro w1 hw1
    obtain ⟨p, hw1⟩ := hw1
    subst hw1
    go_wp2_with fail
    go_ret
    exact ⟨rfl, bel _ _⟩

set_option maxHeartbeats 1000000 in
theorem orders_no2a (c k c' k' c2 k2 : Int) (w : World) (h1 : mayB c k = true) (h : mayB c' k' = false) (h3 : lessB c k c' k' = false) :
    Calls Try.prog 4 #[.agg #[.int .i64 c, .int .i64 k], .agg #[.int .i64 c', .int .i64 k'], .agg #[.int .i64 c2, .int .i64 k2]] w fun e w' => e = .returned (.bool true) ∧ Below w.heap.size w w' := by
  have hn : nextC c k c' k' = c := nextC_f2 h
  go_enter Try.func4, Try.ntmps4
  go_wp2_with (first
    | (go_at_call 11; refine (may_any _ _ _).mono ?_; rintro e w' ⟨rfl, hb⟩; obtain ⟨p, rfl⟩ := hb.rest; clear hb)
    | (go_at_call 13; refine (less_any _ _ _ _ _).mono ?_; rintro e w' ⟨rfl, hb⟩; obtain ⟨p, rfl⟩ := hb.rest; clear hb)
    | (go_at_call 15; refine (next_any _ _ _ _ _).mono ?_; rintro e w' ⟨rfl, hb⟩; obtain ⟨p, rfl⟩ := hb.rest; clear hb)
    | (go_at_call 17; refine (awake16 _).mono ?_; rintro e w' ⟨rfl, hb⟩; obtain ⟨p, rfl⟩ := hb.rest; clear hb))
  · refine wp_region_quiet_rest (by kernel_rfl) (by kernel_rfl) ?_
    repeat (quiet_step (first
      | (go_at_call 13; refine calls_in (less_any _ _ _ _ _) (fun w' hb => ?_); first | exact rest1 hb | exact rest2 hb)
      | (go_at_call 15; refine calls_in (next_any _ _ _ _ _) (fun w' hb => ?_); first | exact rest1 hb | exact rest2 hb)))
    refine wpQuiet_nil ?_
    intro w1 hw1
    obtain ⟨p, hw1⟩ := hw1
    subst hw1
    go_wp2_with fail
    go_ret
    exact ⟨rfl, bel _ _⟩

set_option maxHeartbeats 1000000 in
theorem orders_no2b (c k c' k' c2 k2 : Int) (w : World) (h1 : mayB c k = true) (h : mayB c' k' = false) (h3 : lessB c k c' k' = true) (h5 : lessB c' k' c2 k2 = false) :
    Calls Try.prog 4 #[.agg #[.int .i64 c, .int .i64 k], .agg #[.int .i64 c', .int .i64 k'], .agg #[.int .i64 c2, .int .i64 k2]] w fun e w' => e = .returned (.bool true) ∧ Below w.heap.size w w' := by
  have hn : nextC c k c' k' = c := nextC_f2 h
  go_enter Try.func4, Try.ntmps4
  go_wp2_with (first
    | (go_at_call 11; refine (may_any _ _ _).mono ?_; rintro e w' ⟨rfl, hb⟩; obtain ⟨p, rfl⟩ := hb.rest; clear hb)
    | (go_at_call 13; refine (less_any _ _ _ _ _).mono ?_; rintro e w' ⟨rfl, hb⟩; obtain ⟨p, rfl⟩ := hb.rest; clear hb)
    | (go_at_call 15; refine (next_any _ _ _ _ _).mono ?_; rintro e w' ⟨rfl, hb⟩; obtain ⟨p, rfl⟩ := hb.rest; clear hb)
    | (go_at_call 17; refine (awake16 _).mono ?_; rintro e w' ⟨rfl, hb⟩; obtain ⟨p, rfl⟩ := hb.rest; clear hb))
  · refine wp_region_quiet_rest (by kernel_rfl) (by kernel_rfl) ?_
    repeat (quiet_step (first
      | (go_at_call 13; refine calls_in (less_any _ _ _ _ _) (fun w' hb => ?_); first | exact rest1 hb | exact rest2 hb)
      | (go_at_call 15; refine calls_in (next_any _ _ _ _ _) (fun w' hb => ?_); first | exact rest1 hb | exact rest2 hb)))
    refine wpQuiet_nil ?_
    intro w1 hw1
    obtain ⟨p, hw1⟩ := hw1
    subst hw1
    go_wp2_with fail
    go_ret
    exact ⟨rfl, bel _ _⟩

set_option maxHeartbeats 1000000 in
theorem orders_no2c (c k c' k' c2 k2 : Int) (w : World) (h1 : mayB c k = true) (h : mayB c' k' = false) (h3 : lessB c k c' k' = true) (h5 : lessB c' k' c2 k2 = true) :
    Calls Try.prog 4 #[.agg #[.int .i64 c, .int .i64 k], .agg #[.int .i64 c', .int .i64 k'], .agg #[.int .i64 c2, .int .i64 k2]] w fun e w' => e = .returned (.bool true) ∧ Below w.heap.size w w' := by
  have hn : nextC c k c' k' = c := nextC_f2 h
  have d3 : lessB c k c2 k2 = true := less_trans' h3 h5
  go_enter Try.func4, Try.ntmps4
  go_wp2_with (first
    | (go_at_call 11; refine (may_any _ _ _).mono ?_; rintro e w' ⟨rfl, hb⟩; obtain ⟨p, rfl⟩ := hb.rest; clear hb)
    | (go_at_call 13; refine (less_any _ _ _ _ _).mono ?_; rintro e w' ⟨rfl, hb⟩; obtain ⟨p, rfl⟩ := hb.rest; clear hb)
    | (go_at_call 15; refine (next_any _ _ _ _ _).mono ?_; rintro e w' ⟨rfl, hb⟩; obtain ⟨p, rfl⟩ := hb.rest; clear hb)
    | (go_at_call 17; refine (awake16 _).mono ?_; rintro e w' ⟨rfl, hb⟩; obtain ⟨p, rfl⟩ := hb.rest; clear hb))
  · refine wp_region_quiet_rest (by kernel_rfl) (by kernel_rfl) ?_
    repeat (quiet_step (first
      | (go_at_call 13; refine calls_in (less_any _ _ _ _ _) (fun w' hb => ?_); first | exact rest1 hb | exact rest2 hb)
      | (go_at_call 15; refine calls_in (next_any _ _ _ _ _) (fun w' hb => ?_); first | exact rest1 hb | exact rest2 hb)))
    refine wpQuiet_nil ?_
    intro w1 hw1
    obtain ⟨p, hw1⟩ := hw1
    subst hw1
    go_wp2_with fail
    go_ret
    exact ⟨rfl, bel _ _⟩

set_option maxHeartbeats 1000000 in
theorem orders_eq (c k c' k' c2 k2 : Int) (w : World) (h1 : mayB c k = true) (h2 : mayB c' k' = true) (h3 : c = c') (h4 : k = k') :
    Calls Try.prog 4 #[.agg #[.int .i64 c, .int .i64 k], .agg #[.int .i64 c', .int .i64 k'], .agg #[.int .i64 c2, .int .i64 k2]] w fun e w' => e = .returned (.bool true) ∧ Below w.heap.size w w' := by
  subst h3
  subst h4
  have d1 : lessB c k (nextC c k c k) k = true := by rw [nextC_t h1 h2, lessB_t]; omega
  have d2 : lessB c k (nextC c k c k) k = true := by rw [nextC_t h1 h2, lessB_t]; omega
  have d3 : lessB c k c k = false := less_self c k
  go_enter Try.func4, Try.ntmps4
  go_wp2_with (first
    | (go_at_call 11; refine (may_any _ _ _).mono ?_; rintro e w' ⟨rfl, hb⟩; obtain ⟨p, rfl⟩ := hb.rest; clear hb)
    | (go_at_call 13; refine (less_any _ _ _ _ _).mono ?_; rintro e w' ⟨rfl, hb⟩; obtain ⟨p, rfl⟩ := hb.rest; clear hb)
    | (go_at_call 15; refine (next_any _ _ _ _ _).mono ?_; rintro e w' ⟨rfl, hb⟩; obtain ⟨p, rfl⟩ := hb.rest; clear hb)
    | (go_at_call 17; refine (awake16 _).mono ?_; rintro e w' ⟨rfl, hb⟩; obtain ⟨p, rfl⟩ := hb.rest; clear hb))
  · refine wp_region_quiet_rest (by kernel_rfl) (by kernel_rfl) ?_
    repeat (quiet_step (first
      | (go_at_call 13; refine calls_in (less_any _ _ _ _ _) (fun w' hb => ?_); first | exact rest1 hb | exact rest2 hb)
      | (go_at_call 15; refine calls_in (next_any _ _ _ _ _) (fun w' hb => ?_); first | exact rest1 hb | exact rest2 hb)))
    refine wpQuiet_nil ?_
    intro w1 hw1
    obtain ⟨p, hw1⟩ := hw1
    subst hw1
    go_wp2_with fail
    go_ret
    exact ⟨rfl, bel _ _⟩

set_option maxHeartbeats 1000000 in
theorem orders_lt1 (c k c' k' c2 k2 : Int) (w : World) (h1 : mayB c k = true) (h2 : mayB c' k' = true) (h3 : lessB c k c' k' = true) (h4 : lessB c' k' c k = false) (h5 : lessB c' k' c2 k2 = true) (hne : ¬ c = c') :
    Calls Try.prog 4 #[.agg #[.int .i64 c, .int .i64 k], .agg #[.int .i64 c', .int .i64 k'], .agg #[.int .i64 c2, .int .i64 k2]] w fun e w' => e = .returned (.bool true) ∧ Below w.heap.size w w' := by
  have d1 : lessB c k (nextC c k c' k') k = true := by rw [nextC_t h1 h2, lessB_t]; omega
  have d2 : lessB c' k' (nextC c k c' k') k = true := by rw [nextC_t h1 h2, lessB_t]; omega
  have d3 : lessB c k c2 k2 = true := less_trans' h3 h5
  go_enter Try.func4, Try.ntmps4
  go_wp2_with (first
    | (go_at_call 11; refine (may_any _ _ _).mono ?_; rintro e w' ⟨rfl, hb⟩; obtain ⟨p, rfl⟩ := hb.rest; clear hb)
    | (go_at_call 13; refine (less_any _ _ _ _ _).mono ?_; rintro e w' ⟨rfl, hb⟩; obtain ⟨p, rfl⟩ := hb.rest; clear hb)
    | (go_at_call 15; refine (next_any _ _ _ _ _).mono ?_; rintro e w' ⟨rfl, hb⟩; obtain ⟨p, rfl⟩ := hb.rest; clear hb)
    | (go_at_call 17; refine (awake16 _).mono ?_; rintro e w' ⟨rfl, hb⟩; obtain ⟨p, rfl⟩ := hb.rest; clear hb))
  · refine wp_region_quiet_rest (by kernel_rfl) (by kernel_rfl) ?_
    repeat (quiet_step (first
      | (go_at_call 13; refine calls_in (less_any _ _ _ _ _) (fun w' hb => ?_); first | exact rest1 hb | exact rest2 hb)
      | (go_at_call 15; refine calls_in (next_any _ _ _ _ _) (fun w' hb => ?_); first | exact rest1 hb | exact rest2 hb)))
    refine wpQuiet_nil ?_
    intro w1 hw1
    obtain ⟨p, hw1⟩ := hw1
    subst hw1
    go_wp2_with fail
    go_ret
    exact ⟨rfl, bel _ _⟩

set_option maxHeartbeats 1000000 in
theorem orders_lt2 (c k c' k' c2 k2 : Int) (w : World) (h1 : mayB c k = true) (h2 : mayB c' k' = true) (h3 : lessB c k c' k' = true) (h4 : lessB c' k' c k = false) (h5 : lessB c' k' c2 k2 = false) (hne : ¬ c = c') :
    Calls Try.prog 4 #[.agg #[.int .i64 c, .int .i64 k], .agg #[.int .i64 c', .int .i64 k'], .agg #[.int .i64 c2, .int .i64 k2]] w fun e w' => e = .returned (.bool true) ∧ Below w.heap.size w w' := by
  have d1 : lessB c k (nextC c k c' k') k = true := by rw [nextC_t h1 h2, lessB_t]; omega
  have d2 : lessB c' k' (nextC c k c' k') k = true := by rw [nextC_t h1 h2, lessB_t]; omega
  go_enter Try.func4, Try.ntmps4
  go_wp2_with (first
    | (go_at_call 11; refine (may_any _ _ _).mono ?_; rintro e w' ⟨rfl, hb⟩; obtain ⟨p, rfl⟩ := hb.rest; clear hb)
    | (go_at_call 13; refine (less_any _ _ _ _ _).mono ?_; rintro e w' ⟨rfl, hb⟩; obtain ⟨p, rfl⟩ := hb.rest; clear hb)
    | (go_at_call 15; refine (next_any _ _ _ _ _).mono ?_; rintro e w' ⟨rfl, hb⟩; obtain ⟨p, rfl⟩ := hb.rest; clear hb)
    | (go_at_call 17; refine (awake16 _).mono ?_; rintro e w' ⟨rfl, hb⟩; obtain ⟨p, rfl⟩ := hb.rest; clear hb))
  · refine wp_region_quiet_rest (by kernel_rfl) (by kernel_rfl) ?_
    repeat (quiet_step (first
      | (go_at_call 13; refine calls_in (less_any _ _ _ _ _) (fun w' hb => ?_); first | exact rest1 hb | exact rest2 hb)
      | (go_at_call 15; refine calls_in (next_any _ _ _ _ _) (fun w' hb => ?_); first | exact rest1 hb | exact rest2 hb)))
    refine wpQuiet_nil ?_
    intro w1 hw1
    obtain ⟨p, hw1⟩ := hw1
    subst hw1
    go_wp2_with fail
    go_ret
    exact ⟨rfl, bel _ _⟩

set_option maxHeartbeats 1000000 in
theorem orders_gt (c k c' k' c2 k2 : Int) (w : World) (h1 : mayB c k = true) (h2 : mayB c' k' = true) (h3 : lessB c k c' k' = false) (h4 : lessB c' k' c k = true) (hne : ¬ c = c') :
    Calls Try.prog 4 #[.agg #[.int .i64 c, .int .i64 k], .agg #[.int .i64 c', .int .i64 k'], .agg #[.int .i64 c2, .int .i64 k2]] w fun e w' => e = .returned (.bool true) ∧ Below w.heap.size w w' := by
  have d1 : lessB c k (nextC c k c' k') k = true := by rw [nextC_t h1 h2, lessB_t]; omega
  have d2 : lessB c' k' (nextC c k c' k') k = true := by rw [nextC_t h1 h2, lessB_t]; omega
  go_enter Try.func4, Try.ntmps4
  go_wp2_with (first
    | (go_at_call 11; refine (may_any _ _ _).mono ?_; rintro e w' ⟨rfl, hb⟩; obtain ⟨p, rfl⟩ := hb.rest; clear hb)
    | (go_at_call 13; refine (less_any _ _ _ _ _).mono ?_; rintro e w' ⟨rfl, hb⟩; obtain ⟨p, rfl⟩ := hb.rest; clear hb)
    | (go_at_call 15; refine (next_any _ _ _ _ _).mono ?_; rintro e w' ⟨rfl, hb⟩; obtain ⟨p, rfl⟩ := hb.rest; clear hb)
    | (go_at_call 17; refine (awake16 _).mono ?_; rintro e w' ⟨rfl, hb⟩; obtain ⟨p, rfl⟩ := hb.rest; clear hb))
  · refine wp_region_quiet_rest (by kernel_rfl) (by kernel_rfl) ?_
    repeat (quiet_step (first
      | (go_at_call 13; refine calls_in (less_any _ _ _ _ _) (fun w' hb => ?_); first | exact rest1 hb | exact rest2 hb)
      | (go_at_call 15; refine calls_in (next_any _ _ _ _ _) (fun w' hb => ?_); first | exact rest1 hb | exact rest2 hb)))
    refine wpQuiet_nil ?_
    intro w1 hw1
    obtain ⟨p, hw1⟩ := hw1
    subst hw1
    go_wp2_with fail
    go_ret
    exact ⟨rfl, bel _ _⟩

set_option maxHeartbeats 1000000 in
theorem orders_lt1B (c k k' c2 k2 : Int) (w : World) (h1 : mayB c k = true) (h2 : mayB c k' = true) (h3 : lessB c k c k' = true) (h4 : lessB c k' c k = false) (h5 : lessB c k' c2 k2 = true) (hne : ¬ k = k') :
    Calls Try.prog 4 #[.agg #[.int .i64 c, .int .i64 k], .agg #[.int .i64 c, .int .i64 k'], .agg #[.int .i64 c2, .int .i64 k2]] w fun e w' => e = .returned (.bool true) ∧ Below w.heap.size w w' := by
  have d1 : lessB c k (nextC c k c k') k = true := by rw [nextC_t h1 h2, lessB_t]; omega
  have d2 : lessB c k' (nextC c k c k') k = true := by rw [nextC_t h1 h2, lessB_t]; omega
  have d3 : lessB c k c2 k2 = true := less_trans' h3 h5
  go_enter Try.func4, Try.ntmps4
  go_wp2_with (first
    | (go_at_call 11; refine (may_any _ _ _).mono ?_; rintro e w' ⟨rfl, hb⟩; obtain ⟨p, rfl⟩ := hb.rest; clear hb)
    | (go_at_call 13; refine (less_any _ _ _ _ _).mono ?_; rintro e w' ⟨rfl, hb⟩; obtain ⟨p, rfl⟩ := hb.rest; clear hb)
    | (go_at_call 15; refine (next_any _ _ _ _ _).mono ?_; rintro e w' ⟨rfl, hb⟩; obtain ⟨p, rfl⟩ := hb.rest; clear hb)
    | (go_at_call 17; refine (awake16 _).mono ?_; rintro e w' ⟨rfl, hb⟩; obtain ⟨p, rfl⟩ := hb.rest; clear hb))
  · refine wp_region_quiet_rest (by kernel_rfl) (by kernel_rfl) ?_
    repeat (quiet_step (first
      | (go_at_call 13; refine calls_in (less_any _ _ _ _ _) (fun w' hb => ?_); first | exact rest1 hb | exact rest2 hb)
      | (go_at_call 15; refine calls_in (next_any _ _ _ _ _) (fun w' hb => ?_); first | exact rest1 hb | exact rest2 hb)))
    refine wpQuiet_nil ?_
    intro w1 hw1
    obtain ⟨p, hw1⟩ := hw1
    subst hw1
    go_wp2_with fail
    go_ret
    exact ⟨rfl, bel _ _⟩

set_option maxHeartbeats 1000000 in
theorem orders_lt2B (c k k' c2 k2 : Int) (w : World) (h1 : mayB c k = true) (h2 : mayB c k' = true) (h3 : lessB c k c k' = true) (h4 : lessB c k' c k = false) (h5 : lessB c k' c2 k2 = false) (hne : ¬ k = k') :
    Calls Try.prog 4 #[.agg #[.int .i64 c, .int .i64 k], .agg #[.int .i64 c, .int .i64 k'], .agg #[.int .i64 c2, .int .i64 k2]] w fun e w' => e = .returned (.bool true) ∧ Below w.heap.size w w' := by
  have d1 : lessB c k (nextC c k c k') k = true := by rw [nextC_t h1 h2, lessB_t]; omega
  have d2 : lessB c k' (nextC c k c k') k = true := by rw [nextC_t h1 h2, lessB_t]; omega
  go_enter Try.func4, Try.ntmps4
  go_wp2_with (first
    | (go_at_call 11; refine (may_any _ _ _).mono ?_; rintro e w' ⟨rfl, hb⟩; obtain ⟨p, rfl⟩ := hb.rest; clear hb)
    | (go_at_call 13; refine (less_any _ _ _ _ _).mono ?_; rintro e w' ⟨rfl, hb⟩; obtain ⟨p, rfl⟩ := hb.rest; clear hb)
    | (go_at_call 15; refine (next_any _ _ _ _ _).mono ?_; rintro e w' ⟨rfl, hb⟩; obtain ⟨p, rfl⟩ := hb.rest; clear hb)
    | (go_at_call 17; refine (awake16 _).mono ?_; rintro e w' ⟨rfl, hb⟩; obtain ⟨p, rfl⟩ := hb.rest; clear hb))
  · refine wp_region_quiet_rest (by kernel_rfl) (by kernel_rfl) ?_
    repeat (quiet_step (first
      | (go_at_call 13; refine calls_in (less_any _ _ _ _ _) (fun w' hb => ?_); first | exact rest1 hb | exact rest2 hb)
      | (go_at_call 15; refine calls_in (next_any _ _ _ _ _) (fun w' hb => ?_); first | exact rest1 hb | exact rest2 hb)))
    refine wpQuiet_nil ?_
    intro w1 hw1
    obtain ⟨p, hw1⟩ := hw1
    subst hw1
    go_wp2_with fail
    go_ret
    exact ⟨rfl, bel _ _⟩

set_option maxHeartbeats 1000000 in
theorem orders_gtB (c k k' c2 k2 : Int) (w : World) (h1 : mayB c k = true) (h2 : mayB c k' = true) (h3 : lessB c k c k' = false) (h4 : lessB c k' c k = true) (hne : ¬ k = k') :
    Calls Try.prog 4 #[.agg #[.int .i64 c, .int .i64 k], .agg #[.int .i64 c, .int .i64 k'], .agg #[.int .i64 c2, .int .i64 k2]] w fun e w' => e = .returned (.bool true) ∧ Below w.heap.size w w' := by
  have d1 : lessB c k (nextC c k c k') k = true := by rw [nextC_t h1 h2, lessB_t]; omega
  have d2 : lessB c k' (nextC c k c k') k = true := by rw [nextC_t h1 h2, lessB_t]; omega
  go_enter Try.func4, Try.ntmps4
  go_wp2_with (first
    | (go_at_call 11; refine (may_any _ _ _).mono ?_; rintro e w' ⟨rfl, hb⟩; obtain ⟨p, rfl⟩ := hb.rest; clear hb)
    | (go_at_call 13; refine (less_any _ _ _ _ _).mono ?_; rintro e w' ⟨rfl, hb⟩; obtain ⟨p, rfl⟩ := hb.rest; clear hb)
    | (go_at_call 15; refine (next_any _ _ _ _ _).mono ?_; rintro e w' ⟨rfl, hb⟩; obtain ⟨p, rfl⟩ := hb.rest; clear hb)
    | (go_at_call 17; refine (awake16 _).mono ?_; rintro e w' ⟨rfl, hb⟩; obtain ⟨p, rfl⟩ := hb.rest; clear hb))
  · refine wp_region_quiet_rest (by kernel_rfl) (by kernel_rfl) ?_
    repeat (quiet_step (first
      | (go_at_call 13; refine calls_in (less_any _ _ _ _ _) (fun w' hb => ?_); first | exact rest1 hb | exact rest2 hb)
      | (go_at_call 15; refine calls_in (next_any _ _ _ _ _) (fun w' hb => ?_); first | exact rest1 hb | exact rest2 hb)))
    refine wpQuiet_nil ?_
    intro w1 hw1
    obtain ⟨p, hw1⟩ := hw1
    subst hw1
    go_wp2_with fail
    go_ret
    exact ⟨rfl, bel _ _⟩

theorem orders_walk (c k c' k' c2 k2 : Int) (w : World) :
    Calls Try.prog 4 #[.agg #[.int .i64 c, .int .i64 k], .agg #[.int .i64 c', .int .i64 k'], .agg #[.int .i64 c2, .int .i64 k2]] w fun e w' => e = .returned (.bool true) ∧ Below w.heap.size w w' := by
  cases h1 : mayB c k
  · cases h3 : lessB c k c' k'
    · exact orders_no1a _ _ _ _ _ _ _ h1 h3
    · cases h5 : lessB c' k' c2 k2
      · exact orders_no1b _ _ _ _ _ _ _ h1 h3 h5
      · exact orders_no1c _ _ _ _ _ _ _ h1 h3 h5
  · cases h2 : mayB c' k'
    · cases h3 : lessB c k c' k'
      · exact orders_no2a _ _ _ _ _ _ _ h1 h2 h3
      · cases h5 : lessB c' k' c2 k2
        · exact orders_no2b _ _ _ _ _ _ _ h1 h2 h3 h5
        · exact orders_no2c _ _ _ _ _ _ _ h1 h2 h3 h5
    · by_cases he : c = c' ∧ k = k'
      · exact orders_eq _ _ _ _ _ _ _ h1 h2 he.1 he.2
      · cases h3 : lessB c k c' k'
        · have h4 : lessB c' k' c k = true := by
            rw [lessB_t]; rw [← Bool.not_eq_true, lessB_t] at h3; omega
          by_cases hc : c = c'
          · subst hc
            exact orders_gtB _ _ _ _ _ _ h1 h2 h3 h4 (fun e => he ⟨rfl, e⟩)
          · exact orders_gt _ _ _ _ _ _ _ h1 h2 h3 h4 hc
        · have h4 : lessB c' k' c k = false := by
            rw [← Bool.not_eq_true, lessB_t]; rw [lessB_t] at h3; omega
          by_cases hc : c = c'
          · subst hc
            cases h5 : lessB c k' c2 k2
            · exact orders_lt2B _ _ _ _ _ _ h1 h2 h3 h4 h5 (fun e => he ⟨rfl, e⟩)
            · exact orders_lt1B _ _ _ _ _ _ h1 h2 h3 h4 h5 (fun e => he ⟨rfl, e⟩)
          · cases h5 : lessB c' k' c2 k2
            · exact orders_lt2 _ _ _ _ _ _ _ h1 h2 h3 h4 h5 hc
            · exact orders_lt1 _ _ _ _ _ _ _ h1 h2 h3 h4 h5 hc

end Go.Proofs.Ytpndplbomnjioaa
