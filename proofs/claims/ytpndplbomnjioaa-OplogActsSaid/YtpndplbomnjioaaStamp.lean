/- Contracts of the stamp functions: what May, Less and Next answer. Conditions: none. -/
import Derived.Test.YtpndplbomnjioaaKit
namespace Go.Proofs.Ytpndplbomnjioaa
open Go.RowKit

def mayB (c k : Int) : Bool := decide (0 ≤ c ∧ c ≤ 1099511627776 ∧ 0 ≤ k ∧ k < 8)
def lessB (c k c' k' : Int) : Bool := decide (c < c' ∨ (c = c' ∧ k < k'))
theorem mayB_t {c k : Int} : mayB c k = true ↔ (0 ≤ c ∧ c ≤ 1099511627776 ∧ 0 ≤ k ∧ k < 8) := by unfold mayB; simp
theorem lessB_t {c k c' k' : Int} : lessB c k c' k' = true ↔ (c < c' ∨ (c = c' ∧ k < k')) := by unfold lessB; simp
def nextC (c k c' k' : Int) : Int := if mayB c k && mayB c' k' then max c c' + 1 else c
theorem nextC_t {c k c' k' : Int} (h1 : mayB c k = true) (h2 : mayB c' k' = true) : nextC c k c' k' = max c c' + 1 := by simp [nextC, h1, h2]
theorem nextC_f1 {c k c' k' : Int} (h1 : mayB c k = false) : nextC c k c' k' = c := by simp [nextC, h1]
theorem nextC_f2 {c k c' k' : Int} (h2 : mayB c' k' = false) : nextC c k c' k' = c := by simp [nextC, h2]

set_option maxHeartbeats 400000 in
theorem may_any (c k : Int) (w : World) :
    Calls Try.prog 11 #[.agg #[.int .i64 c, .int .i64 k]] w fun e w' => e = .returned (.bool (mayB c k)) ∧ Below w.heap.size w w' := by
  go_enter Try.func11, Try.ntmps11
  go_wp2
  all_goals go_ret
  all_goals refine ⟨?_, (Below.refl _ _).alloc (Nat.le_refl _) _⟩
  all_goals (apply ret_bool; rw [Bool.eq_iff_iff, mayB_t]; simp; omega)

set_option maxHeartbeats 400000 in
theorem refmay_any (c k : Int) (w : World) :
    Calls Try.prog 12 #[.agg #[.int .i64 c, .int .i64 k]] w fun e w' => e = .returned (.bool (mayB c k)) ∧ Below w.heap.size w w' := by
  go_enter Try.func12, Try.ntmps12
  go_wp2
  all_goals go_ret
  all_goals refine ⟨?_, (Below.refl _ _).alloc (Nat.le_refl _) _⟩
  all_goals (apply ret_bool; rw [Bool.eq_iff_iff, mayB_t]; simp; omega)

set_option maxHeartbeats 400000 in
theorem less_any (c k c' k' : Int) (w : World) :
    Calls Try.prog 13 #[.agg #[.int .i64 c, .int .i64 k], .agg #[.int .i64 c', .int .i64 k']] w fun e w' => e = .returned (.bool (lessB c k c' k')) ∧ Below w.heap.size w w' := by
  go_enter Try.func13, Try.ntmps13
  go_wp2
  all_goals go_ret
  all_goals refine ⟨?_, ((Below.refl _ _).alloc (Nat.le_refl _) _).alloc (by simp) _⟩
  all_goals (apply ret_bool; rw [Bool.eq_iff_iff, lessB_t]; simp; omega)

set_option maxHeartbeats 400000 in
theorem refless_any (c k c' k' : Int) (w : World) :
    Calls Try.prog 14 #[.agg #[.int .i64 c, .int .i64 k], .agg #[.int .i64 c', .int .i64 k']] w fun e w' => e = .returned (.bool (lessB c k c' k')) ∧ Below w.heap.size w w' := by
  go_enter Try.func14, Try.ntmps14
  by_cases hcc : c = c'
  all_goals go_wp2
  all_goals go_ret
  all_goals refine ⟨?_, ((Below.refl _ _).alloc (Nat.le_refl _) _).alloc (by simp) _⟩
  all_goals (apply ret_bool; rw [Bool.eq_iff_iff, lessB_t]; simp)
  all_goals omega

set_option maxHeartbeats 400000 in
theorem next_yes (c k c' k' : Int) (w : World) (h1 : mayB c k = true) (h2 : mayB c' k' = true) :
    Calls Try.prog 15 #[.agg #[.int .i64 c, .int .i64 k], .agg #[.int .i64 c', .int .i64 k']] w fun e w' => e = .returned (.agg #[.int .i64 (nextC c k c' k'), .int .i64 k]) ∧ Below w.heap.size w w' := by
  have b1 := mayB_t.1 h1
  have b2 := mayB_t.1 h2
  have H := Lib.hid (nextC_t h1 h2)
  go_enter Try.func15, Try.ntmps15
  go_wp2_with (go_at_call 11; refine (may_any _ _ _).mono ?_; rintro e w' ⟨rfl, hb⟩; obtain ⟨p, rfl⟩ := hb.rest; clear hb)
  · exact bodyPost_ret (v := .agg #[.int .i64 (c' + 1), .int .i64 k]) (by simp [results, Try.results15, go_sem]) rfl ⟨by rw [H.out, Int.max_eq_right (by omega)], bel _ _⟩
  · exact bodyPost_ret (v := .agg #[.int .i64 (c + 1), .int .i64 k]) (by simp [results, Try.results15, go_sem]) rfl ⟨by rw [H.out, Int.max_eq_left (by omega)], bel _ _⟩

set_option maxHeartbeats 400000 in
theorem next_no1 (c k c' k' : Int) (w : World) (h1 : mayB c k = false) :
    Calls Try.prog 15 #[.agg #[.int .i64 c, .int .i64 k], .agg #[.int .i64 c', .int .i64 k']] w fun e w' => e = .returned (.agg #[.int .i64 (nextC c k c' k'), .int .i64 k]) ∧ Below w.heap.size w w' := by
  have H := Lib.hid (nextC_f1 (c' := c') (k' := k') h1)
  go_enter Try.func15, Try.ntmps15
  go_wp2_with (go_at_call 11; refine (may_any _ _ _).mono ?_; rintro e w' ⟨rfl, hb⟩; obtain ⟨p, rfl⟩ := hb.rest; clear hb)
  exact bodyPost_ret (v := .agg #[.int .i64 c, .int .i64 k]) (by simp [results, Try.results15, go_sem]) rfl ⟨by rw [H.out], bel _ _⟩

set_option maxHeartbeats 400000 in
theorem next_no2 (c k c' k' : Int) (w : World) (h1 : mayB c k = true) (h2 : mayB c' k' = false) :
    Calls Try.prog 15 #[.agg #[.int .i64 c, .int .i64 k], .agg #[.int .i64 c', .int .i64 k']] w fun e w' => e = .returned (.agg #[.int .i64 (nextC c k c' k'), .int .i64 k]) ∧ Below w.heap.size w w' := by
  have H := Lib.hid (nextC_f2 (c := c) (k := k) h2)
  go_enter Try.func15, Try.ntmps15
  go_wp2_with (go_at_call 11; refine (may_any _ _ _).mono ?_; rintro e w' ⟨rfl, hb⟩; obtain ⟨p, rfl⟩ := hb.rest; clear hb)
  exact bodyPost_ret (v := .agg #[.int .i64 c, .int .i64 k]) (by simp [results, Try.results15, go_sem]) rfl ⟨by rw [H.out], bel _ _⟩

theorem next_any (c k c' k' : Int) (w : World) :
    Calls Try.prog 15 #[.agg #[.int .i64 c, .int .i64 k], .agg #[.int .i64 c', .int .i64 k']] w fun e w' => e = .returned (.agg #[.int .i64 (nextC c k c' k'), .int .i64 k]) ∧ Below w.heap.size w w' := by
  cases h1 : mayB c k
  · exact next_no1 _ _ _ _ _ h1
  · cases h2 : mayB c' k'
    · exact next_no2 _ _ _ _ _ h1 h2
    · exact next_yes _ _ _ _ _ h1 h2

set_option maxHeartbeats 400000 in
theorem refnext_yes (c k c' k' : Int) (w : World) (h1 : mayB c k = true) (h2 : mayB c' k' = true) :
    Calls Try.prog 16 #[.agg #[.int .i64 c, .int .i64 k], .agg #[.int .i64 c', .int .i64 k']] w fun e w' => e = .returned (.agg #[.int .i64 (nextC c k c' k'), .int .i64 k]) ∧ Below w.heap.size w w' := by
  have b1 := mayB_t.1 h1
  have b2 := mayB_t.1 h2
  have H := Lib.hid (nextC_t h1 h2)
  go_enter Try.func16, Try.ntmps16
  go_wp2_with (go_at_call 12; refine (refmay_any _ _ _).mono ?_; rintro e w' ⟨rfl, hb⟩; obtain ⟨p, rfl⟩ := hb.rest; clear hb)
  · exact bodyPost_ret (v := .agg #[.int .i64 (c' + 1), .int .i64 k]) (by simp [results, Try.results16, go_sem]) rfl ⟨by rw [H.out, Int.max_eq_right (by omega)], bel _ _⟩
  · exact bodyPost_ret (v := .agg #[.int .i64 (c + 1), .int .i64 k]) (by simp [results, Try.results16, go_sem]) rfl ⟨by rw [H.out, Int.max_eq_left (by omega)], bel _ _⟩

set_option maxHeartbeats 400000 in
theorem refnext_no1 (c k c' k' : Int) (w : World) (h1 : mayB c k = false) :
    Calls Try.prog 16 #[.agg #[.int .i64 c, .int .i64 k], .agg #[.int .i64 c', .int .i64 k']] w fun e w' => e = .returned (.agg #[.int .i64 (nextC c k c' k'), .int .i64 k]) ∧ Below w.heap.size w w' := by
  have H := Lib.hid (nextC_f1 (c' := c') (k' := k') h1)
  go_enter Try.func16, Try.ntmps16
  go_wp2_with (go_at_call 12; refine (refmay_any _ _ _).mono ?_; rintro e w' ⟨rfl, hb⟩; obtain ⟨p, rfl⟩ := hb.rest; clear hb)
  exact bodyPost_ret (v := .agg #[.int .i64 c, .int .i64 k]) (by simp [results, Try.results16, go_sem]) rfl ⟨by rw [H.out], bel _ _⟩

set_option maxHeartbeats 400000 in
theorem refnext_no2 (c k c' k' : Int) (w : World) (h1 : mayB c k = true) (h2 : mayB c' k' = false) :
    Calls Try.prog 16 #[.agg #[.int .i64 c, .int .i64 k], .agg #[.int .i64 c', .int .i64 k']] w fun e w' => e = .returned (.agg #[.int .i64 (nextC c k c' k'), .int .i64 k]) ∧ Below w.heap.size w w' := by
  have H := Lib.hid (nextC_f2 (c := c) (k := k) h2)
  go_enter Try.func16, Try.ntmps16
  go_wp2_with (go_at_call 12; refine (refmay_any _ _ _).mono ?_; rintro e w' ⟨rfl, hb⟩; obtain ⟨p, rfl⟩ := hb.rest; clear hb)
  exact bodyPost_ret (v := .agg #[.int .i64 c, .int .i64 k]) (by simp [results, Try.results16, go_sem]) rfl ⟨by rw [H.out], bel _ _⟩

theorem refnext_any (c k c' k' : Int) (w : World) :
    Calls Try.prog 16 #[.agg #[.int .i64 c, .int .i64 k], .agg #[.int .i64 c', .int .i64 k']] w fun e w' => e = .returned (.agg #[.int .i64 (nextC c k c' k'), .int .i64 k]) ∧ Below w.heap.size w w' := by
  cases h1 : mayB c k
  · exact refnext_no1 _ _ _ _ _ h1
  · cases h2 : mayB c' k'
    · exact refnext_no2 _ _ _ _ _ h1 h2
    · exact refnext_yes _ _ _ _ _ h1 h2


theorem num_any (n : Int) (w : World) : Calls Try.prog 18 #[.int .i64 n] w fun e w' => e = .returned (.int .i64 n) ∧ Below w.heap.size w w' := by
  go_enter Try.func18, Try.ntmps18
  go_wp2
  go_ret
  exact ⟨rfl, bel _ _⟩

set_option maxHeartbeats 1000000 in
theorem awake16 (w : World) : Calls Try.prog 17 #[] w fun e w' => e = .returned (.bool true) ∧ Below w.heap.size w w' := by
  have e1 : mayB 3 1 = true := by decide
  have e2 : mayB 0 8 = false := by decide
  have e3 : nextC 1 2 3 1 = 4 := by decide
  have e4 : lessB 3 1 4 2 = true := by decide
  have e5 : lessB 3 1 3 1 = false := by decide
  go_enter Try.func17, Try.ntmps17
  go_wp2_with (first
    | (go_at_call 11; refine (may_any _ _ _).mono ?_; rintro e w' ⟨rfl, hb⟩; obtain ⟨p, rfl⟩ := hb.rest; clear hb)
    | (go_at_call 13; refine (less_any _ _ _ _ _).mono ?_; rintro e w' ⟨rfl, hb⟩; obtain ⟨p, rfl⟩ := hb.rest; clear hb)
    | (go_at_call 15; refine (next_any _ _ _ _ _).mono ?_; rintro e w' ⟨rfl, hb⟩; obtain ⟨p, rfl⟩ := hb.rest; clear hb)
    | (go_at_call 18; refine (num_any _ _).mono ?_; rintro e w' ⟨rfl, hb⟩; obtain ⟨p, rfl⟩ := hb.rest; clear hb))
  go_ret
  exact ⟨rfl, bel _ _⟩

end Go.Proofs.Ytpndplbomnjioaa
