/- The walk of the third statement on stamps. Conditions: none. -/
import Derived.Test.YtpndplbomnjioaaStamp
import Derived.Test.YtpndplbomnjioaaKit2
namespace Go.Proofs.Ytpndplbomnjioaa
open Go.RowKit

theorem climb_next {C v s : Int} (hC : 0 ≤ C ∧ C ≤ 1000000040) (hv : 0 ≤ v ∧ v < 1000000000) (hs : 0 ≤ s ∧ s < 8) :
    (C < v → nextC C 3 v s = v + 1 ∧ lessB C 3 (v + 1) 3 = true ∧ lessB v s (v + 1) 3 = true ∧ lessB (v + 1) 3 v s = false) ∧
    (v ≤ C → nextC C 3 v s = C + 1 ∧ lessB C 3 (C + 1) 3 = true ∧ lessB v s (C + 1) 3 = true ∧ lessB (C + 1) 3 v s = false) := by
  have h1 : mayB C 3 = true := by rw [mayB_t]; omega
  have h2 : mayB v s = true := by rw [mayB_t]; omega
  rw [nextC_t h1 h2]
  refine ⟨fun h => ⟨by omega, by rw [lessB_t]; omega, by rw [lessB_t]; omega, by rw [← Bool.not_eq_true, lessB_t]; omega⟩, fun h => ⟨by omega, by rw [lessB_t]; omega, by rw [lessB_t]; omega, by rw [← Bool.not_eq_true, lessB_t]; omega⟩⟩

set_option maxHeartbeats 1000000 in
theorem climbs_walk (a0 : Option Addr) (len0 cap0 : Nat) (z0 : List Int) (a1 : Option Addr) (len1 cap1 : Nat) (z1 : List Int) (w : World) (w0 : IsRow .i64 w a0 len0 cap0 z0) (w1 : IsRow .i64 w a1 len1 cap1 z1) :
    Calls Try.prog 5 #[.slice a0 len0 cap0, .slice a1 len1 cap1] w fun e w' => e = .returned (.bool true) ∧ Below w.heap.size w w' := by
  have l0 := w0.len_le
  have l1 := w1.len_le
  go_enter Try.func5, Try.ntmps5
  go_wp2_with (go_at_call 17; refine (awake16 _).mono ?_; rintro e wa ⟨rfl, hb⟩)
  have hw0 := w0.below (hb.mono (Nat.le_refl _)) (Nat.le_refl _)
  have hw1 := w1.below (hb.mono (Nat.le_refl _)) (Nat.le_refl _)
  go_loopw [6, 7] (fun top i wr => ∃ (k : Nat) (C : Int), i = .int .i64 k ∧ top = .int .i64 C ∧ k ≤ 40 ∧ 0 ≤ C ∧ C ≤ 1000000000 + k ∧ Below wa.heap.size wa wr ∧ wa.heap.size < wr.heap.size ∧ wr.cell? ⟨wa.heap.size, 0, none⟩ = some (.int .i64 C) ∧ wr.cell? ⟨wa.heap.size, 1, none⟩ = some (.int .i64 3) ∧ (∀ o, wr.frozen? ⟨wa.heap.size, o, none⟩ = false)) (fun _ i _ => 41 - (intOf i).toNat)
  case atStart => exact ⟨0, 0, rfl, rfl, by omega, by omega, by omega, bel _ _, by simp, by simp, by simp, by simp⟩
  case round =>
    obtain ⟨k, C, rfl, rfl, hk, hC0, hC1, hbr, hsz, hc0, hc1, hfr⟩ := hrel
    have iB : BlockLt wa.heap.size wr := ⟨hsz⟩
    have iBel : Bel wa wr := ⟨hbr⟩
    have r0 := Lib.hid (hw0.below hbr (Nat.le_refl _))
    have r1 := Lib.hid (hw1.below hbr (Nat.le_refl _))
    clear w0 w1 hw0 hw1
    by_cases hlt : k < len0 ∧ k < 40
    · obtain ⟨hlt, hlt2⟩ := hlt
      obtain ⟨b0, off0, z, rfl, hb0, hz, hz1, hz2⟩ := r0.out.at_ hlt
      have iB0 : BlockLt b0 wr := ⟨hb0⟩
      obtain ⟨v, hv, hv0, hv1⟩ := u64_rem z 1000000000 (by omega)
      by_cases hlt3 : k < len1
      · obtain ⟨b1, off1, y, rfl, hb1, hy, hy1, hy2⟩ := r1.out.at_ hlt3
        have iB1 : BlockLt b1 wr := ⟨hb1⟩
        have hn := climb_next (C := C) (v := v) (s := y % 8) (by omega) ⟨hv0, hv1⟩ (by omega)
        by_cases hcv : C < v
        · obtain ⟨n1, n2, n3, n4⟩ := hn.1 hcv
          clear hn
          go_wp2_with (first
            | (go_at_call 13; refine (less_any _ _ _ _ _).mono ?_; rintro e w' ⟨rfl, hb⟩; obtain ⟨p, rfl⟩ := hb.rest; clear hb)
            | (go_at_call 15; refine (next_any _ _ _ _ _).mono ?_; rintro e w' ⟨rfl, hb⟩; obtain ⟨p, rfl⟩ := hb.rest; clear hb))
          go_roundw
          case rel => exact ⟨k + 1, v + 1, by go_num, rfl, by omega, by omega, by omega, bel _ _, blk_lt _ _, by go_simp, by go_simp, by go_simp⟩
          case measure => simp [intOf]; omega
        · obtain ⟨n1, n2, n3, n4⟩ := hn.2 (by omega)
          clear hn
          go_wp2_with (first
            | (go_at_call 13; refine (less_any _ _ _ _ _).mono ?_; rintro e w' ⟨rfl, hb⟩; obtain ⟨p, rfl⟩ := hb.rest; clear hb)
            | (go_at_call 15; refine (next_any _ _ _ _ _).mono ?_; rintro e w' ⟨rfl, hb⟩; obtain ⟨p, rfl⟩ := hb.rest; clear hb))
          go_roundw
          case rel => exact ⟨k + 1, C + 1, by go_num, rfl, by omega, by omega, by omega, bel _ _, blk_lt _ _, by go_simp, by go_simp, by go_simp⟩
          case measure => simp [intOf]; omega
      · have hn := climb_next (C := C) (v := v) (s := 1) (by omega) ⟨hv0, hv1⟩ (by omega)
        by_cases hcv : C < v
        · obtain ⟨n1, n2, n3, n4⟩ := hn.1 hcv
          clear hn
          go_wp2_with (first
            | (go_at_call 13; refine (less_any _ _ _ _ _).mono ?_; rintro e w' ⟨rfl, hb⟩; obtain ⟨p, rfl⟩ := hb.rest; clear hb)
            | (go_at_call 15; refine (next_any _ _ _ _ _).mono ?_; rintro e w' ⟨rfl, hb⟩; obtain ⟨p, rfl⟩ := hb.rest; clear hb))
          go_roundw
          case rel => exact ⟨k + 1, v + 1, by go_num, rfl, by omega, by omega, by omega, bel _ _, blk_lt _ _, by go_simp, by go_simp, by go_simp⟩
          case measure => simp [intOf]; omega
        · obtain ⟨n1, n2, n3, n4⟩ := hn.2 (by omega)
          clear hn
          go_wp2_with (first
            | (go_at_call 13; refine (less_any _ _ _ _ _).mono ?_; rintro e w' ⟨rfl, hb⟩; obtain ⟨p, rfl⟩ := hb.rest; clear hb)
            | (go_at_call 15; refine (next_any _ _ _ _ _).mono ?_; rintro e w' ⟨rfl, hb⟩; obtain ⟨p, rfl⟩ := hb.rest; clear hb))
          go_roundw
          case rel => exact ⟨k + 1, C + 1, by go_num, rfl, by omega, by omega, by omega, bel _ _, blk_lt _ _, by go_simp, by go_simp, by go_simp⟩
          case measure => simp [intOf]; omega
    · clear r0 r1
      have m1 : mayB (-1) 0 = false := by rw [← Bool.not_eq_true, mayB_t]; omega
      have m2 : mayB C 3 = true := by rw [mayB_t]; omega
      have n1 : nextC (-1) 0 C 3 = -1 := nextC_f1 m1
      have n2 : nextC C 3 (-1) 0 = C := nextC_f2 m1
      by_cases hlt : k < len0
      all_goals
        go_wp2_with fail
        refine wp_region_quiet_rest (by kernel_rfl) (by kernel_rfl) ?_
        repeat (quiet_step (first
          | (go_at_call 15; refine calls_in (next_any _ _ _ _ _) (fun w' hb => ?_); first | exact rest1 hb | exact rest2 hb)
          | (go_at_call 18; refine calls_in (num_any _ _) (fun w' hb => ?_); first | exact rest1 hb | exact rest2 hb)))
        refine wpQuiet_nil ?_
        intro w1 hw1
        obtain ⟨p, hw1⟩ := hw1
        subst hw1
        go_wp2_with fail
        go_ret
        exact ⟨rfl, (hb.mono (Nat.le_refl _)).trans ((bel wa _).mono hb.size)⟩

end Go.Proofs.Ytpndplbomnjioaa
