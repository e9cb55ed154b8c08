/- The walk of the statement on a full log. Conditions: none. -/
import Derived.Test.YtpndplbomnjioaaDrop3
set_option linter.unusedVariables false
namespace Go.Proofs.Ytpndplbomnjioaa
open Go.RowKit
/-- A core's row after n calls. -/
def mkRow (j : Nat) : Nat → List Rec
  | 0 => []
  | n + 1 => mkRow j n ++ [⟨(n : Int) + 1, j, 0, j, 0, 0, 0, ⟨#[]⟩, ⟨#[]⟩, ⟨#[]⟩⟩]
theorem mkRow_len (j : Nat) : ∀ n, (mkRow j n).length = n
  | 0 => rfl
  | n + 1 => by simp [mkRow, mkRow_len j n]
theorem mkRow_kept (j k : Nat) (hj : j < 2) : ∀ n, ((mkRow j n).filter fun r => !gone k 7 r).length = n - k
  | 0 => by simp [mkRow]
  | n + 1 => by
    have ih := mkRow_kept j k hj n
    unfold mkRow
    rw [List.filter_append, List.length_append, ih]
    by_cases h : k ≤ n
    · have hl : lessB (k : Int) 7 ((n : Int) + 1) j = true := by rw [lessB_t]; omega
      simp [gone, hl]
      omega
    · have hl : lessB (k : Int) 7 ((n : Int) + 1) j = false := by rw [← Bool.not_eq_true, lessB_t]; omega
      simp [gone, hl]
      omega
def rsF (j k : Nat) : Nat → List Rec := upd (fun _ => []) j (mkRow j k)
def lcF (j k : Nat) : Nat → Int := upd (fun _ => 0) j k
theorem rsF_succ (j k : Nat) : rsF j (k + 1) = upd (rsF j k) j (rsF j k j ++ [⟨(k : Int) + 1, j, 0, j, 0, 0, 0, ⟨#[]⟩, ⟨#[]⟩, ⟨#[]⟩⟩]) := by
  funext i
  unfold rsF upd
  by_cases e : i = j
  · simp [e, mkRow]
  · simp [e]
theorem lcF_succ (j k : Nat) : lcF j (k + 1) = upd (lcF j k) j ((k : Int) + 1) := by
  funext i
  unfold lcF upd
  by_cases e : i = j
  · simp [e]
  · simp [e]
set_option maxRecDepth 100000 in
set_option maxHeartbeats 2000000 in
theorem ofull_walk (core keep : Int) (w : World) :
    Calls Try.prog 8 #[.int .i64 core, .int .i64 keep] w fun e w' => e = .returned (.bool true) ∧ Below w.heap.size w w' := by
  obtain ⟨j, hj, hj2⟩ : ∃ j : Nat, core % 2 = j ∧ j < 2 := ⟨(core % 2).toNat, by omega, by omega⟩
  obtain ⟨v, hv, hv0, hv1⟩ := u64_rem keep 100 (by omega)
  obtain ⟨m, rfl⟩ : ∃ m : Nat, v = m := ⟨v.toNat, by omega⟩
  go_enter Try.func8, Try.ntmps8
  go_upto_region 3 with (go_at_call 19; refine (awake17 _).mono ?_; rintro e wa ⟨rfl, hb⟩)
  go_upto_region 4 with (go_at_call 20; refine (new_log 2 (by omega) (by omega) _).mono ?_; rintro e wb ⟨rfl, hb1, hl⟩)
  have iB1 : Bel wa wb := ⟨hb1⟩
  go_wp2_with fail
  go_loopw [8] (fun i wr => ∃ k : Nat, i = .int .i64 k ∧ k ≤ 256 ∧ Below wa.heap.size wa wr ∧ RLog wa.heap.size [] wr (wa.heap.size + 1) 2 (rsF j k) (lcF j k)) (fun i _ => 257 - (intOf i).toNat)
  case atStart => exact ⟨0, rfl, by omega, bel _ _, hl.congr (by funext i; simp [rsF, upd, mkRow]) (by funext i; simp [lcF, upd])⟩
  case round =>
    obtain ⟨k, rfl, hk, hbr, hlog⟩ := hrel
    clear hl hb1 iB1
    by_cases hlt : k < 256
    · have hmx : nextC (lcF j k j) j 0 0 = (k : Int) + 1 := by
        have h1 : lcF j k j = k := by simp [lcF, upd]
        have m1 : mayB (k : Int) j = true := by rw [mayB_t]; omega
        rw [h1, nextC_t m1 rfl]
        omega
      have hlen : (rsF j k j).length < 256 := by simp [rsF, upd, mkRow_len]; omega
      go_upto_region 9 with (go_at_call 21; refine (hlog.addc hbr.size (by simp) j j 0 0 0 0 _ _ _ 0 0 ((k : Int) + 1) rfl hj2 hlen (by omega) (by omega) rfl hmx).mono ?_; rintro e wc ⟨rfl, hk2, hl2⟩)
      have hb2 := hbr.trans (hk2.out_below hbr.size)
      have iB2 : Bel wa wc := ⟨hb2⟩
      go_wp2_with (go_at_call 18; refine (num_any _ _).mono ?_; rintro e w' ⟨rfl, hb⟩; obtain ⟨p, rfl⟩ := hb.rest; clear hb)
      go_roundw
      case rel => exact ⟨k + 1, by go_num, by omega, bel _ _, ((hl2.alloc _).junk _).congr (rsF_succ j k) (lcF_succ j k)⟩
      case measure => simp [intOf]; omega
    · obtain rfl : k = 256 := by omega
      obtain ⟨j', hj', hj2', hjj⟩ : ∃ j' : Nat, 1 - (j : Int) = j' ∧ j' < 2 ∧ j' ≠ j := ⟨1 - j, by omega, by omega, by omega⟩
      have hfull : 256 ≤ (rsF j 256 j).length := by simp [rsF, upd, mkRow_len]
      have iBr : Bel wa wr := ⟨hbr⟩
      go_upto_region 12 with (go_at_call 21; refine (hlog.full j 0 0 0 0 _ _ _ 0 0 hj2 hfull (by omega) (by omega) rfl).mono ?_; rintro e w' ⟨rfl, hb⟩; obtain ⟨p, rfl⟩ := hb.rest; clear hb)
      have hl2 := ((hlog.junk p).alloc (.cells #[Value.int .i64 0, .int .i64 0] 23))
      have hb2 : Below wa.heap.size wa ((wr.junk p).alloc (.cells #[Value.int .i64 0, .int .i64 0] 23)) := bel _ _
      have e1 : rsF j 256 j' = [] := by simp [rsF, upd, hjj]
      have e2 : lcF j 256 j' = 0 := by simp [lcF, upd, hjj]
      have hmx : nextC (lcF j 256 j') j' 0 0 = 1 := by
        have m1 : mayB 0 (j' : Int) = true := by rw [mayB_t]; omega
        rw [e2, nextC_t m1 rfl]
        omega
      have hl1 : (rsF j 256 j').length < 256 := by rw [e1]; simp
      clear hlog
      go_upto_region 13 with (go_at_call 21; refine (hl2.addc hb2.size (by simp) j' j' 0 0 0 0 _ _ _ 0 0 1 rfl hj2' hl1 (by omega) (by omega) rfl hmx).mono ?_; rintro e wd ⟨rfl, hk3, hl3⟩)
      have hb3 := hb2.trans (hk3.out_below hb2.size)
      have iBd : Bel wa wd := ⟨hb3⟩
      generalize hrs : upd (rsF j 256) j' (rsF j 256 j' ++ [⟨1, j', 0, j', 0, 0, 0, ⟨#[]⟩, ⟨#[]⟩, ⟨#[]⟩⟩]) = rs2 at hl3
      have rj : rs2 j = mkRow j 256 := by rw [← hrs]; unfold upd; rw [if_neg (fun e => hjj e.symm)]; unfold rsF upd; rw [if_pos rfl]
      have rj' : rs2 j' = [⟨1, j', 0, j', 0, 0, 0, ⟨#[]⟩, ⟨#[]⟩, ⟨#[]⟩⟩] := by rw [← hrs]; simp [upd, e1]
      have lj : lenOf rs2 j = 256 := by unfold lenOf; rw [rj, mkRow_len]
      have lj' : lenOf rs2 j' = 1 := by unfold lenOf; rw [rj']; rfl
      have kj : (kept m 7 rs2 j).length = 256 - m := by unfold kept; rw [rj]; exact mkRow_kept j m hj2 256
      have kj' : (kept m 7 rs2 j').length = 1 - m := by
        unfold kept
        rw [rj']
        by_cases h : m = 0
        · have hl : lessB (m : Int) 7 1 j' = true := by rw [lessB_t]; omega
          simp [gone, hl]; omega
        · have hl : lessB (m : Int) 7 1 j' = false := by rw [← Bool.not_eq_true, lessB_t]; omega
          simp [gone, hl]; omega
      have sum2 : ∀ f : Nat → Nat, sumTo f 2 = f j + f j' := fun f => by
        obtain ⟨rfl, rfl⟩ | ⟨rfl, rfl⟩ : (j = 0 ∧ j' = 1) ∨ (j = 1 ∧ j' = 0) := by omega
        all_goals simp [sumTo]
        omega
      have hms : ∀ i, i < 2 → (rs2 i).length ≤ 256 := fun i hi => by
        have h1 : lenOf rs2 i ≤ 256 := by
          obtain rfl | rfl : i = j ∨ i = j' := by omega
          · omega
          · omega
        exact h1
      have hdr : ((sumTo (lenOf rs2) 2 : Int) - sumTo (lenOf (kept m 7 rs2)) 2) = m + (if m = 0 then 0 else 1 : Nat) := by
        rw [sum2, sum2, lj, lj']
        have a1 : lenOf (kept m 7 rs2) j = 256 - m := kj
        have a2 : lenOf (kept m 7 rs2) j' = 1 - m := kj'
        rw [a1, a2]
        split <;> omega
      have hB4 : wa.heap.size ≤ (wd.alloc (.cells #[Value.int .i64 1, .int .i64 j'] 23)).heap.size := by have := hb3.size; simp; omega
      have hdrop := (hl3.alloc (.cells #[Value.int .i64 1, .int .i64 j'] 23)).drop hB4 hms m 7
      rw [hdr] at hdrop
      clear hl2 hl3 hb2 hdr
      go_upto_region 15 with (go_at_call 24; refine hdrop.mono ?_; rintro e we ⟨rfl, hk4, hl4⟩)
      have hb4 : Below wa.heap.size wa we := (hb3.alloc hb3.size _).trans (hk4.out_below hB4)
      have iBe : Bel wa we := ⟨hb4⟩
      clear hdrop hb3
      obtain rfl | rfl | hm1 : m = 0 ∨ m = 1 ∨ 1 < m := by omega
      · have hfull2 : 256 ≤ (kept (0 : Nat) 7 rs2 j).length := by omega
        simp only [if_pos]
        go_upto_region 17 with (go_at_call 21; refine (hl4.full j 0 0 0 0 _ _ _ 0 0 hj2 hfull2 (by omega) (by omega) rfl).mono ?_; rintro e w' ⟨rfl, hb⟩; obtain ⟨p, rfl⟩ := hb.rest; clear hb)
        go_wp2_with (go_at_call 18; refine (num_any _ _).mono ?_; rintro e w' ⟨rfl, hb⟩; obtain ⟨p, rfl⟩ := hb.rest; clear hb)
        go_ret
        exact ⟨rfl, (hb.mono (Nat.le_refl _)).trans ((bel wa _).mono hb.size)⟩
      · have hm0 : ¬ 1 = 0 := by omega
        have hroom : (kept (1 : Nat) 7 rs2 j).length < 256 := by omega
        simp only [if_neg hm0]
        go_upto_region 17 with (go_at_call 21; refine (hl4.add hb4.size (by simp) j 0 0 0 0 _ _ _ 0 0 hj2 hroom (by omega) (by omega) rfl).mono ?_; rintro e wf ⟨rfl, hk5, hl5⟩)
        have hb5 := hb4.trans (hk5.out_below hb4.size)
        have iBf : Bel wa wf := ⟨hb5⟩
        go_wp2_with (go_at_call 18; refine (num_any _ _).mono ?_; rintro e w' ⟨rfl, hb⟩; obtain ⟨p, rfl⟩ := hb.rest; clear hb)
        go_ret
        exact ⟨rfl, (hb.mono (Nat.le_refl _)).trans ((bel wa _).mono hb.size)⟩
      · have hm0 : ¬ m = 0 := by omega
        have hmp : 0 < m := by omega
        have hm2 : ¬ m < 1 := by omega
        have hm3 : ¬ m ≤ 1 := by omega
        have hm4 : 1 < (m : Int) := by omega
        have hm5 : ¬ (m : Int) < 1 := by omega
        have hm6 : ¬ (m : Int) ≤ 1 := by omega
        have hroom : (kept m 7 rs2 j).length < 256 := by omega
        simp only [if_neg hm0]
        go_upto_region 17 with (go_at_call 21; refine (hl4.add hb4.size (by simp) j 0 0 0 0 _ _ _ 0 0 hj2 hroom (by omega) (by omega) rfl).mono ?_; rintro e wf ⟨rfl, hk5, hl5⟩)
        have hb5 := hb4.trans (hk5.out_below hb4.size)
        have iBf : Bel wa wf := ⟨hb5⟩
        go_wp2_with (go_at_call 18; refine (num_any _ _).mono ?_; rintro e w' ⟨rfl, hb⟩; obtain ⟨p, rfl⟩ := hb.rest; clear hb)
        go_ret
        exact ⟨rfl, (hb.mono (Nat.le_refl _)).trans ((bel wa _).mono hb.size)⟩
end Go.Proofs.Ytpndplbomnjioaa
