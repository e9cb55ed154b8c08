/- Part of the proof of a law of chapter 15. Conditions: none. -/
import Derived.Test.YtmkapobnfigedaaGreatDoorDp50
set_option linter.unusedVariables false
set_option linter.unusedSimpArgs false
set_option maxRecDepth 100000
set_option maxHeartbeats 8000000
namespace Go.Proofs.YtmkapobnfigedaaGreatDoor
open Go.RowKit
theorem named33 (k c : Int) (p : ByteArray) (w : World) : Calls Tryz.prog 33 #[.int .i64 k, .int .i64 c, .string p] w fun e w' => e = .returned (.agg #[.int .i64 k, .int .i64 c, .int .i64 0, .int .i64 0, .int .i64 0, .string p, .string ⟨#[]⟩, .string ⟨#[]⟩]) ∧ Below w.heap.size w w' := by
 go_enter Tryz.func33, Tryz.ntmps33
 go_wp2_with fail
 refine bodyPost_ret (v := .agg #[.int .i64 k, .int .i64 c, .int .i64 0, .int .i64 0, .int .i64 0, .string p, .string ⟨#[]⟩, .string ⟨#[]⟩]) (by unfold results; simp only [Tryz.results33]; go_simp) rfl ⟨rfl, bel w _⟩
theorem two_small {a b : PCall} (ha : a.data.size ≤ 1000) (hb : b.data.size ≤ 1000) : ∀ c ∈ [a, b], c.data.size ≤ 1000000000000000000 := by
 intro c hc
 simp only [List.mem_cons, List.not_mem_nil, or_false] at hc
 rcases hc with rfl | rfl <;> omega
theorem pairs7 (which : Int) (w : World) : Calls Tryz.prog 7 #[.int .i64 which] w fun e w' => e = .returned (.bool true) ∧ Below w.heap.size w w' := by
 have h20 := fun ww => awake20 ww
 have h33 := fun k c p ww => named33 k c p ww
 have g0 : ∀ ww, Calls Tryz.prog 34 #[.agg #[.int .i64 9, .int .i64 2, .int .i64 0, .int .i64 0, .int .i64 0, .string ⟨#[47, 100, 47, 102]⟩, .string ⟨#[]⟩, .string ⟨#[]⟩], .agg #[.int .i64 0, .int .i64 3, .int .i64 0, .int .i64 0, .int .i64 0, .string ⟨#[47, 100, 47, 102]⟩, .string ⟨#[]⟩, .string ⟨#[]⟩]] ww fun e w' => e = .returned (.bool true) ∧ Below ww.heap.size ww w' := fun ww => hangs34 ⟨9, 2, 0, 0, 0, ⟨#[47, 100, 47, 102]⟩, ⟨#[]⟩, ⟨#[]⟩⟩ ⟨0, 3, 0, 0, 0, ⟨#[47, 100, 47, 102]⟩, ⟨#[]⟩, ⟨#[]⟩⟩ true (two_small (by decide) (by decide)) hg0 ww
 have g1 : ∀ ww, Calls Tryz.prog 34 #[.agg #[.int .i64 0, .int .i64 0, .int .i64 0, .int .i64 0, .int .i64 0, .string ⟨#[47, 100, 47, 120]⟩, .string ⟨#[]⟩, .string ⟨#[]⟩], .agg #[.int .i64 0, .int .i64 2, .int .i64 0, .int .i64 0, .int .i64 0, .string ⟨#[47, 101, 47, 120]⟩, .string ⟨#[]⟩, .string ⟨#[]⟩]] ww fun e w' => e = .returned (.bool false) ∧ Below ww.heap.size ww w' := fun ww => hangs34 ⟨0, 0, 0, 0, 0, ⟨#[47, 100, 47, 120]⟩, ⟨#[]⟩, ⟨#[]⟩⟩ ⟨0, 2, 0, 0, 0, ⟨#[47, 101, 47, 120]⟩, ⟨#[]⟩, ⟨#[]⟩⟩ false (two_small (by decide) (by decide)) hg1 ww
 have g2 : ∀ ww, Calls Tryz.prog 34 #[.agg #[.int .i64 0, .int .i64 0, .int .i64 0, .int .i64 0, .int .i64 0, .string ⟨#[47, 100, 47, 120]⟩, .string ⟨#[]⟩, .string ⟨#[]⟩], .agg #[.int .i64 0, .int .i64 0, .int .i64 0, .int .i64 0, .int .i64 0, .string ⟨#[47, 101, 47, 120]⟩, .string ⟨#[]⟩, .string ⟨#[]⟩]] ww fun e w' => e = .returned (.bool true) ∧ Below ww.heap.size ww w' := fun ww => hangs34 ⟨0, 0, 0, 0, 0, ⟨#[47, 100, 47, 120]⟩, ⟨#[]⟩, ⟨#[]⟩⟩ ⟨0, 0, 0, 0, 0, ⟨#[47, 101, 47, 120]⟩, ⟨#[]⟩, ⟨#[]⟩⟩ true (two_small (by decide) (by decide)) hg2 ww
 have g3 : ∀ ww, Calls Tryz.prog 34 #[.agg #[.int .i64 11, .int .i64 2, .int .i64 0, .int .i64 0, .int .i64 0, .string ⟨#[47, 100]⟩, .string ⟨#[47, 101, 47, 100]⟩, .string ⟨#[]⟩], .agg #[.int .i64 0, .int .i64 3, .int .i64 0, .int .i64 0, .int .i64 0, .string ⟨#[47, 101, 47, 100, 47, 120]⟩, .string ⟨#[]⟩, .string ⟨#[]⟩]] ww fun e w' => e = .returned (.bool true) ∧ Below ww.heap.size ww w' := fun ww => hangs34 ⟨11, 2, 0, 0, 0, ⟨#[47, 100]⟩, ⟨#[47, 101, 47, 100]⟩, ⟨#[]⟩⟩ ⟨0, 3, 0, 0, 0, ⟨#[47, 101, 47, 100, 47, 120]⟩, ⟨#[]⟩, ⟨#[]⟩⟩ true (two_small (by decide) (by decide)) hg3 ww
 have g4 : ∀ ww, Calls Tryz.prog 34 #[.agg #[.int .i64 5, .int .i64 1, .int .i64 0, .int .i64 0, .int .i64 0, .string ⟨#[]⟩, .string ⟨#[]⟩, .string ⟨#[122]⟩], .agg #[.int .i64 0, .int .i64 0, .int .i64 0, .int .i64 0, .int .i64 0, .string ⟨#[47, 100, 47, 120]⟩, .string ⟨#[]⟩, .string ⟨#[]⟩]] ww fun e w' => e = .returned (.bool false) ∧ Below ww.heap.size ww w' := fun ww => hangs34 ⟨5, 1, 0, 0, 0, ⟨#[]⟩, ⟨#[]⟩, ⟨#[122]⟩⟩ ⟨0, 0, 0, 0, 0, ⟨#[47, 100, 47, 120]⟩, ⟨#[]⟩, ⟨#[]⟩⟩ false (two_small (by decide) (by decide)) hg4 ww
 have g5 : ∀ ww, Calls Tryz.prog 34 #[.agg #[.int .i64 5, .int .i64 1, .int .i64 0, .int .i64 0, .int .i64 0, .string ⟨#[]⟩, .string ⟨#[]⟩, .string ⟨#[122]⟩], .agg #[.int .i64 9, .int .i64 2, .int .i64 0, .int .i64 0, .int .i64 0, .string ⟨#[47, 100, 47, 102]⟩, .string ⟨#[]⟩, .string ⟨#[]⟩]] ww fun e w' => e = .returned (.bool true) ∧ Below ww.heap.size ww w' := fun ww => hangs34 ⟨5, 1, 0, 0, 0, ⟨#[]⟩, ⟨#[]⟩, ⟨#[122]⟩⟩ ⟨9, 2, 0, 0, 0, ⟨#[47, 100, 47, 102]⟩, ⟨#[]⟩, ⟨#[]⟩⟩ true (two_small (by decide) (by decide)) hg5 ww
 have g6 : ∀ ww, Calls Tryz.prog 34 #[.agg #[.int .i64 13, .int .i64 2, .int .i64 0, .int .i64 0, .int .i64 0, .string ⟨#[47, 100, 47, 102]⟩, .string ⟨#[]⟩, .string ⟨#[]⟩], .agg #[.int .i64 9, .int .i64 3, .int .i64 0, .int .i64 0, .int .i64 0, .string ⟨#[47, 100, 47, 102]⟩, .string ⟨#[]⟩, .string ⟨#[]⟩]] ww fun e w' => e = .returned (.bool false) ∧ Below ww.heap.size ww w' := fun ww => hangs34 ⟨13, 2, 0, 0, 0, ⟨#[47, 100, 47, 102]⟩, ⟨#[]⟩, ⟨#[]⟩⟩ ⟨9, 3, 0, 0, 0, ⟨#[47, 100, 47, 102]⟩, ⟨#[]⟩, ⟨#[]⟩⟩ false (two_small (by decide) (by decide)) hg6 ww
 have g7 : ∀ ww, Calls Tryz.prog 34 #[.agg #[.int .i64 1, .int .i64 2, .int .i64 0, .int .i64 0, .int .i64 0, .string ⟨#[47, 110]⟩, .string ⟨#[]⟩, .string ⟨#[]⟩], .agg #[.int .i64 0, .int .i64 3, .int .i64 0, .int .i64 0, .int .i64 0, .string ⟨#[47, 110, 47, 120]⟩, .string ⟨#[]⟩, .string ⟨#[]⟩]] ww fun e w' => e = .returned (.bool true) ∧ Below ww.heap.size ww w' := fun ww => hangs34 ⟨1, 2, 0, 0, 0, ⟨#[47, 110]⟩, ⟨#[]⟩, ⟨#[]⟩⟩ ⟨0, 3, 0, 0, 0, ⟨#[47, 110, 47, 120]⟩, ⟨#[]⟩, ⟨#[]⟩⟩ true (two_small (by decide) (by decide)) hg7 ww
 have hc : (IntKind.u64.wrap which).tmod 8 = 0 ∨ (IntKind.u64.wrap which).tmod 8 = 1 ∨ (IntKind.u64.wrap which).tmod 8 = 2 ∨ (IntKind.u64.wrap which).tmod 8 = 3 ∨ (IntKind.u64.wrap which).tmod 8 = 4 ∨ (IntKind.u64.wrap which).tmod 8 = 5 ∨ (IntKind.u64.wrap which).tmod 8 = 6 ∨ (IntKind.u64.wrap which).tmod 8 = 7 := by
  have h0 : 0 ≤ IntKind.u64.wrap which := by
   show 0 ≤ which % 18446744073709551616; omega
  rw [Int.tmod_eq_emod_of_nonneg h0]; omega
 have HC := Lib.hid hc
 clear hc
 go_enter Tryz.func7, Tryz.ntmps7
 go_upto_region 6 with (first | (go_at_call 20; (with_reducible refine aT (h20 _) fun p => ?_)) | (go_at_call 33; (with_reducible refine aT (h33 _ _ _ _) fun p => ?_)))
 rcases HC.out with hk | hk | hk | hk | hk | hk | hk | hk
 · go_wp2_with (first | (go_at_call 33; (with_reducible refine aT (h33 _ _ _ _) fun p => ?_)) | (go_at_call 34; (with_reducible refine aT (g0 _) fun p => ?_)))
   go_ret; exact ⟨rfl, bel _ _⟩
 · go_upto_region 9 with fail
   refine wp_region_quiet_rest (by kernel_rfl) (by kernel_rfl) (WQ.out ?_)
   repeat
    refine WQ_step (fun K hK => ?_); go_simp
    first
     | (refine hK _ ?_; clear hK K)
     | (apply Exists.intro
        refine ⟨fun _ => ?_, hK _ ?_⟩
        focus (first | (with_reducible first | refine cI (h33 _ _ _ _) | refine cJ (h33 _ _ _ _)) | (with_reducible first | refine cI (g1 _) | refine cJ (g1 _)))
        clear hK K)
   refine WN fun p => ?_; go_wp2_with fail; go_ret; exact ⟨rfl, bel _ _⟩
 · go_upto_region 11 with fail
   refine wp_region_quiet_rest (by kernel_rfl) (by kernel_rfl) (WQ.out ?_)
   repeat
    refine WQ_step (fun K hK => ?_); go_simp
    first
     | (refine hK _ ?_; clear hK K)
     | (apply Exists.intro
        refine ⟨fun _ => ?_, hK _ ?_⟩
        focus (first | (with_reducible first | refine cI (h33 _ _ _ _) | refine cJ (h33 _ _ _ _)) | (with_reducible first | refine cI (g2 _) | refine cJ (g2 _)))
        clear hK K)
   refine WN fun p => ?_; go_wp2_with fail; go_ret; exact ⟨rfl, bel _ _⟩
 · go_upto_region 13 with fail
   refine wp_region_quiet_rest (by kernel_rfl) (by kernel_rfl) (WQ.out ?_)
   repeat
    refine WQ_step (fun K hK => ?_); go_simp
    first
     | (refine hK _ ?_; clear hK K)
     | (apply Exists.intro
        refine ⟨fun _ => ?_, hK _ ?_⟩
        focus (first | (with_reducible first | refine cI (h33 _ _ _ _) | refine cJ (h33 _ _ _ _)) | (with_reducible first | refine cI (g3 _) | refine cJ (g3 _)))
        clear hK K)
   refine WN fun p => ?_; go_wp2_with fail; go_ret; exact ⟨rfl, bel _ _⟩
 · go_wp2_with (first | (go_at_call 33; (with_reducible refine aT (h33 _ _ _ _) fun p => ?_)) | (go_at_call 34; (with_reducible refine aT (g4 _) fun p => ?_)))
   go_ret; exact ⟨rfl, bel _ _⟩
 · go_upto_region 17 with fail
   refine wp_region_quiet_rest (by kernel_rfl) (by kernel_rfl) (WQ.out ?_)
   repeat
    refine WQ_step (fun K hK => ?_); go_simp
    first
     | (refine hK _ ?_; clear hK K)
     | (apply Exists.intro
        refine ⟨fun _ => ?_, hK _ ?_⟩
        focus (first | (with_reducible first | refine cI (h33 _ _ _ _) | refine cJ (h33 _ _ _ _)) | (with_reducible first | refine cI (g5 _) | refine cJ (g5 _)))
        clear hK K)
   refine WN fun p => ?_; go_wp2_with fail; go_ret; exact ⟨rfl, bel _ _⟩
 · go_wp2_with (first | (go_at_call 33; (with_reducible refine aT (h33 _ _ _ _) fun p => ?_)) | (go_at_call 34; (with_reducible refine aT (g6 _) fun p => ?_)))
   go_ret; exact ⟨rfl, bel _ _⟩
 · go_wp2_with (first | (go_at_call 33; (with_reducible refine aT (h33 _ _ _ _) fun p => ?_)) | (go_at_call 34; (with_reducible refine aT (g7 _) fun p => ?_)))
   go_ret; exact ⟨rfl, bel _ _⟩
end Go.Proofs.YtmkapobnfigedaaGreatDoor
