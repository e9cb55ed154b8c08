/- The check that opens each statement over oplog answers true. Conditions: none. -/
import Derived.Test.YtpndplbomnjioaaRlog
set_option linter.unusedVariables false
namespace Go.Proofs.Ytpndplbomnjioaa
open Go.RowKit
set_option maxRecDepth 100000 in
set_option maxHeartbeats 2000000 in
theorem awake17 (w : World) : Calls Try.prog 19 #[] w fun e w' => e = .returned (.bool true) ∧ Below w.heap.size w w' := by
  go_enter Try.func19, Try.ntmps19
  go_upto_region 2 with (go_at_call 20; refine (new_log 2 (by omega) (by omega) _).mono ?_; rintro e w1 ⟨rfl, hb1, hl1⟩)
  go_upto_region 3 with (go_at_call 21; refine (hl1.addc hb1.size (by simp) 1 1 0 0 0 0 _ _ _ 0 0 1 rfl (by omega) (by simp) (by omega) (by omega) rfl rfl).mono ?_; rintro e w2 ⟨rfl, hk2, hl2⟩)
  have hb2 : Below w.heap.size w w2 := hb1.trans (hk2.out_below hb1.size)
  have hx1 := Blk.new w2 #[Value.int .i64 1, .int .i64 1] 23
  go_upto_region 4 with (go_at_call 21; refine (((hl2.more (Nat.le_refl _)).alloc _).addc (by have := hb2.size; simp; omega) (by simp) 0 0 0 0 0 0 _ _ _ 1 1 2 rfl (by omega) (by simp [upd]) (by omega) (by omega) rfl rfl).mono ?_; rintro e w3 ⟨rfl, hk3, hl3⟩)
  have hb3 : Below w.heap.size w w3 := (hb2.alloc (by exact hb2.size) _).trans (hk3.out_below (by have := hb2.size; simp; omega))
  have hx1' := hk3.out_blk hx1 (by simp)
  clear hx1
  have hx2 := Blk.new w3 #[Value.int .i64 2, .int .i64 0] 23
  have hl3' := (hl3.more (Nat.le_refl _)).alloc (.cells #[Value.int .i64 2, .int .i64 0] 23)
  have j1 := hx1'.lt
  have r0 := hx1'.cell 0
  have r1 := hx1'.cell 1
  simp only [List.getElem?_toArray, List.getElem?_cons_zero, List.getElem?_cons_succ] at r0 r1
  have hx1 := hx1'.alloc (.cells #[Value.int .i64 2, .int .i64 0] 23)
  have hb3' := hb3.alloc (by exact hb3.size) (.cells #[Value.int .i64 2, .int .i64 0] 23)
  clear hx1' hb1 hb2 hk2 hk3 hl1 hl2
  go_upto_region 5 with (go_at_call 21; refine (hl3'.refused _ _ _ _ _ _ _ _ _ _ (by omega)).mono ?_; rintro e w4 ⟨rfl, hb4⟩)
  have hl4 := (hl3'.below hb4).alloc (.cells #[Value.int .i64 0, .int .i64 0] 23)
  have hx1' := (hx1.below hb4 hx1.lt.lt).alloc (.cells #[Value.int .i64 0, .int .i64 0] 23)
  have hx2' := (hx2.below hb4 hx2.lt.lt).alloc (.cells #[Value.int .i64 0, .int .i64 0] 23)
  have hb4' := (hb3'.trans (hb4.mono hb3'.size)).alloc (hb3'.trans (hb4.mono hb3'.size)).size (.cells #[Value.int .i64 0, .int .i64 0] 23)
  clear hx1 hx2 hb3 hb3' hb4 hl3 hl3'
  have hms : ∀ j, j < 2 → (upd (upd (fun x => []) 1 ([] ++ [(⟨1, 1, 0, 1, 0, 0, 0, ⟨#[]⟩, ⟨#[]⟩, ⟨#[]⟩⟩ : Rec)])) 0 ((upd (fun x => []) 1 ([] ++ [(⟨1, 1, 0, 1, 0, 0, 0, ⟨#[]⟩, ⟨#[]⟩, ⟨#[]⟩⟩ : Rec)])) 0 ++ [(⟨2, 0, 0, 0, 0, 0, 0, ⟨#[]⟩, ⟨#[]⟩, ⟨#[]⟩⟩ : Rec)]) j).length ≤ 256 := by
    intro j hj
    obtain rfl | rfl : j = 0 ∨ j = 1 := by omega
    all_goals simp [upd]
  go_upto_region 6 with (go_at_call 22; refine (hl4.merge hms).mono ?_; rintro e w5 ⟨v, rfl, hb5, hv5, hloc5⟩)
  have hpk : pickOf (upd (upd (fun x => []) 1 ([] ++ [(⟨1, 1, 0, 1, 0, 0, 0, ⟨#[]⟩, ⟨#[]⟩, ⟨#[]⟩⟩ : Rec)])) 0 ((upd (fun x => []) 1 ([] ++ [(⟨1, 1, 0, 1, 0, 0, 0, ⟨#[]⟩, ⟨#[]⟩, ⟨#[]⟩⟩ : Rec)])) 0 ++ [(⟨2, 0, 0, 0, 0, 0, 0, ⟨#[]⟩, ⟨#[]⟩, ⟨#[]⟩⟩ : Rec)])) (mergeAll (upd (upd (fun x => []) 1 ([] ++ [(⟨1, 1, 0, 1, 0, 0, 0, ⟨#[]⟩, ⟨#[]⟩, ⟨#[]⟩⟩ : Rec)])) 0 ((upd (fun x => []) 1 ([] ++ [(⟨1, 1, 0, 1, 0, 0, 0, ⟨#[]⟩, ⟨#[]⟩, ⟨#[]⟩⟩ : Rec)])) 0 ++ [(⟨2, 0, 0, 0, 0, 0, 0, ⟨#[]⟩, ⟨#[]⟩, ⟨#[]⟩⟩ : Rec)])) 2) = [⟨1, 1, 0, 1, 0, 0, 0, ⟨#[]⟩, ⟨#[]⟩, ⟨#[]⟩⟩, ⟨2, 0, 0, 0, 0, 0, 0, ⟨#[]⟩, ⟨#[]⟩, ⟨#[]⟩⟩] := by rfl
  rw [hpk] at hv5
  obtain ⟨g, cap, rfl, glt, _, hcell⟩ := own_cells hv5 (by simp)
  have c0 := hcell 0 (.int .i64 1) (by simp) rfl
  have c1 := hcell 1 (.int .i64 1) (by simp) rfl
  have hl5 := hl4.below hb5
  have hx1 := hx1'.below hb5 hx1'.lt.lt
  have hx2 := hx2'.below hb5 hx2'.lt.lt
  have hb := hb4'.trans (hb5.mono hb4'.size)
  clear hl4 hx1' hx2' hb4' hb5 hv5 hcell hms hpk hloc5
  have ig : BlockLt g w5 := ⟨glt⟩
  have i1 := hx1.lt
  have i2 := hx2.lt
  have iB : Bel w w5 := ⟨hb⟩
  have q0 := hx1.cell 0
  have q1 := hx1.cell 1
  have p0 := hx2.cell 0
  have p1 := hx2.cell 1
  simp only [List.getElem?_toArray, List.getElem?_cons_zero, List.getElem?_cons_succ] at q0 q1 p0 p1
  clear hx1 hx2 hb
  go_upto_region 7 with (go_at_call 20; refine (new_bad 0 (by omega) _).mono ?_; rintro e w' ⟨rfl, hb⟩; obtain ⟨p, rfl⟩ := hb.rest; clear hb)
  refine wp_region_quiet_rest (by kernel_rfl) (by kernel_rfl) (WQ.out ?_)
  repeat
    refine WQ_step (fun K hK => ?_)
    go_simp
    first
      | (refine hK _ ?_; clear hK K)
      | (apply Exists.intro
         refine ⟨fun _ => ?_, hK _ ?_⟩
         focus
           first
             | (go_at_call 18; refine calls_in (num_any _ _) (fun w' hb => ?_); first | exact rest1 hb | exact rest2 hb)
             | (go_at_call 23; refine calls_in ((hl5.junk _).lastc 0 0 2 rfl (by omega) rfl) (fun w' hb => ?_); first | exact rest1 hb | exact rest2 hb)
         clear hK K)
  refine WQ_nil ?_
  intro w7 hw7
  obtain ⟨p, hw7⟩ := hw7
  subst hw7
  go_wp2_with fail
  go_ret
  exact ⟨rfl, bel _ _⟩
end Go.Proofs.Ytpndplbomnjioaa
