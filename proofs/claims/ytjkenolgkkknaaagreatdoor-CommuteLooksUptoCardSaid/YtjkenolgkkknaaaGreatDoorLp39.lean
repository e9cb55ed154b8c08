/- Part of the proof that the calls that look alone commute. Conditions: none. -/
import Derived.Test.YtjkenolgkkknaaaGreatDoorLp38
set_option linter.unusedVariables false
set_option linter.unusedSimpArgs false
set_option maxRecDepth 100000
set_option maxHeartbeats 8000000
/- Apart of package commute, where no bytes and no counts are shared. Conditions: none. -/
set_option linter.unusedVariables false
set_option linter.unusedSimpArgs false
namespace Go.Proofs.YtjkenolgkkknaaaGreatDoor
open Go.RowKit
def meetB (L2 T2 : List (Int × Int)) (q : Int × Int) : Bool := L2.any (isPair q) || T2.any (isPair q)
def meetsM (T L2 T2 : List (Int × Int)) : Bool := T.any (meetB L2 T2)
theorem any_drop {α : Type} {F : α → Bool} {zs : List α} {q : Nat} {z : α} (h : zs[q]? = some z) : (zs.drop q).any F = (F z || (zs.drop (q + 1)).any F) := by rw [drop_at h]; rfl
set_option maxRecDepth 100000 in
set_option maxHeartbeats 8000000 in
theorem meets24 (k1 k2 p1 p2 : Nat) (c1 c2 : PCall) (f1 f2 : Bool) (L1 T1 L2 T2 : List (Int × Int)) (M1 M2 : List Int) (b1 o1 g1 b2 o2 g2 : Int) (w : World) (h1 : VwAt w k1 p1 c1 f1 L1 T1 M1 b1 o1 g1) (h2 : VwAt w k2 p2 c2 f2 L2 T2 M2 b2 o2 g2)
    (hT1 : T1.length ≤ 1000000000) (hL2 : L2.length ≤ 1000000000) (hT2 : T2.length ≤ 1000000000) :
    Calls Tryz.prog 24 #[.pointer (some ⟨k1, 0, none⟩), .pointer (some ⟨k2, 0, none⟩)] w fun e w' => e = .returned (.bool (meetsM T1 L2 T2)) ∧ Below w.heap.size w w' := by
  obtain ⟨lv1, tv1, mv1, e1, _, et1, _⟩ := h1.rows
  obtain ⟨lv2, tv2, mv2, e2, el2, et2, _⟩ := h2.rows
  have i1 := e1.lt
  have i2 := e2.lt
  have x11 : w.cell? ⟨k1, 11, none⟩ = some tv1 := e1.cell 11
  have z10 : w.cell? ⟨k2, 10, none⟩ = some lv2 := e2.cell 10
  have z11 : w.cell? ⟨k2, 11, none⟩ = some tv2 := e2.cell 11
  have hc1 : ∀ ww q, Below w.heap.size w ww → Calls Tryz.prog 47 #[lv2, pairAt q] ww _ := fun ww q hb => contains47 L2 lv2 q ww (el2.below hb (Nat.le_refl _)) hL2
  have hc2 : ∀ ww q, Below w.heap.size w ww → Calls Tryz.prog 47 #[tv2, pairAt q] ww _ := fun ww q hb => contains47 T2 tv2 q ww (et2.below hb (Nat.le_refl _)) hT2
  have ho1 := el2.one
  have ho2 := et2.one
  obtain ⟨a1, cap1, rfl, hat⟩ := et1.at_
  rw [List.length_map] at x11
  have HA := Lib.hid hat
  clear h1 h2 e1 e2 el2 et1 et2 hat
  unfold meetsM
  obtain ⟨R, hR⟩ : ∃ R, T1.any (meetB L2 T2) = R := ⟨_, rfl⟩
  rw [hR]
  have HR := Lib.hid hR
  clear hR
  unfold pairAt at hc1 hc2
  go_enter Tryz.func24, Tryz.ntmps24
  go_wp2_with fail
  go_loopw [12] (fun i wr => ∃ (q : Nat), i = .int .i64 q ∧ q ≤ T1.length ∧ (T1.drop q).any (meetB L2 T2) = R ∧ Below w.heap.size w wr) (fun i _ => (T1.length - intOf i).toNat)
  case atStart => exact ⟨0, rfl, by omega, HR.out, bel _ _⟩
  case round =>
    obtain ⟨q, rfl, hq, hre, hb⟩ := hrel
    have iB : Bel w wr := ⟨hb⟩
    have j2 : BlockLt k2 wr := ⟨by have := hb.size; have := i2.lt; omega⟩
    have y10 : wr.cell? ⟨k2, 10, none⟩ = some lv2 := (hb.cell (p := ⟨k2, 10, none⟩) i2.lt).trans z10
    have y11 : wr.cell? ⟨k2, 11, none⟩ = some tv2 := (hb.cell (p := ⟨k2, 11, none⟩) i2.lt).trans z11
    by_cases hlt : q < T1.length
    · obtain ⟨z, hz⟩ : ∃ z, T1[q]? = some z := ⟨_, List.getElem?_eq_getElem hlt⟩
      obtain ⟨b, off, rfl, iG0, iG, hc⟩ := HA.out wr hb q (prCells z) (by rw [List.getElem?_map, hz]; rfl)
      have c0 := hc 0 _ rfl
      have c1 := hc 1 _ rfl
      rw [Nat.add_zero] at c0
      rw [any_drop hz] at hre
      rw [show meetB L2 T2 z = (L2.any (isPair z) || T2.any (isPair z)) from rfl] at hre
      have hd1 : ∀ ww, Below w.heap.size w ww → Calls Tryz.prog 47 #[lv2, .agg #[.int .i64 z.1, .int .i64 z.2]] ww fun e w' => e = .returned (.bool (L2.any (isPair z))) ∧ Below ww.heap.size ww w' := fun ww hb => hc1 ww z hb
      have hd2 : ∀ ww, Below w.heap.size w ww → Calls Tryz.prog 47 #[tv2, .agg #[.int .i64 z.1, .int .i64 z.2]] ww fun e w' => e = .returned (.bool (T2.any (isPair z))) ∧ Below ww.heap.size ww w' := fun ww hb => hc2 ww z hb
      obtain ⟨z1, z2⟩ := z
      simp only at c0 c1 hd1 hd2
      generalize L2.any (isPair (z1, z2)) = a1 at hre hd1
      generalize T2.any (isPair (z1, z2)) = a2 at hre hd2
      clear hc hz hc1 hc2
      rcases a1 with _ | _
      · rcases a2 with _ | _
        · simp only [Bool.false_or] at hre
          have HR2 := Lib.hid hre
          clear hre
          go_upto_region 4 with fail
          refine wp_region_quiet_rest (by kernel_rfl) (by kernel_rfl) (WQ.out ?_)
          repeat
            refine WQ_step (fun K hK => ?_)
            go_simp
            first
              | (refine hK _ ?_; clear hK K)
              | (apply Exists.intro
                 refine ⟨fun _ => ?_, hK _ ?_⟩
                 focus (first | (refine calls_in (hd1 _ (bel w _)) (fun w' hb => ?_); first | exact hb.rest | exact rest1 hb | exact rest2 hb) | (refine calls_in (hd2 _ (bel w _)) (fun w' hb => ?_); first | exact hb.rest | exact rest1 hb | exact rest2 hb))
                 clear hK K)
          refine WQ_nil ?_
          intro w1 hw1
          obtain ⟨p, hw1⟩ := hw1
          subst hw1
          go_wp2_with fail
          go_roundw
          case rel => exact ⟨q + 1, by go_num, by omega, HR2.out, bel _ _⟩
          case measure => simp [intOf]; omega
        · simp only [Bool.false_or, Bool.true_or] at hre
          subst hre
          go_upto_region 4 with fail
          refine wp_region_quiet_rest (by kernel_rfl) (by kernel_rfl) (WQ.out ?_)
          repeat
            refine WQ_step (fun K hK => ?_)
            go_simp
            first
              | (refine hK _ ?_; clear hK K)
              | (apply Exists.intro
                 refine ⟨fun _ => ?_, hK _ ?_⟩
                 focus (first | (refine calls_in (hd1 _ (bel w _)) (fun w' hb => ?_); first | exact hb.rest | exact rest1 hb | exact rest2 hb) | (refine calls_in (hd2 _ (bel w _)) (fun w' hb => ?_); first | exact hb.rest | exact rest1 hb | exact rest2 hb))
                 clear hK K)
          refine WQ_nil ?_
          intro w1 hw1
          obtain ⟨p, hw1⟩ := hw1
          subst hw1
          go_wp2_with fail
          exact bodyPost_ret (v := .bool true) (by simp [results, Tryz.results24, go_sem]) rfl ⟨rfl, bel _ _⟩
      · simp only [Bool.true_or] at hre
        subst hre
        go_upto_region 4 with fail
        refine wp_region_quiet_rest (by kernel_rfl) (by kernel_rfl) (WQ.out ?_)
        repeat
          refine WQ_step (fun K hK => ?_)
          go_simp
          first
            | (refine hK _ ?_; clear hK K)
            | (apply Exists.intro
               refine ⟨fun _ => ?_, hK _ ?_⟩
               focus (first | (refine calls_in (hd1 _ (bel w _)) (fun w' hb => ?_); first | exact hb.rest | exact rest1 hb | exact rest2 hb) | (refine calls_in (hd2 _ (bel w _)) (fun w' hb => ?_); first | exact hb.rest | exact rest1 hb | exact rest2 hb))
               clear hK K)
        refine WQ_nil ?_
        intro w1 hw1
        obtain ⟨p, hw1⟩ := hw1
        subst hw1
        go_wp2_with fail
        exact bodyPost_ret (v := .bool true) (by simp [results, Tryz.results24, go_sem]) rfl ⟨rfl, bel _ _⟩
    · rw [List.drop_of_length_le (by omega)] at hre
      simp only [List.any_nil] at hre
      subst hre
      go_wp2_with fail
      exact bodyPost_ret (v := .bool false) (by simp [results, Tryz.results24, go_sem]) rfl ⟨rfl, bel _ _⟩
end Go.Proofs.YtjkenolgkkknaaaGreatDoor
