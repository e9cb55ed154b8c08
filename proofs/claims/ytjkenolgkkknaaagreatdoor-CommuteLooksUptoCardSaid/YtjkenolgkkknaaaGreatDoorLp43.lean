/- Part of the proof that the calls that look alone commute. Conditions: none. -/
import Derived.Test.YtjkenolgkkknaaaGreatDoorLp42
set_option linter.unusedVariables false
set_option linter.unusedSimpArgs false
set_option maxRecDepth 100000
set_option maxHeartbeats 8000000
/- awake of the laws. Conditions: none. -/
set_option linter.unusedVariables false
set_option linter.unusedSimpArgs false
namespace Go.Proofs.YtjkenolgkkknaaaGreatDoor
open Go.RowKit
theorem StRead.slices {w : World} {iv ov mv : Value} {S : PSt} (h : StRead w iv ov mv S) : ∃ ai ni ci ao no co am nm cm, iv = .slice ai ni ci ∧ ov = .slice ao no co ∧ mv = .slice am nm cm := by
  obtain ⟨a1, c1, e1, _⟩ := h.1.at_
  obtain ⟨a2, c2, e2, _⟩ := h.2.1.at_
  obtain ⟨_, _, is, h3, _⟩ := h
  obtain ⟨a3, c3, e3, _⟩ := h3.at_
  exact ⟨_, _, _, _, _, _, _, _, _, e3, e1, e2⟩
set_option maxRecDepth 100000 in
set_option maxHeartbeats 8000000 in
theorem awake7 (w : World) (hp : Laid w.heap.size Pow10 w) : Calls Tryz.prog 7 #[] w fun e w' => e = .returned (.bool true) ∧ Below w.heap.size w w' := by
  have hnew : ∀ ww, Below w.heap.size w ww → Calls Tryz.prog 11 #[.int .i64 2] ww _ := fun ww hb => new11 2 (by omega) (by omega) ww
  go_enter Tryz.func7, Tryz.ntmps7
  go_upto_region 2 with (go_at_call 11; refine (hnew _ (bel w _)).mono ?_; rintro e w1 ⟨iv, ov, mv, rfl, hb1, hst⟩; obtain ⟨ai, ni, ci, ao, no, co, am, nm, cm, rfl, rfl, rfl⟩ := hst.slices; have HST := Lib.hid (And.intro hst (And.intro hb1 (hp.below hb1))); clear hst hb1)
  have h1 : ∀ ww, Below w1.heap.size w1 ww → Calls Tryz.prog 9 #[.agg #[.slice ai ni ci, .slice ao no co, .slice am nm cm], .agg #[.int .i64 0, .int .i64 0, .int .i64 0, .int .i64 0, .int .i64 0, .string { data := #[47, 97] }, .string { data := #[] }, .string { data := #[] }], .agg #[.int .i64 0, .int .i64 1, .int .i64 0, .int .i64 0, .int .i64 0, .string { data := #[47, 98] }, .string { data := #[] }, .string { data := #[] }]] ww fun e w' => e = .returned (.bool true) ∧ Below ww.heap.size ww w' := fun ww hb => cm_AB _ _ _ ww (HST.out.1.below hb (Nat.le_refl _)) ((HST.out.2.2.below (hb.mono HST.out.2.1.size)).up (Nat.le_trans HST.out.2.1.size hb.size))
  have h2 : ∀ ww, Below w1.heap.size w1 ww → Calls Tryz.prog 10 #[.agg #[.slice ai ni ci, .slice ao no co, .slice am nm cm], .agg #[.int .i64 0, .int .i64 0, .int .i64 0, .int .i64 0, .int .i64 0, .string { data := #[47, 97] }, .string { data := #[] }, .string { data := #[] }], .agg #[.int .i64 0, .int .i64 1, .int .i64 0, .int .i64 0, .int .i64 0, .string { data := #[47, 98] }, .string { data := #[] }, .string { data := #[] }]] ww fun e w' => e = .returned (.bool true) ∧ Below ww.heap.size ww w' := fun ww hb => ap_AB _ _ _ ww (HST.out.1.below hb (Nat.le_refl _))
  have h3 : ∀ ww, Below w1.heap.size w1 ww → Calls Tryz.prog 9 #[.agg #[.slice ai ni ci, .slice ao no co, .slice am nm cm], .agg #[.int .i64 0, .int .i64 0, .int .i64 0, .int .i64 0, .int .i64 0, .string { data := #[47, 97] }, .string { data := #[] }, .string { data := #[] }], .agg #[.int .i64 0, .int .i64 1, .int .i64 0, .int .i64 0, .int .i64 0, .string { data := #[47, 97] }, .string { data := #[] }, .string { data := #[] }]] ww fun e w' => e = .returned (.bool false) ∧ Below ww.heap.size ww w' := fun ww hb => cm_AC _ _ _ ww (HST.out.1.below hb (Nat.le_refl _))
  have h4 : ∀ ww, Below w1.heap.size w1 ww → Calls Tryz.prog 10 #[.agg #[.slice ai ni ci, .slice ao no co, .slice am nm cm], .agg #[.int .i64 0, .int .i64 0, .int .i64 0, .int .i64 0, .int .i64 0, .string { data := #[47, 97] }, .string { data := #[] }, .string { data := #[] }], .agg #[.int .i64 0, .int .i64 1, .int .i64 0, .int .i64 0, .int .i64 0, .string { data := #[47, 97] }, .string { data := #[] }, .string { data := #[] }]] ww fun e w' => e = .returned (.bool false) ∧ Below ww.heap.size ww w' := fun ww hb => ap_AC _ _ _ ww (HST.out.1.below hb (Nat.le_refl _))
  have h5 : ∀ ww, Below w1.heap.size w1 ww → Calls Tryz.prog 9 #[.agg #[.slice ai ni ci, .slice ao no co, .slice am nm cm], .agg #[.int .i64 0, .int .i64 0, .int .i64 0, .int .i64 0, .int .i64 0, .string { data := #[47, 97] }, .string { data := #[] }, .string { data := #[] }], .agg #[.int .i64 0, .int .i64 0, .int .i64 0, .int .i64 0, .int .i64 0, .string { data := #[47, 97] }, .string { data := #[] }, .string { data := #[] }]] ww fun e w' => e = .returned (.bool false) ∧ Below ww.heap.size ww w' := fun ww hb => cm_AA _ _ _ ww (HST.out.1.below hb (Nat.le_refl _))
  go_wp2_with (first | (go_at_call 9; with_reducible refine (h1 _ (bel w1 _)).mono ?_; rintro e w' ⟨rfl, hb⟩; obtain ⟨p, rfl⟩ := hb.rest; clear hb) | (go_at_call 10; with_reducible refine (h2 _ (bel w1 _)).mono ?_; rintro e w' ⟨rfl, hb⟩; obtain ⟨p, rfl⟩ := hb.rest; clear hb) | (go_at_call 9; with_reducible refine (h3 _ (bel w1 _)).mono ?_; rintro e w' ⟨rfl, hb⟩; obtain ⟨p, rfl⟩ := hb.rest; clear hb) | (go_at_call 10; with_reducible refine (h4 _ (bel w1 _)).mono ?_; rintro e w' ⟨rfl, hb⟩; obtain ⟨p, rfl⟩ := hb.rest; clear hb) | (go_at_call 9; with_reducible refine (h5 _ (bel w1 _)).mono ?_; rintro e w' ⟨rfl, hb⟩; obtain ⟨p, rfl⟩ := hb.rest; clear hb) | (go_at_call 12; refine (num12 0 _).mono ?_; rintro e w' ⟨rfl, hb⟩; obtain ⟨p, rfl⟩ := hb.rest; clear hb))
  go_ret
  exact ⟨rfl, HST.out.2.1.trans ((bel w1 _).mono HST.out.2.1.size)⟩
end Go.Proofs.YtjkenolgkkknaaaGreatDoor
