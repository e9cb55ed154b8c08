/- Part of the proof that the calls that look alone commute. Conditions: none. -/
import Derived.Test.YtjkenolgkkknaaaGreatDoorLp51
import Derived.Test.YtjkenolgkkknaaaGreatDoorLp49
set_option linter.unusedVariables false
set_option linter.unusedSimpArgs false
set_option maxRecDepth 100000
set_option maxHeartbeats 8000000
/- CommuteLooks, walked. Conditions: none. -/
set_option linter.unusedVariables false
set_option linter.unusedSimpArgs false
namespace Go.Proofs.YtjkenolgkkknaaaGreatDoor
open Go.RowKit
def lookK (i : Nat) : Int := match i with | 0 => 4 | 1 => 7 | 2 => 12 | 3 => 13 | _ => 14
theorem lookK_at {w : World} {g i : Nat} (hi : i < 5) (h : Blk w g #[.int .i64 4, .int .i64 7, .int .i64 12, .int .i64 13, .int .i64 14] 3) : w.cell? ⟨g, i, none⟩ = some (.int .i64 (lookK i)) := by
  rw [h.cell]
  have : i = 0 ∨ i = 1 ∨ i = 2 ∨ i = 3 ∨ i = 4 := by omega
  rcases this with rfl | rfl | rfl | rfl | rfl <;> rfl
theorem lookK_looks {i : Nat} (hi : i < 5) {c : PCall} (h : c.kind = lookK i) : Looks c := by
  unfold Looks
  rw [h]
  have : i = 0 ∨ i = 1 ∨ i = 2 ∨ i = 3 ∨ i = 4 := by omega
  rcases this with rfl | rfl | rfl | rfl | rfl <;> decide
theorem looks_kind {c : PCall} (h : Looks c) : decide (0 ≤ c.kind) = true ∧ decide (c.kind ≤ 16) = true := by
  unfold Looks at h
  rcases h with h | h | h | h | h <;> rw [h] <;> exact ⟨rfl, rfl⟩
theorem asked_two {S : PSt} {x y : PCall} (h : askedM S x y = true) : 1 < S.made.length := by
  unfold askedM kindB at h
  simp only [Bool.and_eq_true, decide_eq_true_eq, bne_iff_ne] at h
  omega
set_option maxRecDepth 100000 in
set_option maxHeartbeats 8000000 in
theorem looks5 (S : PSt) (x y : PCall) (iv ov mv : Value) (w : World) (h : StRead w iv ov mv S) (hwf : S.wf) (hp : Laid w.heap.size Pow10 w) :
    Calls Tryz.prog 5 #[.agg #[iv, ov, mv], x.val, y.val] w fun e w' => e = .returned (.bool true) ∧ Below w.heap.size w w' := by
  have haw : ∀ ww, Below w.heap.size w ww → Calls Tryz.prog 7 #[] ww _ := fun ww hb => awake7 ww ((hp.below hb).up hb.size)
  have h13 : ∀ ww, Below w.heap.size w ww → Calls Tryz.prog 13 #[.agg #[iv, ov, mv]] ww fun e w' => e = .returned (.bool (mayR S)) ∧ Below ww.heap.size ww w' := fun ww hb => may13r S iv ov mv ww (h.below hb (Nat.le_refl _)) hwf
  have h9 : ∀ (a b : PCall), Looks a → Looks b → ∀ ww, Below w.heap.size w ww → Calls Tryz.prog 9 #[.agg #[iv, ov, mv], a.val, b.val] ww fun e w' => e = .returned (.bool (askedM S a b)) ∧ Below ww.heap.size ww w' := fun a b ha hb ww hw => commute_looks iv ov mv ww (h.below hw (Nat.le_refl _)) hwf ha hb ((hp.below hw).up hw.size)
  obtain ⟨ai, ni, ci, ao, no, co, am, nm, cm, rfl, rfl, rfl⟩ := h.slices
  obtain ⟨a, cap, e1, ham⟩ := h.2.1.at_
  rw [List.length_map] at e1
  cases e1
  obtain ⟨i, hi⟩ : ∃ i : Nat, (IntKind.u64.wrap x.kind).tmod 5 = i := ⟨((IntKind.u64.wrap x.kind) % 5).toNat, by
    have h0 : 0 ≤ IntKind.u64.wrap x.kind := by simp [IntKind.wrap, IntKind.bits, IntKind.signed]; omega
    rw [Int.tmod_eq_emod_of_nonneg h0]; omega⟩
  obtain ⟨j, hj⟩ : ∃ j : Nat, (IntKind.u64.wrap y.kind).tmod 5 = j := ⟨((IntKind.u64.wrap y.kind) % 5).toNat, by
    have h0 : 0 ≤ IntKind.u64.wrap y.kind := by simp [IntKind.wrap, IntKind.bits, IntKind.signed]; omega
    rw [Int.tmod_eq_emod_of_nonneg h0]; omega⟩
  have i5 : i < 5 := by
    have h0 : 0 ≤ IntKind.u64.wrap x.kind := by simp [IntKind.wrap, IntKind.bits, IntKind.signed]; omega
    rw [Int.tmod_eq_emod_of_nonneg h0] at hi; omega
  have j5 : j < 5 := by
    have h0 : 0 ≤ IntKind.u64.wrap y.kind := by simp [IntKind.wrap, IntKind.bits, IntKind.signed]; omega
    rw [Int.tmod_eq_emod_of_nonneg h0] at hj; omega
  have i5I : (i : Int) < 5 := by omega
  have j5I : (j : Int) < 5 := by omega
  obtain ⟨xk, xc, xf, xo, xn, xp, xq, xd⟩ := x
  obtain ⟨yk, yc, yf, yo, yn, yp, yq, yd⟩ := y
  simp only [PCall.val] at hi hj ⊢
  generalize hM : mayR S = M at h13
  have HM := Lib.hid hM
  have H9 := Lib.hid h9
  clear hM h9 ham hp h
  go_enter Tryz.func5, Tryz.ntmps5
  go_upto_region 4 with (go_at_call 7; refine (haw _ (bel w _)).mono ?_; rintro e w' ⟨rfl, hb⟩; obtain ⟨p, rfl⟩ := hb.rest; clear hb)
  refine abs_world (F := fun wA => Blk wA w.heap.size #[.slice ai ni ci, .slice ao no co, .slice am S.made.length cm] 27 ∧ Blk wA (w.heap.size + 1) #[.int .i64 xk, .int .i64 xc, .int .i64 xf, .int .i64 xo, .int .i64 xn, .string xp, .string xq, .string xd] 29 ∧ Blk wA (w.heap.size + 1 + 1) #[.int .i64 yk, .int .i64 yc, .int .i64 yf, .int .i64 yo, .int .i64 yn, .string yp, .string yq, .string yd] 29 ∧ Blk wA (w.heap.size + 1 + 1 + 1 + p.len) #[.int .i64 4, .int .i64 7, .int .i64 12, .int .i64 13, .int .i64 14] 3 ∧ Below w.heap.size w wA) ⟨by repeat (first | exact Blk.new_i _ _ _ _ | refine Blk.alloc ?_ _ | refine Blk.junk ?_ _ | refine Blk.drew ?_), by repeat (first | exact Blk.new_i _ _ _ _ | refine Blk.alloc ?_ _ | refine Blk.junk ?_ _ | refine Blk.drew ?_), by repeat (first | exact Blk.new_i _ _ _ _ | refine Blk.alloc ?_ _ | refine Blk.junk ?_ _ | refine Blk.drew ?_), by repeat (first | exact Blk.new_i _ _ _ _ | refine Blk.alloc ?_ _ | refine Blk.junk ?_ _ | refine Blk.drew ?_), bel w _⟩ ?_
  obtain ⟨g, hg⟩ : ∃ g, w.heap.size + 1 + 1 + 1 + p.len = g := ⟨_, rfl⟩
  have hgn : w.heap.size + 1 + 1 < g := by omega
  rw [hg]
  clear hg haw
  rintro wA ⟨b1, b2, b3, bg, hbA⟩
  have i1 := b1.lt
  have i2 := b2.lt
  have i3 := b3.lt
  have ig := bg.lt
  have c2 : wA.cell? ⟨w.heap.size + 1, 0, none⟩ = some (.int .i64 xk) := b2.cell 0
  have f2 := b2.frozen 0
  have c3 : wA.cell? ⟨w.heap.size + 1 + 1, 0, none⟩ = some (.int .i64 yk) := b3.cell 0
  have f3 := b3.frozen 0
  have k1 := lookK_at i5 bg
  have k2 := lookK_at j5 bg
  obtain ⟨K1, hK1⟩ : ∃ k, lookK i = k := ⟨_, rfl⟩
  obtain ⟨K2, hK2⟩ : ∃ k, lookK j = k := ⟨_, rfl⟩
  rw [hK1] at k1
  rw [hK2] at k2
  have HA := Lib.hid (And.intro b1 (And.intro b2 (And.intro b3 hbA)))
  have HL := Lib.hid (And.intro (lookK_looks i5 (c := ⟨K1, xc, xf, xo, xn, xp, xq, xd⟩) hK1.symm) (lookK_looks j5 (c := ⟨K2, yc, yf, yo, yn, yp, yq, yd⟩) hK2.symm))
  have HL2 := Lib.hid (And.intro (lookK_looks i5 (c := ⟨K1, 0, xf, xo, xn, xp, xq, xd⟩) hK1.symm) (lookK_looks j5 (c := ⟨K2, 1, yf, yo, yn, yp, yq, yd⟩) hK2.symm))
  clear b1 b2 b3 bg hbA hK1 hK2
  have n12 : ¬ w.heap.size + 1 = w.heap.size + 1 + 1 := by omega
  have n21 : ¬ w.heap.size + 1 + 1 = w.heap.size + 1 := by omega
  have ng1 : ¬ g = w.heap.size + 1 := by omega
  have ng2 : ¬ g = w.heap.size + 1 + 1 := by omega
  have n1g : ¬ w.heap.size + 1 = g := by omega
  have n2g : ¬ w.heap.size + 1 + 1 = g := by omega
  go_upto_region 6 with fail
  have e1 : Blk ((wA.setCell ⟨w.heap.size + 1, 0, none⟩ (.int .i64 K1)).setCell ⟨w.heap.size + 1 + 1, 0, none⟩ (.int .i64 K2)) w.heap.size #[.slice ai ni ci, .slice ao no co, .slice am S.made.length cm] 27 := (HA.out.1.far (a := ⟨w.heap.size + 1, 0, none⟩) (by show ¬ w.heap.size = w.heap.size + 1; omega) _).far (a := ⟨w.heap.size + 1 + 1, 0, none⟩) (by show ¬ w.heap.size = w.heap.size + 1 + 1; omega) _
  have e2 : Blk ((wA.setCell ⟨w.heap.size + 1, 0, none⟩ (.int .i64 K1)).setCell ⟨w.heap.size + 1 + 1, 0, none⟩ (.int .i64 K2)) (w.heap.size + 1) #[.int .i64 K1, .int .i64 xc, .int .i64 xf, .int .i64 xo, .int .i64 xn, .string xp, .string xq, .string xd] 29 := by
    have := (HA.out.2.1.set_ 0 (.int .i64 K1)).far (a := ⟨w.heap.size + 1 + 1, 0, none⟩) (by show ¬ w.heap.size + 1 = w.heap.size + 1 + 1; omega) (.int .i64 K2)
    simpa only [List.setIfInBounds_toArray, List.set_cons_zero] using this
  have e3 : Blk ((wA.setCell ⟨w.heap.size + 1, 0, none⟩ (.int .i64 K1)).setCell ⟨w.heap.size + 1 + 1, 0, none⟩ (.int .i64 K2)) (w.heap.size + 1 + 1) #[.int .i64 K2, .int .i64 yc, .int .i64 yf, .int .i64 yo, .int .i64 yn, .string yp, .string yq, .string yd] 29 := by
    have := (HA.out.2.2.1.far (a := ⟨w.heap.size + 1, 0, none⟩) (by show ¬ w.heap.size + 1 + 1 = w.heap.size + 1; omega) (.int .i64 K1)).set_ 0 (.int .i64 K2)
    simpa only [List.setIfInBounds_toArray, List.set_cons_zero] using this
  have e4 : Below w.heap.size w ((wA.setCell ⟨w.heap.size + 1, 0, none⟩ (.int .i64 K1)).setCell ⟨w.heap.size + 1 + 1, 0, none⟩ (.int .i64 K2)) := (HA.out.2.2.2.setCell (p := ⟨w.heap.size + 1, 0, none⟩) (by show w.heap.size ≤ w.heap.size + 1; omega) _).setCell (p := ⟨w.heap.size + 1 + 1, 0, none⟩) (by show w.heap.size ≤ w.heap.size + 1 + 1; omega) _
  refine abs_world (F := fun wB => Blk wB w.heap.size #[.slice ai ni ci, .slice ao no co, .slice am S.made.length cm] 27 ∧ Blk wB (w.heap.size + 1) #[.int .i64 K1, .int .i64 xc, .int .i64 xf, .int .i64 xo, .int .i64 xn, .string xp, .string xq, .string xd] 29 ∧ Blk wB (w.heap.size + 1 + 1) #[.int .i64 K2, .int .i64 yc, .int .i64 yf, .int .i64 yo, .int .i64 yn, .string yp, .string yq, .string yd] 29 ∧ Below w.heap.size w wB) ⟨e1, e2, e3, e4⟩ ?_
  clear e1 e2 e3 e4 k1 k2 c2 c3 f2 f3 i1 i2 i3 ig ng1 ng2 n1g n2g hgn HA
  rintro wB ⟨b1, b2, b3, hbB⟩
  have iB : Bel w wB := ⟨hbB⟩
  have i1 := b1.lt
  have i2 := b2.lt
  have i3 := b3.lt
  have c10 : wB.cell? ⟨w.heap.size, 0, none⟩ = some (.slice ai ni ci) := b1.cell 0
  have c11 : wB.cell? ⟨w.heap.size, 1, none⟩ = some (.slice ao no co) := b1.cell 1
  have c12 : wB.cell? ⟨w.heap.size, 2, none⟩ = some (.slice am S.made.length cm) := b1.cell 2
  have c20 : wB.cell? ⟨w.heap.size + 1, 0, none⟩ = some (.int .i64 K1) := b2.cell 0
  have c21 : wB.cell? ⟨w.heap.size + 1, 1, none⟩ = some (.int .i64 xc) := b2.cell 1
  have c22 : wB.cell? ⟨w.heap.size + 1, 2, none⟩ = some (.int .i64 xf) := b2.cell 2
  have c23 : wB.cell? ⟨w.heap.size + 1, 3, none⟩ = some (.int .i64 xo) := b2.cell 3
  have c24 : wB.cell? ⟨w.heap.size + 1, 4, none⟩ = some (.int .i64 xn) := b2.cell 4
  have c25 : wB.cell? ⟨w.heap.size + 1, 5, none⟩ = some (.string xp) := b2.cell 5
  have c26 : wB.cell? ⟨w.heap.size + 1, 6, none⟩ = some (.string xq) := b2.cell 6
  have c27 : wB.cell? ⟨w.heap.size + 1, 7, none⟩ = some (.string xd) := b2.cell 7
  have f2 := b2.frozen 1
  have c30 : wB.cell? ⟨w.heap.size + 1 + 1, 0, none⟩ = some (.int .i64 K2) := b3.cell 0
  have c31 : wB.cell? ⟨w.heap.size + 1 + 1, 1, none⟩ = some (.int .i64 yc) := b3.cell 1
  have c32 : wB.cell? ⟨w.heap.size + 1 + 1, 2, none⟩ = some (.int .i64 yf) := b3.cell 2
  have c33 : wB.cell? ⟨w.heap.size + 1 + 1, 3, none⟩ = some (.int .i64 yo) := b3.cell 3
  have c34 : wB.cell? ⟨w.heap.size + 1 + 1, 4, none⟩ = some (.int .i64 yn) := b3.cell 4
  have c35 : wB.cell? ⟨w.heap.size + 1 + 1, 5, none⟩ = some (.string yp) := b3.cell 5
  have c36 : wB.cell? ⟨w.heap.size + 1 + 1, 6, none⟩ = some (.string yq) := b3.cell 6
  have c37 : wB.cell? ⟨w.heap.size + 1 + 1, 7, none⟩ = some (.string yd) := b3.cell 7
  have f3 := b3.frozen 1
  clear b1 b2 b3 hbB
  have first9 : ∀ ww, Below w.heap.size w ww → Calls Tryz.prog 9 #[.agg #[.slice ai ni ci, .slice ao no co, .slice am S.made.length cm], .agg #[.int .i64 K1, .int .i64 xc, .int .i64 xf, .int .i64 xo, .int .i64 xn, .string xp, .string xq, .string xd], .agg #[.int .i64 K2, .int .i64 yc, .int .i64 yf, .int .i64 yo, .int .i64 yn, .string yp, .string yq, .string yd]] ww fun e w' => e = .returned (.bool (askedM S ⟨K1, xc, xf, xo, xn, xp, xq, xd⟩ ⟨K2, yc, yf, yo, yn, yp, yq, yd⟩)) ∧ Below ww.heap.size ww w' := fun ww hb => H9.out _ _ HL.out.1 HL.out.2 ww hb
  have HF9 := Lib.hid first9
  clear first9
  have hcs : (M = false ∧ ∃ A, askedM S ⟨K1, xc, xf, xo, xn, xp, xq, xd⟩ ⟨K2, yc, yf, yo, yn, yp, yq, yd⟩ = A ∧ (A = false ∨ (A = true ∧ 1 < S.made.length))) ∨ (M = true ∧ S.made.length < 2 ∧ ∃ A, askedM S ⟨K1, xc, xf, xo, xn, xp, xq, xd⟩ ⟨K2, yc, yf, yo, yn, yp, yq, yd⟩ = A ∧ A = false) ∨ (M = true ∧ ¬ S.made.length < 2) := by
    have ha : ∃ A, askedM S ⟨K1, xc, xf, xo, xn, xp, xq, xd⟩ ⟨K2, yc, yf, yo, yn, yp, yq, yd⟩ = A ∧ (A = false ∨ (A = true ∧ 1 < S.made.length)) := by
      rcases e : askedM S ⟨K1, xc, xf, xo, xn, xp, xq, xd⟩ ⟨K2, yc, yf, yo, yn, yp, yq, yd⟩ with _ | _
      · exact ⟨_, rfl, .inl rfl⟩
      · exact ⟨_, rfl, .inr ⟨rfl, asked_two e⟩⟩
    rcases M with _ | _
    · exact .inl ⟨rfl, ha⟩
    · by_cases hl : S.made.length < 2
      · obtain ⟨A, h1, h2 | ⟨h2, h3⟩⟩ := ha
        · exact .inr (.inl ⟨rfl, hl, A, h1, h2⟩)
        · omega
      · exact .inr (.inr ⟨rfl, hl⟩)
  rcases hcs with ⟨rfl, A, hA, hAA⟩ | ⟨rfl, hl, A, hA, rfl⟩ | ⟨rfl, hl⟩
  · have h9x := HF9.out
    rw [hA] at h9x
    clear hA HF9
    rcases hAA with rfl | ⟨rfl, hl⟩
    · go_wp2_with (first | (go_at_call 13; with_reducible refine (h13 _ (bel w _)).mono ?_; rintro e w' ⟨rfl, hb⟩; obtain ⟨p13, rfl⟩ := hb.rest; clear hb) | (go_at_call 9; with_reducible refine (h9x _ (bel w _)).mono ?_; rintro e w' ⟨rfl, hb⟩; obtain ⟨p9, rfl⟩ := hb.rest; clear hb))
      exact bodyPost_ret (v := .bool true) (by simp [results, Tryz.results5, go_sem]) rfl ⟨rfl, bel _ _⟩
    · have hlI : (1 : Int) < S.made.length := by omega
      go_wp2_with (first | (go_at_call 13; with_reducible refine (h13 _ (bel w _)).mono ?_; rintro e w' ⟨rfl, hb⟩; obtain ⟨p13, rfl⟩ := hb.rest; clear hb) | (go_at_call 9; with_reducible refine (h9x _ (bel w _)).mono ?_; rintro e w' ⟨rfl, hb⟩; obtain ⟨p9, rfl⟩ := hb.rest; clear hb))
      exact bodyPost_ret (v := .bool true) (by simp [results, Tryz.results5, go_sem]) rfl ⟨rfl, bel _ _⟩
  · have h9x := HF9.out
    rw [hA] at h9x
    clear hA HF9
    have hlI : (S.made.length : Int) < 2 := by omega
    go_wp2_with (first | (go_at_call 13; with_reducible refine (h13 _ (bel w _)).mono ?_; rintro e w' ⟨rfl, hb⟩; obtain ⟨p13, rfl⟩ := hb.rest; clear hb) | (go_at_call 9; with_reducible refine (h9x _ (bel w _)).mono ?_; rintro e w' ⟨rfl, hb⟩; obtain ⟨p9, rfl⟩ := hb.rest; clear hb))
    exact bodyPost_ret (v := .bool true) (by simp [results, Tryz.results5, go_sem]) rfl ⟨rfl, bel _ _⟩
  · have hlI : ¬ (S.made.length : Int) < 2 := by omega
    have hask : askedM S ⟨K1, 0, xf, xo, xn, xp, xq, xd⟩ ⟨K2, 1, yf, yo, yn, yp, yq, yd⟩ = true := by
      have hm := mayR_mayM hwf HM.out
      have h1 := looks_kind HL2.out.1
      have h2 := looks_kind HL2.out.2
      simp only at h1 h2
      unfold askedM kindB
      simp only [hm, h1.1, h1.2, h2.1, h2.2, Bool.true_and, Bool.and_eq_true, decide_eq_true_eq, bne_iff_ne]
      omega
    have h9x : ∀ ww, Below w.heap.size w ww → Calls Tryz.prog 9 #[.agg #[.slice ai ni ci, .slice ao no co, .slice am S.made.length cm], .agg #[.int .i64 K1, .int .i64 0, .int .i64 xf, .int .i64 xo, .int .i64 xn, .string xp, .string xq, .string xd], .agg #[.int .i64 K2, .int .i64 1, .int .i64 yf, .int .i64 yo, .int .i64 yn, .string yp, .string yq, .string yd]] ww fun e w' => e = .returned (.bool true) ∧ Below ww.heap.size ww w' := fun ww hb => by
      have := H9.out _ _ HL2.out.1 HL2.out.2 ww hb
      rw [hask] at this
      exact this
    clear hask HF9
    go_wp2_with (first | (go_at_call 13; with_reducible refine (h13 _ (bel w _)).mono ?_; rintro e w' ⟨rfl, hb⟩; obtain ⟨p13, rfl⟩ := hb.rest; clear hb) | (go_at_call 9; with_reducible refine (h9x _ (bel w _)).mono ?_; rintro e w' ⟨rfl, hb⟩; obtain ⟨p9, rfl⟩ := hb.rest; clear hb))
    exact bodyPost_ret (v := .bool true) (by simp [results, Tryz.results5, go_sem]) rfl ⟨rfl, bel _ _⟩
end Go.Proofs.YtjkenolgkkknaaaGreatDoor
