/- Part of the proof of a law of chapter 15. Conditions: none. -/
import Derived.Test.YtmkapobnfigedaaGreatDoorDp31
set_option linter.unusedVariables false
set_option linter.unusedSimpArgs false
set_option maxRecDepth 100000
set_option maxHeartbeats 8000000
namespace Go.Proofs.YtmkapobnfigedaaGreatDoor
open Go.RowKit
theorem keep9 {wz : World} {q r : Nat} {c0 c1 c2 a0 a1 a2 a3 a4 a5 : Value} : Keep (fun g => g = q ∨ g = r) wz ((((((((((wz.setCell ⟨q, 0, none⟩ c0).setCell ⟨q, 1, none⟩ c1).setCell ⟨q, 2, none⟩ c2).setCell ⟨r, 0, none⟩ a0).setCell ⟨r, 1, none⟩ a1).setCell ⟨r, 2, none⟩ a2).setCell ⟨r, 3, none⟩ a3).setCell ⟨r, 4, none⟩ a4).setCell ⟨r, 5, none⟩ a5).drew) :=
 ((((((((((Keep.refl (fun g => g = q ∨ g = r) wz).setCell (p := ⟨q, 0, none⟩) (.inl (.inl rfl)) c0).setCell (p := ⟨q, 1, none⟩) (.inl (.inl rfl)) c1).setCell (p := ⟨q, 2, none⟩) (.inl (.inl rfl)) c2).setCell (p := ⟨r, 0, none⟩) (.inl (.inr rfl)) a0).setCell (p := ⟨r, 1, none⟩) (.inl (.inr rfl)) a1).setCell (p := ⟨r, 2, none⟩) (.inl (.inr rfl)) a2).setCell (p := ⟨r, 3, none⟩) (.inl (.inr rfl)) a3).setCell (p := ⟨r, 4, none⟩) (.inl (.inr rfl)) a4).setCell (p := ⟨r, 5, none⟩) (.inl (.inr rfl)) a5).drew
theorem do34_0 (S S' : PSt) (iv ov mv : Value) (core fd off nu r : Int) (pt p2 dt : ByteArray) (w : World) (h : StRead w iv ov mv S) (hwf : S.wf) (hg : mayG S = true) (hc0 : 0 ≤ core) (hc1 : core < S.made.length)
 (hin : ∀ B b iv' ov' mv' ww, Blk ww b #[iv', ov', mv'] 26 → StOwn B ww iv' ov' mv' S → B ≤ ww.heap.size → B ≤ b → Calls Tryz.prog 93 #[.pointer (some ⟨b, 0, none⟩), .agg #[.int .i64 0, .int .i64 core, .int .i64 fd, .int .i64 off, .int .i64 nu, .string pt, .string p2, .string dt]] ww fun e w' => e = .returned (resV 0 0 r) ∧ Below B ww w' ∧ Spared b ww w' ∧ ∃ iv' ov' mv', Blk w' b #[iv', ov', mv'] 26 ∧ StOwn B w' iv' ov' mv' S') :
 Calls Tryz.prog 64 #[.agg #[iv, ov, mv], .agg #[.int .i64 0, .int .i64 core, .int .i64 fd, .int .i64 off, .int .i64 nu, .string pt, .string p2, .string dt], .int .i64 (-1)] w fun e w' => ∃ iv' ov' mv', e = .returned (.tuple #[.agg #[iv', ov', mv'], resV 0 0 r, .bool true]) ∧ Below w.heap.size w w' ∧ StOwn w.heap.size w' iv' ov' mv' S' := by
 have h13 : ∀ ww, Below w.heap.size w ww → Calls Tryz.prog 30 #[.agg #[iv, ov, mv]] ww fun e w' => e = .returned (.bool true) ∧ Below ww.heap.size ww w' := fun ww hb => may13 S iv ov mv ww (h.below hb (Nat.le_refl _)) hwf hg
 have h54 : ∀ ww, Below w.heap.size w ww → Calls Tryz.prog 91 #[.agg #[iv, ov, mv]] ww fun e w' => ∃ iv' ov' mv', e = .returned (.agg #[iv', ov', mv']) ∧ Below ww.heap.size ww w' ∧ StOwn ww.heap.size w' iv' ov' mv' S := fun ww hb => copy54 S iv ov mv ww (h.below hb (Nat.le_refl _)) hwf
 obtain ⟨am, cm, rfl⟩ : ∃ am cm, mv = .slice am S.made.length cm := by
  obtain ⟨a, c, e, _⟩ := h.2.1.at_; rw [lM] at e; exact ⟨a, c, e⟩
 obtain ⟨ai, ni, ci, ao, no, co, am', nm', cm', rfl, rfl, -⟩ := h.slices
 have hc0n : ¬ core < 0 := by omega
 have hc1n : ¬ (S.made.length : Int) ≤ core := by omega
 have HIN := Lib.hid hin
 clear h hwf hg hin
 go_enter Tryz.func64, Tryz.ntmps64
 go_upto_region 5 with (first | (go_at_call 30; with_reducible refine aT (h13 _ (bel _ _)) fun p => ?_) | (go_at_call 91; (with_reducible refine (h54 _ (bel _ _)).mono ?_); rintro e w1 ⟨iv1, ov1, mv1, rfl, hb1, hs1⟩; have i1 : Bel w w1 := ⟨(bel w _).trans (hb1.mono (bel w _).size)⟩; have hC1 : Blk w1 (w.heap.size + 1) #[.int .i64 0, .int .i64 core, .int .i64 fd, .int .i64 off, .int .i64 nu, .string pt, .string p2, .string dt] 28 := blk_on (blk_on (Blk.new_i (w.alloc (.cells #[.slice ai ni ci, .slice ao no co, .slice am S.made.length cm] 26)) #[.int .i64 0, .int .i64 core, .int .i64 fd, .int .i64 off, .int .i64 nu, .string pt, .string p2, .string dt] 28 (w.heap.size + 1)) (bel _ _)) hb1; have hN1 : Blk w1 (w.heap.size + 1 + 1) #[.slice none 0 0, .slice none 0 0, .slice none 0 0] 26 := blk_on (blk_on (Blk.new_i ((w.alloc (.cells #[.slice ai ni ci, .slice ao no co, .slice am S.made.length cm] 26)).alloc (.cells #[.int .i64 0, .int .i64 core, .int .i64 fd, .int .i64 off, .int .i64 nu, .string pt, .string p2, .string dt] 28)) #[.slice none 0 0, .slice none 0 0, .slice none 0 0] 26 (w.heap.size + 1 + 1)) (bel _ _)) hb1; have hR1 : Blk w1 (w.heap.size + 1 + 1 + 1) #[.int .i64 0, .int .i64 0, .int .i64 0, .bool false, .string { data := #[] }, .slice none 0 0] 52 := blk_on (blk_on (Blk.new_i (((w.alloc (.cells #[.slice ai ni ci, .slice ao no co, .slice am S.made.length cm] 26)).alloc (.cells #[.int .i64 0, .int .i64 core, .int .i64 fd, .int .i64 off, .int .i64 nu, .string pt, .string p2, .string dt] 28)).alloc (.cells #[.slice none 0 0, .slice none 0 0, .slice none 0 0] 26)) #[.int .i64 0, .int .i64 0, .int .i64 0, .bool false, .string { data := #[] }, .slice none 0 0] 52 (w.heap.size + 1 + 1 + 1)) (bel _ _)) hb1; obtain ⟨a1, a2, a3, a4, a5, a6, a7, a8, a9, rfl, rfl, rfl⟩ := hs1.forms; have H1 := Lib.hid (And.intro (hs1.mono (B' := w.heap.size + 1 + 1 + 1 + 1) (by simp)) (And.intro hC1 (And.intro hN1 (And.intro hR1 i1.below)))); clear hb1 hs1 hC1 hN1 hR1))
 have hbl : w.heap.size + 1 + 1 + 1 + 1 ≤ w1.heap.size := by
  have := H1.out.2.2.2.1.lt.lt; omega
 refine abs_world (F := fun W => StOwn (w.heap.size + 1 + 1 + 1 + 1) W (.slice a1 a2 a3) (.slice a4 a5 a6) (.slice a7 a8 a9) S ∧ Blk W (w1.heap.size) #[.slice a1 a2 a3, .slice a4 a5 a6, .slice a7 a8 a9] 26 ∧ Blk W (w1.heap.size + 1) #[.int .i64 0, .int .i64 0, .int .i64 0, .bool false, .string { data := #[] }, .slice none 0 0] 52 ∧ Blk W (w.heap.size + 1) #[.int .i64 0, .int .i64 core, .int .i64 fd, .int .i64 off, .int .i64 nu, .string pt, .string p2, .string dt] 28 ∧ Blk W (w.heap.size + 1 + 1) #[.slice none 0 0, .slice none 0 0, .slice none 0 0] 26 ∧ Blk W (w.heap.size + 1 + 1 + 1) #[.int .i64 0, .int .i64 0, .int .i64 0, .bool false, .string { data := #[] }, .slice none 0 0] 52 ∧ Below w.heap.size w W) ⟨H1.out.1.on (bel w1 _), blk_on (Blk.new w1 #[.slice a1 a2 a3, .slice a4 a5 a6, .slice a7 a8 a9] 26) (bel _ _), Blk.new_i _ _ _ _, blk_on H1.out.2.1 (bel w1 _), blk_on H1.out.2.2.1 (bel w1 _), blk_on H1.out.2.2.2.1 (bel w1 _), H1.out.2.2.2.2.trans ((bel w1 _).mono H1.out.2.2.2.2.size)⟩ ?_
 clear H1 h13 h54 i1
 obtain ⟨b, hbn⟩ : ∃ b, w1.heap.size = b := ⟨_, rfl⟩
 rw [hbn] at hbl ⊢
 clear hbn
 rintro W ⟨ho, hb, hr, hC, hN, hR, hbw⟩
 have iB := hb.lt
 have iR := hr.lt
 have iC := hC.lt
 have c0 := hC.cell 0
 have c1 := hC.cell 1
 have c2 := hC.cell 2
 have c3 := hC.cell 3
 have c4 := hC.cell 4
 have c5 := hC.cell 5
 have c6 := hC.cell 6
 have c7 := hC.cell 7
 simp at c0 c1 c2 c3 c4 c5 c6 c7
 have hin := HIN.out (w.heap.size + 1 + 1 + 1 + 1) b _ _ _ W hb ho (by have := iB.lt; omega) hbl
 simp only [resV] at hin
 have HW := Lib.hid (And.intro hr (And.intro hN (And.intro hR hbw)))
 clear ho hb hr hC hN hR hbw
 go_upto_region 29 with (go_at_call 93; (with_reducible refine hin.mono ?_); rintro e w5 ⟨rfl, hb5, hp5, iv5, ov5, mv5, hk5, hs5⟩; have hr5 := hp5 _ _ _ HW.out.1 (by omega) (.inr (.inr rfl)); have iR5 := hr5.lt; have g0 := hr5.cell 0; have g1 := hr5.cell 1; have g2 := hr5.cell 2; have g3 := hr5.cell 3; have g4 := hr5.cell 4; have g5 := hr5.cell 5; have fz0 := hr5.frozen 0; have fz1 := hr5.frozen 1; have fz2 := hr5.frozen 2; have fz3 := hr5.frozen 3; have fz4 := hr5.frozen 4; have fz5 := hr5.frozen 5; simp at g0 g1 g2 g3 g4 g5; obtain ⟨b1, b2, b3, b4, b5, b6, b7, b8, b9, rfl, rfl, rfl⟩ := hs5.forms; have H5 := Lib.hid (And.intro hb5 (And.intro hp5 (And.intro hk5 (And.intro hs5 hr5)))); clear hb5 hp5 hk5 hs5 hr5)
 refine abs_world (F := fun W' => StOwn (w.heap.size + 1 + 1 + 1 + 1) W' (.slice b1 b2 b3) (.slice b4 b5 b6) (.slice b7 b8 b9) S' ∧ Blk W' b #[.slice b1 b2 b3, .slice b4 b5 b6, .slice b7 b8 b9] 26 ∧ Blk W' (b + 1) #[.int .i64 0, .int .i64 0, .int .i64 r, .bool false, .string { data := #[] }, .slice none 0 0] 52 ∧ Blk W' (w.heap.size + 1 + 1) #[.slice none 0 0, .slice none 0 0, .slice none 0 0] 26 ∧ Blk W' (w.heap.size + 1 + 1 + 1) #[.int .i64 0, .int .i64 0, .int .i64 0, .bool false, .string { data := #[] }, .slice none 0 0] 52 ∧ Below w.heap.size w W') ?_ ?_
 · obtain ⟨e1, e2, e3, e4, e5⟩ := H5.out; obtain ⟨f1, f2, f3, f4⟩ := HW.out; have kq := e2 _ _ _ f2 (by omega) (.inl rfl); have kr := e2 _ _ _ f3 (by omega) (.inr (.inr rfl)); have hbwz : Below w.heap.size w w5 := f4.trans (e1.mono (by omega)); have hK := keep46n (wz := w5) (r := b + 1) (a0 := .int .i64 0) (a1 := .int .i64 0) (a2 := .int .i64 r) (a3 := .bool false) (a4 := .string { data := #[] }) (a5 := .slice none 0 0); exact ⟨e4.keep hK (fun g hg => by rw [hg]; exact ⟨_, 52, e5, by decide, by decide, by decide, by decide⟩), hK.blk e3 (by omega), (((((e5.set_ 0 _).set_ 1 _).set_ 2 _).set_ 3 _).set_ 4 _).set_ 5 _, hK.blk kq (by omega), hK.blk kr (by omega), hbwz.trans (hK.below hbwz.size (fun i hi e => by omega))⟩
 clear HW H5 iB iR iC c0 c1 c2 c3 c4 c5 c6 c7 hin
 rintro W' ⟨ho, hb, hr, hN, hR, hbw⟩
 have iB := hb.lt
 have iR := hr.lt
 have iN := hN.lt
 have iS := hR.lt
 have d0 := hb.cell 0
 have d1 := hb.cell 1
 have d2 := hb.cell 2
 have g0 := hr.cell 0
 have g1 := hr.cell 1
 have g2 := hr.cell 2
 have g3 := hr.cell 3
 have g4 := hr.cell 4
 have g5 := hr.cell 5
 have u0 := hN.cell 0
 have u1 := hN.cell 1
 have u2 := hN.cell 2
 have fu0 := hN.frozen 0
 have fu1 := hN.frozen 1
 have fu2 := hN.frozen 2
 have v0 := hR.cell 0
 have v1 := hR.cell 1
 have v2 := hR.cell 2
 have v3 := hR.cell 3
 have v4 := hR.cell 4
 have v5 := hR.cell 5
 have fv0 := hR.frozen 0
 have fv1 := hR.frozen 1
 have fv2 := hR.frozen 2
 have fv3 := hR.frozen 3
 have fv4 := hR.frozen 4
 have fv5 := hR.frozen 5
 simp at d0 d1 d2 g0 g1 g2 g3 g4 g5 u0 u1 u2 v0 v1 v2 v3 v4 v5
 have n1 : ¬ b = w.heap.size + 1 + 1 := by omega
 have n2 : ¬ b = w.heap.size + 1 + 1 + 1 := by omega
 have n3 : ¬ b + 1 = w.heap.size + 1 + 1 := by omega
 have n4 : ¬ b + 1 = w.heap.size + 1 + 1 + 1 := by omega
 have n5 : ¬ w.heap.size + 1 + 1 = w.heap.size + 1 + 1 + 1 := by omega
 have n6 : ¬ w.heap.size + 1 + 1 + 1 = w.heap.size + 1 + 1 := by omega
 have n7 : ¬ w.heap.size + 1 + 1 = b := by omega
 have n8 : ¬ w.heap.size + 1 + 1 + 1 = b := by omega
 have n9 : ¬ w.heap.size + 1 + 1 = b + 1 := by omega
 have n10 : ¬ w.heap.size + 1 + 1 + 1 = b + 1 := by omega
 have HZ := Lib.hid (And.intro ho (And.intro hN (And.intro hR hbw)))
 clear ho hb hr hN hR hbw
 go_wp2_with fail
 refine wp_region_eff [2, 3] true (fun w' => w'.cell? ⟨b, 0, none⟩ = some (.slice b1 b2 b3) ∧ w'.cell? ⟨b, 1, none⟩ = some (.slice b4 b5 b6) ∧ w'.cell? ⟨b, 2, none⟩ = some (.slice b7 b8 b9) ∧ w'.cell? ⟨b + 1, 0, none⟩ = some (.int .i64 0) ∧ w'.cell? ⟨b + 1, 1, none⟩ = some (.int .i64 0) ∧ w'.cell? ⟨b + 1, 2, none⟩ = some (.int .i64 r) ∧ w'.cell? ⟨b + 1, 3, none⟩ = some (.bool false) ∧ w'.cell? ⟨b + 1, 4, none⟩ = some (.string { data := #[] }) ∧ w'.cell? ⟨b + 1, 5, none⟩ = some (.slice none 0 0)) (by kernel_rfl) (by kernel_rfl) ?_ ?_
 · (try dsimp only); (repeat' apply And.intro) <;> go_simp
 repeat
  refine wpL_look rfl rfl ?_; apply Exists.intro; refine ⟨?_, ?_⟩
  focus
   rintro w' ⟨s0, s1, s2, s3, s4, s5, s6, s7, s8⟩; go_simp
   first | done | rfl
  simp only [Act.put, sA, sZ, sS]
 refine wpL_skip rfl rfl ?_
 apply Exists.intro
 refine ⟨?_, ?_, ?_⟩
 focus
  go_simp
  first | done | rfl
 focus
  refine .inl ?_
  (try dsimp only); (repeat' apply And.intro) <;> go_simp
 simp only [Act.put, sA, sZ, sS]
 refine wpL_skip rfl rfl ?_
 apply Exists.intro
 refine ⟨?_, ?_, ?_⟩
 focus
  go_simp
  first | done | rfl
 focus
  refine .inl ?_
  (try dsimp only); (repeat' apply And.intro) <;> go_simp
 simp only [Act.put, sA, sZ, sS]
 repeat
  refine wpL_look rfl rfl ?_; apply Exists.intro; refine ⟨?_, ?_⟩
  focus
   rintro w' ⟨s0, s1, s2, s3, s4, s5, s6, s7, s8⟩; go_simp
   first | done | rfl
  simp only [Act.put, sA, sZ, sS]
 refine wpL_end ?_
 go_wp2_with fail
 have hK := keep9 (wz := W') (q := w.heap.size + 1 + 1) (r := w.heap.size + 1 + 1 + 1) (c0 := .slice b1 b2 b3) (c1 := .slice b4 b5 b6) (c2 := .slice b7 b8 b9) (a0 := .int .i64 0) (a1 := .int .i64 0) (a2 := .int .i64 r) (a3 := .bool false) (a4 := .string { data := #[] }) (a5 := .slice none 0 0)
 have hfin := HZ.out.1.keep hK (fun g hg => by
  rcases hg with rfl | rfl
  · exact ⟨_, 26, HZ.out.2.1, by decide, by decide, by decide, by decide⟩
  · exact ⟨_, 52, HZ.out.2.2.1, by decide, by decide, by decide, by decide⟩)
 have hbf := HZ.out.2.2.2.trans (hK.below HZ.out.2.2.2.size (fun i hi e => by omega))
 exact bodyPost_ret (v := .tuple #[.agg #[.slice b1 b2 b3, .slice b4 b5 b6, .slice b7 b8 b9], resV 0 0 r, .bool true]) (by unfold results; simp only [Tryz.results64, resV]; go_simp) rfl ⟨_, _, _, rfl, hbf, hfin.mono (by omega)⟩
theorem do34_1 (S S' : PSt) (iv ov mv : Value) (core fd off nu r : Int) (pt p2 dt : ByteArray) (w : World) (h : StRead w iv ov mv S) (hwf : S.wf) (hg : mayG S = true) (hc0 : 0 ≤ core) (hc1 : core < S.made.length)
 (hin : ∀ B b iv' ov' mv' ww, Blk ww b #[iv', ov', mv'] 26 → StOwn B ww iv' ov' mv' S → B ≤ ww.heap.size → B ≤ b → Calls Tryz.prog 93 #[.pointer (some ⟨b, 0, none⟩), .agg #[.int .i64 1, .int .i64 core, .int .i64 fd, .int .i64 off, .int .i64 nu, .string pt, .string p2, .string dt]] ww fun e w' => e = .returned (resV 0 0 r) ∧ Below B ww w' ∧ Spared b ww w' ∧ ∃ iv' ov' mv', Blk w' b #[iv', ov', mv'] 26 ∧ StOwn B w' iv' ov' mv' S') :
 Calls Tryz.prog 64 #[.agg #[iv, ov, mv], .agg #[.int .i64 1, .int .i64 core, .int .i64 fd, .int .i64 off, .int .i64 nu, .string pt, .string p2, .string dt], .int .i64 (-1)] w fun e w' => ∃ iv' ov' mv', e = .returned (.tuple #[.agg #[iv', ov', mv'], resV 0 0 r, .bool true]) ∧ Below w.heap.size w w' ∧ StOwn w.heap.size w' iv' ov' mv' S' := by
 have h13 : ∀ ww, Below w.heap.size w ww → Calls Tryz.prog 30 #[.agg #[iv, ov, mv]] ww fun e w' => e = .returned (.bool true) ∧ Below ww.heap.size ww w' := fun ww hb => may13 S iv ov mv ww (h.below hb (Nat.le_refl _)) hwf hg
 have h54 : ∀ ww, Below w.heap.size w ww → Calls Tryz.prog 91 #[.agg #[iv, ov, mv]] ww fun e w' => ∃ iv' ov' mv', e = .returned (.agg #[iv', ov', mv']) ∧ Below ww.heap.size ww w' ∧ StOwn ww.heap.size w' iv' ov' mv' S := fun ww hb => copy54 S iv ov mv ww (h.below hb (Nat.le_refl _)) hwf
 obtain ⟨am, cm, rfl⟩ : ∃ am cm, mv = .slice am S.made.length cm := by
  obtain ⟨a, c, e, _⟩ := h.2.1.at_; rw [lM] at e; exact ⟨a, c, e⟩
 obtain ⟨ai, ni, ci, ao, no, co, am', nm', cm', rfl, rfl, -⟩ := h.slices
 have hc0n : ¬ core < 0 := by omega
 have hc1n : ¬ (S.made.length : Int) ≤ core := by omega
 have HIN := Lib.hid hin
 clear h hwf hg hin
 go_enter Tryz.func64, Tryz.ntmps64
 go_upto_region 5 with (first | (go_at_call 30; with_reducible refine aT (h13 _ (bel _ _)) fun p => ?_) | (go_at_call 91; (with_reducible refine (h54 _ (bel _ _)).mono ?_); rintro e w1 ⟨iv1, ov1, mv1, rfl, hb1, hs1⟩; have i1 : Bel w w1 := ⟨(bel w _).trans (hb1.mono (bel w _).size)⟩; have hC1 : Blk w1 (w.heap.size + 1) #[.int .i64 1, .int .i64 core, .int .i64 fd, .int .i64 off, .int .i64 nu, .string pt, .string p2, .string dt] 28 := blk_on (blk_on (Blk.new_i (w.alloc (.cells #[.slice ai ni ci, .slice ao no co, .slice am S.made.length cm] 26)) #[.int .i64 1, .int .i64 core, .int .i64 fd, .int .i64 off, .int .i64 nu, .string pt, .string p2, .string dt] 28 (w.heap.size + 1)) (bel _ _)) hb1; have hN1 : Blk w1 (w.heap.size + 1 + 1) #[.slice none 0 0, .slice none 0 0, .slice none 0 0] 26 := blk_on (blk_on (Blk.new_i ((w.alloc (.cells #[.slice ai ni ci, .slice ao no co, .slice am S.made.length cm] 26)).alloc (.cells #[.int .i64 1, .int .i64 core, .int .i64 fd, .int .i64 off, .int .i64 nu, .string pt, .string p2, .string dt] 28)) #[.slice none 0 0, .slice none 0 0, .slice none 0 0] 26 (w.heap.size + 1 + 1)) (bel _ _)) hb1; have hR1 : Blk w1 (w.heap.size + 1 + 1 + 1) #[.int .i64 0, .int .i64 0, .int .i64 0, .bool false, .string { data := #[] }, .slice none 0 0] 52 := blk_on (blk_on (Blk.new_i (((w.alloc (.cells #[.slice ai ni ci, .slice ao no co, .slice am S.made.length cm] 26)).alloc (.cells #[.int .i64 1, .int .i64 core, .int .i64 fd, .int .i64 off, .int .i64 nu, .string pt, .string p2, .string dt] 28)).alloc (.cells #[.slice none 0 0, .slice none 0 0, .slice none 0 0] 26)) #[.int .i64 0, .int .i64 0, .int .i64 0, .bool false, .string { data := #[] }, .slice none 0 0] 52 (w.heap.size + 1 + 1 + 1)) (bel _ _)) hb1; obtain ⟨a1, a2, a3, a4, a5, a6, a7, a8, a9, rfl, rfl, rfl⟩ := hs1.forms; have H1 := Lib.hid (And.intro (hs1.mono (B' := w.heap.size + 1 + 1 + 1 + 1) (by simp)) (And.intro hC1 (And.intro hN1 (And.intro hR1 i1.below)))); clear hb1 hs1 hC1 hN1 hR1))
 have hbl : w.heap.size + 1 + 1 + 1 + 1 ≤ w1.heap.size := by
  have := H1.out.2.2.2.1.lt.lt; omega
 refine abs_world (F := fun W => StOwn (w.heap.size + 1 + 1 + 1 + 1) W (.slice a1 a2 a3) (.slice a4 a5 a6) (.slice a7 a8 a9) S ∧ Blk W (w1.heap.size) #[.slice a1 a2 a3, .slice a4 a5 a6, .slice a7 a8 a9] 26 ∧ Blk W (w1.heap.size + 1) #[.int .i64 0, .int .i64 0, .int .i64 0, .bool false, .string { data := #[] }, .slice none 0 0] 52 ∧ Blk W (w.heap.size + 1) #[.int .i64 1, .int .i64 core, .int .i64 fd, .int .i64 off, .int .i64 nu, .string pt, .string p2, .string dt] 28 ∧ Blk W (w.heap.size + 1 + 1) #[.slice none 0 0, .slice none 0 0, .slice none 0 0] 26 ∧ Blk W (w.heap.size + 1 + 1 + 1) #[.int .i64 0, .int .i64 0, .int .i64 0, .bool false, .string { data := #[] }, .slice none 0 0] 52 ∧ Below w.heap.size w W) ⟨H1.out.1.on (bel w1 _), blk_on (Blk.new w1 #[.slice a1 a2 a3, .slice a4 a5 a6, .slice a7 a8 a9] 26) (bel _ _), Blk.new_i _ _ _ _, blk_on H1.out.2.1 (bel w1 _), blk_on H1.out.2.2.1 (bel w1 _), blk_on H1.out.2.2.2.1 (bel w1 _), H1.out.2.2.2.2.trans ((bel w1 _).mono H1.out.2.2.2.2.size)⟩ ?_
 clear H1 h13 h54 i1
 obtain ⟨b, hbn⟩ : ∃ b, w1.heap.size = b := ⟨_, rfl⟩
 rw [hbn] at hbl ⊢
 clear hbn
 rintro W ⟨ho, hb, hr, hC, hN, hR, hbw⟩
 have iB := hb.lt
 have iR := hr.lt
 have iC := hC.lt
 have c0 := hC.cell 0
 have c1 := hC.cell 1
 have c2 := hC.cell 2
 have c3 := hC.cell 3
 have c4 := hC.cell 4
 have c5 := hC.cell 5
 have c6 := hC.cell 6
 have c7 := hC.cell 7
 simp at c0 c1 c2 c3 c4 c5 c6 c7
 have hin := HIN.out (w.heap.size + 1 + 1 + 1 + 1) b _ _ _ W hb ho (by have := iB.lt; omega) hbl
 simp only [resV] at hin
 have HW := Lib.hid (And.intro hr (And.intro hN (And.intro hR hbw)))
 clear ho hb hr hC hN hR hbw
 go_upto_region 29 with (go_at_call 93; (with_reducible refine hin.mono ?_); rintro e w5 ⟨rfl, hb5, hp5, iv5, ov5, mv5, hk5, hs5⟩; have hr5 := hp5 _ _ _ HW.out.1 (by omega) (.inr (.inr rfl)); have iR5 := hr5.lt; have g0 := hr5.cell 0; have g1 := hr5.cell 1; have g2 := hr5.cell 2; have g3 := hr5.cell 3; have g4 := hr5.cell 4; have g5 := hr5.cell 5; have fz0 := hr5.frozen 0; have fz1 := hr5.frozen 1; have fz2 := hr5.frozen 2; have fz3 := hr5.frozen 3; have fz4 := hr5.frozen 4; have fz5 := hr5.frozen 5; simp at g0 g1 g2 g3 g4 g5; obtain ⟨b1, b2, b3, b4, b5, b6, b7, b8, b9, rfl, rfl, rfl⟩ := hs5.forms; have H5 := Lib.hid (And.intro hb5 (And.intro hp5 (And.intro hk5 (And.intro hs5 hr5)))); clear hb5 hp5 hk5 hs5 hr5)
 refine abs_world (F := fun W' => StOwn (w.heap.size + 1 + 1 + 1 + 1) W' (.slice b1 b2 b3) (.slice b4 b5 b6) (.slice b7 b8 b9) S' ∧ Blk W' b #[.slice b1 b2 b3, .slice b4 b5 b6, .slice b7 b8 b9] 26 ∧ Blk W' (b + 1) #[.int .i64 0, .int .i64 0, .int .i64 r, .bool false, .string { data := #[] }, .slice none 0 0] 52 ∧ Blk W' (w.heap.size + 1 + 1) #[.slice none 0 0, .slice none 0 0, .slice none 0 0] 26 ∧ Blk W' (w.heap.size + 1 + 1 + 1) #[.int .i64 0, .int .i64 0, .int .i64 0, .bool false, .string { data := #[] }, .slice none 0 0] 52 ∧ Below w.heap.size w W') ?_ ?_
 · obtain ⟨e1, e2, e3, e4, e5⟩ := H5.out; obtain ⟨f1, f2, f3, f4⟩ := HW.out; have kq := e2 _ _ _ f2 (by omega) (.inl rfl); have kr := e2 _ _ _ f3 (by omega) (.inr (.inr rfl)); have hbwz : Below w.heap.size w w5 := f4.trans (e1.mono (by omega)); have hK := keep46n (wz := w5) (r := b + 1) (a0 := .int .i64 0) (a1 := .int .i64 0) (a2 := .int .i64 r) (a3 := .bool false) (a4 := .string { data := #[] }) (a5 := .slice none 0 0); exact ⟨e4.keep hK (fun g hg => by rw [hg]; exact ⟨_, 52, e5, by decide, by decide, by decide, by decide⟩), hK.blk e3 (by omega), (((((e5.set_ 0 _).set_ 1 _).set_ 2 _).set_ 3 _).set_ 4 _).set_ 5 _, hK.blk kq (by omega), hK.blk kr (by omega), hbwz.trans (hK.below hbwz.size (fun i hi e => by omega))⟩
 clear HW H5 iB iR iC c0 c1 c2 c3 c4 c5 c6 c7 hin
 rintro W' ⟨ho, hb, hr, hN, hR, hbw⟩
 have iB := hb.lt
 have iR := hr.lt
 have iN := hN.lt
 have iS := hR.lt
 have d0 := hb.cell 0
 have d1 := hb.cell 1
 have d2 := hb.cell 2
 have g0 := hr.cell 0
 have g1 := hr.cell 1
 have g2 := hr.cell 2
 have g3 := hr.cell 3
 have g4 := hr.cell 4
 have g5 := hr.cell 5
 have u0 := hN.cell 0
 have u1 := hN.cell 1
 have u2 := hN.cell 2
 have fu0 := hN.frozen 0
 have fu1 := hN.frozen 1
 have fu2 := hN.frozen 2
 have v0 := hR.cell 0
 have v1 := hR.cell 1
 have v2 := hR.cell 2
 have v3 := hR.cell 3
 have v4 := hR.cell 4
 have v5 := hR.cell 5
 have fv0 := hR.frozen 0
 have fv1 := hR.frozen 1
 have fv2 := hR.frozen 2
 have fv3 := hR.frozen 3
 have fv4 := hR.frozen 4
 have fv5 := hR.frozen 5
 simp at d0 d1 d2 g0 g1 g2 g3 g4 g5 u0 u1 u2 v0 v1 v2 v3 v4 v5
 have n1 : ¬ b = w.heap.size + 1 + 1 := by omega
 have n2 : ¬ b = w.heap.size + 1 + 1 + 1 := by omega
 have n3 : ¬ b + 1 = w.heap.size + 1 + 1 := by omega
 have n4 : ¬ b + 1 = w.heap.size + 1 + 1 + 1 := by omega
 have n5 : ¬ w.heap.size + 1 + 1 = w.heap.size + 1 + 1 + 1 := by omega
 have n6 : ¬ w.heap.size + 1 + 1 + 1 = w.heap.size + 1 + 1 := by omega
 have n7 : ¬ w.heap.size + 1 + 1 = b := by omega
 have n8 : ¬ w.heap.size + 1 + 1 + 1 = b := by omega
 have n9 : ¬ w.heap.size + 1 + 1 = b + 1 := by omega
 have n10 : ¬ w.heap.size + 1 + 1 + 1 = b + 1 := by omega
 have HZ := Lib.hid (And.intro ho (And.intro hN (And.intro hR hbw)))
 clear ho hb hr hN hR hbw
 go_wp2_with fail
 refine wp_region_eff [2, 3] true (fun w' => w'.cell? ⟨b, 0, none⟩ = some (.slice b1 b2 b3) ∧ w'.cell? ⟨b, 1, none⟩ = some (.slice b4 b5 b6) ∧ w'.cell? ⟨b, 2, none⟩ = some (.slice b7 b8 b9) ∧ w'.cell? ⟨b + 1, 0, none⟩ = some (.int .i64 0) ∧ w'.cell? ⟨b + 1, 1, none⟩ = some (.int .i64 0) ∧ w'.cell? ⟨b + 1, 2, none⟩ = some (.int .i64 r) ∧ w'.cell? ⟨b + 1, 3, none⟩ = some (.bool false) ∧ w'.cell? ⟨b + 1, 4, none⟩ = some (.string { data := #[] }) ∧ w'.cell? ⟨b + 1, 5, none⟩ = some (.slice none 0 0)) (by kernel_rfl) (by kernel_rfl) ?_ ?_
 · (try dsimp only); (repeat' apply And.intro) <;> go_simp
 repeat
  refine wpL_look rfl rfl ?_; apply Exists.intro; refine ⟨?_, ?_⟩
  focus
   rintro w' ⟨s0, s1, s2, s3, s4, s5, s6, s7, s8⟩; go_simp
   first | done | rfl
  simp only [Act.put, sA, sZ, sS]
 refine wpL_skip rfl rfl ?_
 apply Exists.intro
 refine ⟨?_, ?_, ?_⟩
 focus
  go_simp
  first | done | rfl
 focus
  refine .inl ?_
  (try dsimp only); (repeat' apply And.intro) <;> go_simp
 simp only [Act.put, sA, sZ, sS]
 refine wpL_skip rfl rfl ?_
 apply Exists.intro
 refine ⟨?_, ?_, ?_⟩
 focus
  go_simp
  first | done | rfl
 focus
  refine .inl ?_
  (try dsimp only); (repeat' apply And.intro) <;> go_simp
 simp only [Act.put, sA, sZ, sS]
 repeat
  refine wpL_look rfl rfl ?_; apply Exists.intro; refine ⟨?_, ?_⟩
  focus
   rintro w' ⟨s0, s1, s2, s3, s4, s5, s6, s7, s8⟩; go_simp
   first | done | rfl
  simp only [Act.put, sA, sZ, sS]
 refine wpL_end ?_
 go_wp2_with fail
 have hK := keep9 (wz := W') (q := w.heap.size + 1 + 1) (r := w.heap.size + 1 + 1 + 1) (c0 := .slice b1 b2 b3) (c1 := .slice b4 b5 b6) (c2 := .slice b7 b8 b9) (a0 := .int .i64 0) (a1 := .int .i64 0) (a2 := .int .i64 r) (a3 := .bool false) (a4 := .string { data := #[] }) (a5 := .slice none 0 0)
 have hfin := HZ.out.1.keep hK (fun g hg => by
  rcases hg with rfl | rfl
  · exact ⟨_, 26, HZ.out.2.1, by decide, by decide, by decide, by decide⟩
  · exact ⟨_, 52, HZ.out.2.2.1, by decide, by decide, by decide, by decide⟩)
 have hbf := HZ.out.2.2.2.trans (hK.below HZ.out.2.2.2.size (fun i hi e => by omega))
 exact bodyPost_ret (v := .tuple #[.agg #[.slice b1 b2 b3, .slice b4 b5 b6, .slice b7 b8 b9], resV 0 0 r, .bool true]) (by unfold results; simp only [Tryz.results64, resV]; go_simp) rfl ⟨_, _, _, rfl, hbf, hfin.mono (by omega)⟩
theorem do34_2 (S S' : PSt) (iv ov mv : Value) (core fd off nu r : Int) (pt p2 dt : ByteArray) (w : World) (h : StRead w iv ov mv S) (hwf : S.wf) (hg : mayG S = true) (hc0 : 0 ≤ core) (hc1 : core < S.made.length)
 (hin : ∀ B b iv' ov' mv' ww, Blk ww b #[iv', ov', mv'] 26 → StOwn B ww iv' ov' mv' S → B ≤ ww.heap.size → B ≤ b → Calls Tryz.prog 94 #[.pointer (some ⟨b, 0, none⟩), .agg #[.int .i64 2, .int .i64 core, .int .i64 fd, .int .i64 off, .int .i64 nu, .string pt, .string p2, .string dt], .int .i64 (-1)] ww fun e w' => e = .returned (.tuple #[resV 0 0 r, .bool true]) ∧ Below B ww w' ∧ Spared b ww w' ∧ ∃ iv' ov' mv', Blk w' b #[iv', ov', mv'] 26 ∧ StOwn B w' iv' ov' mv' S') :
 Calls Tryz.prog 64 #[.agg #[iv, ov, mv], .agg #[.int .i64 2, .int .i64 core, .int .i64 fd, .int .i64 off, .int .i64 nu, .string pt, .string p2, .string dt], .int .i64 (-1)] w fun e w' => ∃ iv' ov' mv', e = .returned (.tuple #[.agg #[iv', ov', mv'], resV 0 0 r, .bool true]) ∧ Below w.heap.size w w' ∧ StOwn w.heap.size w' iv' ov' mv' S' := by
 have h13 : ∀ ww, Below w.heap.size w ww → Calls Tryz.prog 30 #[.agg #[iv, ov, mv]] ww fun e w' => e = .returned (.bool true) ∧ Below ww.heap.size ww w' := fun ww hb => may13 S iv ov mv ww (h.below hb (Nat.le_refl _)) hwf hg
 have h54 : ∀ ww, Below w.heap.size w ww → Calls Tryz.prog 91 #[.agg #[iv, ov, mv]] ww fun e w' => ∃ iv' ov' mv', e = .returned (.agg #[iv', ov', mv']) ∧ Below ww.heap.size ww w' ∧ StOwn ww.heap.size w' iv' ov' mv' S := fun ww hb => copy54 S iv ov mv ww (h.below hb (Nat.le_refl _)) hwf
 obtain ⟨am, cm, rfl⟩ : ∃ am cm, mv = .slice am S.made.length cm := by
  obtain ⟨a, c, e, _⟩ := h.2.1.at_; rw [lM] at e; exact ⟨a, c, e⟩
 obtain ⟨ai, ni, ci, ao, no, co, am', nm', cm', rfl, rfl, -⟩ := h.slices
 have hc0n : ¬ core < 0 := by omega
 have hc1n : ¬ (S.made.length : Int) ≤ core := by omega
 have HIN := Lib.hid hin
 clear h hwf hg hin
 go_enter Tryz.func64, Tryz.ntmps64
 go_upto_region 5 with (first | (go_at_call 30; with_reducible refine aT (h13 _ (bel _ _)) fun p => ?_) | (go_at_call 91; (with_reducible refine (h54 _ (bel _ _)).mono ?_); rintro e w1 ⟨iv1, ov1, mv1, rfl, hb1, hs1⟩; have i1 : Bel w w1 := ⟨(bel w _).trans (hb1.mono (bel w _).size)⟩; have hC1 : Blk w1 (w.heap.size + 1) #[.int .i64 2, .int .i64 core, .int .i64 fd, .int .i64 off, .int .i64 nu, .string pt, .string p2, .string dt] 28 := blk_on (blk_on (Blk.new_i (w.alloc (.cells #[.slice ai ni ci, .slice ao no co, .slice am S.made.length cm] 26)) #[.int .i64 2, .int .i64 core, .int .i64 fd, .int .i64 off, .int .i64 nu, .string pt, .string p2, .string dt] 28 (w.heap.size + 1)) (bel _ _)) hb1; have hN1 : Blk w1 (w.heap.size + 1 + 1) #[.slice none 0 0, .slice none 0 0, .slice none 0 0] 26 := blk_on (blk_on (Blk.new_i ((w.alloc (.cells #[.slice ai ni ci, .slice ao no co, .slice am S.made.length cm] 26)).alloc (.cells #[.int .i64 2, .int .i64 core, .int .i64 fd, .int .i64 off, .int .i64 nu, .string pt, .string p2, .string dt] 28)) #[.slice none 0 0, .slice none 0 0, .slice none 0 0] 26 (w.heap.size + 1 + 1)) (bel _ _)) hb1; have hR1 : Blk w1 (w.heap.size + 1 + 1 + 1) #[.int .i64 0, .int .i64 0, .int .i64 0, .bool false, .string { data := #[] }, .slice none 0 0] 52 := blk_on (blk_on (Blk.new_i (((w.alloc (.cells #[.slice ai ni ci, .slice ao no co, .slice am S.made.length cm] 26)).alloc (.cells #[.int .i64 2, .int .i64 core, .int .i64 fd, .int .i64 off, .int .i64 nu, .string pt, .string p2, .string dt] 28)).alloc (.cells #[.slice none 0 0, .slice none 0 0, .slice none 0 0] 26)) #[.int .i64 0, .int .i64 0, .int .i64 0, .bool false, .string { data := #[] }, .slice none 0 0] 52 (w.heap.size + 1 + 1 + 1)) (bel _ _)) hb1; obtain ⟨a1, a2, a3, a4, a5, a6, a7, a8, a9, rfl, rfl, rfl⟩ := hs1.forms; have H1 := Lib.hid (And.intro (hs1.mono (B' := w.heap.size + 1 + 1 + 1 + 1) (by simp)) (And.intro hC1 (And.intro hN1 (And.intro hR1 i1.below)))); clear hb1 hs1 hC1 hN1 hR1))
 have hbl : w.heap.size + 1 + 1 + 1 + 1 ≤ w1.heap.size := by
  have := H1.out.2.2.2.1.lt.lt; omega
 refine abs_world (F := fun W => StOwn (w.heap.size + 1 + 1 + 1 + 1) W (.slice a1 a2 a3) (.slice a4 a5 a6) (.slice a7 a8 a9) S ∧ Blk W (w1.heap.size) #[.slice a1 a2 a3, .slice a4 a5 a6, .slice a7 a8 a9] 26 ∧ Blk W (w1.heap.size + 1) #[.int .i64 0, .int .i64 0, .int .i64 0, .bool false, .string { data := #[] }, .slice none 0 0] 52 ∧ Blk W (w.heap.size + 1) #[.int .i64 2, .int .i64 core, .int .i64 fd, .int .i64 off, .int .i64 nu, .string pt, .string p2, .string dt] 28 ∧ Blk W (w.heap.size + 1 + 1) #[.slice none 0 0, .slice none 0 0, .slice none 0 0] 26 ∧ Blk W (w.heap.size + 1 + 1 + 1) #[.int .i64 0, .int .i64 0, .int .i64 0, .bool false, .string { data := #[] }, .slice none 0 0] 52 ∧ Below w.heap.size w W) ⟨H1.out.1.on (bel w1 _), blk_on (Blk.new w1 #[.slice a1 a2 a3, .slice a4 a5 a6, .slice a7 a8 a9] 26) (bel _ _), Blk.new_i _ _ _ _, blk_on H1.out.2.1 (bel w1 _), blk_on H1.out.2.2.1 (bel w1 _), blk_on H1.out.2.2.2.1 (bel w1 _), H1.out.2.2.2.2.trans ((bel w1 _).mono H1.out.2.2.2.2.size)⟩ ?_
 clear H1 h13 h54 i1
 obtain ⟨b, hbn⟩ : ∃ b, w1.heap.size = b := ⟨_, rfl⟩
 rw [hbn] at hbl ⊢
 clear hbn
 rintro W ⟨ho, hb, hr, hC, hN, hR, hbw⟩
 have iB := hb.lt
 have iR := hr.lt
 have iC := hC.lt
 have c0 := hC.cell 0
 have c1 := hC.cell 1
 have c2 := hC.cell 2
 have c3 := hC.cell 3
 have c4 := hC.cell 4
 have c5 := hC.cell 5
 have c6 := hC.cell 6
 have c7 := hC.cell 7
 simp at c0 c1 c2 c3 c4 c5 c6 c7
 have hin := HIN.out (w.heap.size + 1 + 1 + 1 + 1) b _ _ _ W hb ho (by have := iB.lt; omega) hbl
 simp only [resV] at hin
 have HW := Lib.hid (And.intro hr (And.intro hN (And.intro hR hbw)))
 clear ho hb hr hC hN hR hbw
 go_upto_region 29 with (go_at_call 94; (with_reducible refine hin.mono ?_); rintro e w5 ⟨rfl, hb5, hp5, iv5, ov5, mv5, hk5, hs5⟩; have hr5 := hp5 _ _ _ HW.out.1 (by omega) (.inr (.inr rfl)); have iR5 := hr5.lt; have g0 := hr5.cell 0; have g1 := hr5.cell 1; have g2 := hr5.cell 2; have g3 := hr5.cell 3; have g4 := hr5.cell 4; have g5 := hr5.cell 5; have fz0 := hr5.frozen 0; have fz1 := hr5.frozen 1; have fz2 := hr5.frozen 2; have fz3 := hr5.frozen 3; have fz4 := hr5.frozen 4; have fz5 := hr5.frozen 5; simp at g0 g1 g2 g3 g4 g5; obtain ⟨b1, b2, b3, b4, b5, b6, b7, b8, b9, rfl, rfl, rfl⟩ := hs5.forms; have H5 := Lib.hid (And.intro hb5 (And.intro hp5 (And.intro hk5 (And.intro hs5 hr5)))); clear hb5 hp5 hk5 hs5 hr5)
 refine abs_world (F := fun W' => StOwn (w.heap.size + 1 + 1 + 1 + 1) W' (.slice b1 b2 b3) (.slice b4 b5 b6) (.slice b7 b8 b9) S' ∧ Blk W' b #[.slice b1 b2 b3, .slice b4 b5 b6, .slice b7 b8 b9] 26 ∧ Blk W' (b + 1) #[.int .i64 0, .int .i64 0, .int .i64 r, .bool false, .string { data := #[] }, .slice none 0 0] 52 ∧ Blk W' (w.heap.size + 1 + 1) #[.slice none 0 0, .slice none 0 0, .slice none 0 0] 26 ∧ Blk W' (w.heap.size + 1 + 1 + 1) #[.int .i64 0, .int .i64 0, .int .i64 0, .bool false, .string { data := #[] }, .slice none 0 0] 52 ∧ Below w.heap.size w W') ?_ ?_
 · obtain ⟨e1, e2, e3, e4, e5⟩ := H5.out; obtain ⟨f1, f2, f3, f4⟩ := HW.out; have kq := e2 _ _ _ f2 (by omega) (.inl rfl); have kr := e2 _ _ _ f3 (by omega) (.inr (.inr rfl)); have hbwz : Below w.heap.size w w5 := f4.trans (e1.mono (by omega)); have hK := keep46n (wz := w5) (r := b + 1) (a0 := .int .i64 0) (a1 := .int .i64 0) (a2 := .int .i64 r) (a3 := .bool false) (a4 := .string { data := #[] }) (a5 := .slice none 0 0); have hK := hK.alloc (.cells #[.int .i64 0, .int .i64 0, .int .i64 r, .bool false, .string { data := #[] }, .slice none 0 0] 52); exact ⟨e4.keep hK (fun g hg => by rw [hg]; exact ⟨_, 52, e5, by decide, by decide, by decide, by decide⟩), hK.blk e3 (by omega), Blk.alloc ((((((e5.set_ 0 _).set_ 1 _).set_ 2 _).set_ 3 _).set_ 4 _).set_ 5 _) _, hK.blk kq (by omega), hK.blk kr (by omega), hbwz.trans (hK.below hbwz.size (fun i hi e => by omega))⟩
 clear HW H5 iB iR iC c0 c1 c2 c3 c4 c5 c6 c7 hin
 rintro W' ⟨ho, hb, hr, hN, hR, hbw⟩
 have iB := hb.lt
 have iR := hr.lt
 have iN := hN.lt
 have iS := hR.lt
 have d0 := hb.cell 0
 have d1 := hb.cell 1
 have d2 := hb.cell 2
 have g0 := hr.cell 0
 have g1 := hr.cell 1
 have g2 := hr.cell 2
 have g3 := hr.cell 3
 have g4 := hr.cell 4
 have g5 := hr.cell 5
 have u0 := hN.cell 0
 have u1 := hN.cell 1
 have u2 := hN.cell 2
 have fu0 := hN.frozen 0
 have fu1 := hN.frozen 1
 have fu2 := hN.frozen 2
 have v0 := hR.cell 0
 have v1 := hR.cell 1
 have v2 := hR.cell 2
 have v3 := hR.cell 3
 have v4 := hR.cell 4
 have v5 := hR.cell 5
 have fv0 := hR.frozen 0
 have fv1 := hR.frozen 1
 have fv2 := hR.frozen 2
 have fv3 := hR.frozen 3
 have fv4 := hR.frozen 4
 have fv5 := hR.frozen 5
 simp at d0 d1 d2 g0 g1 g2 g3 g4 g5 u0 u1 u2 v0 v1 v2 v3 v4 v5
 have n1 : ¬ b = w.heap.size + 1 + 1 := by omega
 have n2 : ¬ b = w.heap.size + 1 + 1 + 1 := by omega
 have n3 : ¬ b + 1 = w.heap.size + 1 + 1 := by omega
 have n4 : ¬ b + 1 = w.heap.size + 1 + 1 + 1 := by omega
 have n5 : ¬ w.heap.size + 1 + 1 = w.heap.size + 1 + 1 + 1 := by omega
 have n6 : ¬ w.heap.size + 1 + 1 + 1 = w.heap.size + 1 + 1 := by omega
 have n7 : ¬ w.heap.size + 1 + 1 = b := by omega
 have n8 : ¬ w.heap.size + 1 + 1 + 1 = b := by omega
 have n9 : ¬ w.heap.size + 1 + 1 = b + 1 := by omega
 have n10 : ¬ w.heap.size + 1 + 1 + 1 = b + 1 := by omega
 have HZ := Lib.hid (And.intro ho (And.intro hN (And.intro hR hbw)))
 clear ho hb hr hN hR hbw
 go_wp2_with fail
 refine wp_region_eff [2, 3] true (fun w' => w'.cell? ⟨b, 0, none⟩ = some (.slice b1 b2 b3) ∧ w'.cell? ⟨b, 1, none⟩ = some (.slice b4 b5 b6) ∧ w'.cell? ⟨b, 2, none⟩ = some (.slice b7 b8 b9) ∧ w'.cell? ⟨b + 1, 0, none⟩ = some (.int .i64 0) ∧ w'.cell? ⟨b + 1, 1, none⟩ = some (.int .i64 0) ∧ w'.cell? ⟨b + 1, 2, none⟩ = some (.int .i64 r) ∧ w'.cell? ⟨b + 1, 3, none⟩ = some (.bool false) ∧ w'.cell? ⟨b + 1, 4, none⟩ = some (.string { data := #[] }) ∧ w'.cell? ⟨b + 1, 5, none⟩ = some (.slice none 0 0)) (by kernel_rfl) (by kernel_rfl) ?_ ?_
 · (try dsimp only); (repeat' apply And.intro) <;> go_simp
 repeat
  refine wpL_look rfl rfl ?_; apply Exists.intro; refine ⟨?_, ?_⟩
  focus
   rintro w' ⟨s0, s1, s2, s3, s4, s5, s6, s7, s8⟩; go_simp
   first | done | rfl
  simp only [Act.put, sA, sZ, sS]
 refine wpL_skip rfl rfl ?_
 apply Exists.intro
 refine ⟨?_, ?_, ?_⟩
 focus
  go_simp
  first | done | rfl
 focus
  refine .inl ?_
  (try dsimp only); (repeat' apply And.intro) <;> go_simp
 simp only [Act.put, sA, sZ, sS]
 refine wpL_skip rfl rfl ?_
 apply Exists.intro
 refine ⟨?_, ?_, ?_⟩
 focus
  go_simp
  first | done | rfl
 focus
  refine .inl ?_
  (try dsimp only); (repeat' apply And.intro) <;> go_simp
 simp only [Act.put, sA, sZ, sS]
 repeat
  refine wpL_look rfl rfl ?_; apply Exists.intro; refine ⟨?_, ?_⟩
  focus
   rintro w' ⟨s0, s1, s2, s3, s4, s5, s6, s7, s8⟩; go_simp
   first | done | rfl
  simp only [Act.put, sA, sZ, sS]
 refine wpL_end ?_
 go_wp2_with fail
 have hK := keep9 (wz := W') (q := w.heap.size + 1 + 1) (r := w.heap.size + 1 + 1 + 1) (c0 := .slice b1 b2 b3) (c1 := .slice b4 b5 b6) (c2 := .slice b7 b8 b9) (a0 := .int .i64 0) (a1 := .int .i64 0) (a2 := .int .i64 r) (a3 := .bool false) (a4 := .string { data := #[] }) (a5 := .slice none 0 0)
 have hfin := HZ.out.1.keep hK (fun g hg => by
  rcases hg with rfl | rfl
  · exact ⟨_, 26, HZ.out.2.1, by decide, by decide, by decide, by decide⟩
  · exact ⟨_, 52, HZ.out.2.2.1, by decide, by decide, by decide, by decide⟩)
 have hbf := HZ.out.2.2.2.trans (hK.below HZ.out.2.2.2.size (fun i hi e => by omega))
 exact bodyPost_ret (v := .tuple #[.agg #[.slice b1 b2 b3, .slice b4 b5 b6, .slice b7 b8 b9], resV 0 0 r, .bool true]) (by unfold results; simp only [Tryz.results64, resV]; go_simp) rfl ⟨_, _, _, rfl, hbf, hfin.mono (by omega)⟩
theorem ref15 (S S' : PSt) (iv ov mv : Value) (kd core fd off nu r : Int) (pt p2 dt : ByteArray) (w : World) (h : StRead w iv ov mv S)
 (hin : ∀ ww, Below w.heap.size w ww → Calls Tryz.prog 64 #[.agg #[iv, ov, mv], .agg #[.int .i64 kd, .int .i64 core, .int .i64 fd, .int .i64 off, .int .i64 nu, .string pt, .string p2, .string dt], .int .i64 (-1)] ww fun e w' => ∃ iv' ov' mv', e = .returned (.tuple #[.agg #[iv', ov', mv'], resV 0 0 r, .bool true]) ∧ Below ww.heap.size ww w' ∧ StOwn ww.heap.size w' iv' ov' mv' S') :
 Calls Tryz.prog 31 #[.agg #[iv, ov, mv], .agg #[.int .i64 kd, .int .i64 core, .int .i64 fd, .int .i64 off, .int .i64 nu, .string pt, .string p2, .string dt]] w fun e w' => ∃ iv' ov' mv', e = .returned (.tuple #[.agg #[iv', ov', mv'], resV 0 0 r]) ∧ Below w.heap.size w w' ∧ StOwn w.heap.size w' iv' ov' mv' S' := by
 obtain ⟨ai, ni, ci, ao, no, co, am, nm, cm, rfl, rfl, rfl⟩ := h.slices
 clear h
 simp only [resV] at hin ⊢
 go_enter Tryz.func31, Tryz.ntmps31
 go_upto_region 2 with (go_at_call 64; (with_reducible refine (hin _ (bel _ _)).mono ?_); rintro e w1 ⟨iv1, ov1, mv1, rfl, hb1, hs1⟩; obtain ⟨a1, a2, a3, a4, a5, a6, a7, a8, a9, rfl, rfl, rfl⟩ := hs1.forms; obtain ⟨p, rfl⟩ := hb1.rest; have H1 := Lib.hid (hs1.mono (B' := w.heap.size + 1 + 1 + 1 + 1) (by simp)); clear hs1 hb1)
 refine abs_world (F := fun W => StOwn (w.heap.size + 1 + 1 + 1 + 1) W (.slice a1 a2 a3) (.slice a4 a5 a6) (.slice a7 a8 a9) S' ∧ Blk W (w.heap.size + 1 + 1 + 1 + 1 + p.len) #[.slice a1 a2 a3, .slice a4 a5 a6, .slice a7 a8 a9] 26 ∧ Blk W (w.heap.size + 1 + 1 + 1 + 1 + p.len + 1) #[.int .i64 0, .int .i64 0, .int .i64 r, .bool false, .string { data := #[] }, .slice none 0 0] 52 ∧ Blk W (w.heap.size + 1 + 1) #[.slice none 0 0, .slice none 0 0, .slice none 0 0] 26 ∧ Blk W (w.heap.size + 1 + 1 + 1) #[.int .i64 0, .int .i64 0, .int .i64 0, .bool false, .string { data := #[] }, .slice none 0 0] 52 ∧ Below w.heap.size w W) ⟨H1.out.on (bel _ _), Blk.alloc (Blk.new_i _ _ _ _) _, Blk.new_i _ _ _ _, blk_on (Blk.new_i ((w.alloc (.cells #[.slice ai ni ci, .slice ao no co, .slice am nm cm] 26)).alloc (.cells #[.int .i64 kd, .int .i64 core, .int .i64 fd, .int .i64 off, .int .i64 nu, .string pt, .string p2, .string dt] 28)) #[.slice none 0 0, .slice none 0 0, .slice none 0 0] 26 (w.heap.size + 1 + 1)) (bel _ _), blk_on (Blk.new_i (((w.alloc (.cells #[.slice ai ni ci, .slice ao no co, .slice am nm cm] 26)).alloc (.cells #[.int .i64 kd, .int .i64 core, .int .i64 fd, .int .i64 off, .int .i64 nu, .string pt, .string p2, .string dt] 28)).alloc (.cells #[.slice none 0 0, .slice none 0 0, .slice none 0 0] 26)) #[.int .i64 0, .int .i64 0, .int .i64 0, .bool false, .string { data := #[] }, .slice none 0 0] 52 (w.heap.size + 1 + 1 + 1)) (bel _ _), bel w _⟩ ?_
 clear H1 hin
 obtain ⟨b, hbn⟩ : ∃ b, w.heap.size + 1 + 1 + 1 + 1 + p.len = b := ⟨_, rfl⟩
 have hbl : w.heap.size + 1 + 1 + 1 + 1 ≤ b := by omega
 rw [hbn]
 clear hbn
 rintro W' ⟨ho, hb, hr, hN, hR, hbw⟩
 have iB := hb.lt
 have iR := hr.lt
 have iN := hN.lt
 have iS := hR.lt
 have d0 := hb.cell 0
 have d1 := hb.cell 1
 have d2 := hb.cell 2
 have g0 := hr.cell 0
 have g1 := hr.cell 1
 have g2 := hr.cell 2
 have g3 := hr.cell 3
 have g4 := hr.cell 4
 have g5 := hr.cell 5
 have u0 := hN.cell 0
 have u1 := hN.cell 1
 have u2 := hN.cell 2
 have fu0 := hN.frozen 0
 have fu1 := hN.frozen 1
 have fu2 := hN.frozen 2
 have v0 := hR.cell 0
 have v1 := hR.cell 1
 have v2 := hR.cell 2
 have v3 := hR.cell 3
 have v4 := hR.cell 4
 have v5 := hR.cell 5
 have fv0 := hR.frozen 0
 have fv1 := hR.frozen 1
 have fv2 := hR.frozen 2
 have fv3 := hR.frozen 3
 have fv4 := hR.frozen 4
 have fv5 := hR.frozen 5
 simp at d0 d1 d2 g0 g1 g2 g3 g4 g5 u0 u1 u2 v0 v1 v2 v3 v4 v5
 have n1 : ¬ b = w.heap.size + 1 + 1 := by omega
 have n2 : ¬ b = w.heap.size + 1 + 1 + 1 := by omega
 have n3 : ¬ b + 1 = w.heap.size + 1 + 1 := by omega
 have n4 : ¬ b + 1 = w.heap.size + 1 + 1 + 1 := by omega
 have n5 : ¬ w.heap.size + 1 + 1 = w.heap.size + 1 + 1 + 1 := by omega
 have n6 : ¬ w.heap.size + 1 + 1 + 1 = w.heap.size + 1 + 1 := by omega
 have n7 : ¬ w.heap.size + 1 + 1 = b := by omega
 have n8 : ¬ w.heap.size + 1 + 1 + 1 = b := by omega
 have n9 : ¬ w.heap.size + 1 + 1 = b + 1 := by omega
 have n10 : ¬ w.heap.size + 1 + 1 + 1 = b + 1 := by omega
 have HZ := Lib.hid (And.intro ho (And.intro hN (And.intro hR hbw)))
 clear ho hb hr hN hR hbw
 refine wp_region_eff [2, 3] true (fun w' => w'.cell? ⟨b, 0, none⟩ = some (.slice a1 a2 a3) ∧ w'.cell? ⟨b, 1, none⟩ = some (.slice a4 a5 a6) ∧ w'.cell? ⟨b, 2, none⟩ = some (.slice a7 a8 a9) ∧ w'.cell? ⟨b + 1, 0, none⟩ = some (.int .i64 0) ∧ w'.cell? ⟨b + 1, 1, none⟩ = some (.int .i64 0) ∧ w'.cell? ⟨b + 1, 2, none⟩ = some (.int .i64 r) ∧ w'.cell? ⟨b + 1, 3, none⟩ = some (.bool false) ∧ w'.cell? ⟨b + 1, 4, none⟩ = some (.string { data := #[] }) ∧ w'.cell? ⟨b + 1, 5, none⟩ = some (.slice none 0 0)) (by kernel_rfl) (by kernel_rfl) ?_ ?_
 · (try dsimp only); (repeat' apply And.intro) <;> go_simp
 repeat
  refine wpL_look rfl rfl ?_; apply Exists.intro; refine ⟨?_, ?_⟩
  focus
   rintro w' ⟨s0, s1, s2, s3, s4, s5, s6, s7, s8⟩; go_simp
   first | done | rfl
  simp only [Act.put, sA, sZ, sS]
 refine wpL_skip rfl rfl ?_
 apply Exists.intro
 refine ⟨?_, ?_, ?_⟩
 focus
  go_simp
  first | done | rfl
 focus
  refine .inl ?_
  (try dsimp only); (repeat' apply And.intro) <;> go_simp
 simp only [Act.put, sA, sZ, sS]
 refine wpL_skip rfl rfl ?_
 apply Exists.intro
 refine ⟨?_, ?_, ?_⟩
 focus
  go_simp
  first | done | rfl
 focus
  exact .inr ⟨rfl, rfl⟩
 simp only [Act.put, sA, sZ, sS]
 refine wpL_end ?_
 go_wp2_with fail
 have hK := keep9 (wz := W') (q := w.heap.size + 1 + 1) (r := w.heap.size + 1 + 1 + 1) (c0 := .slice a1 a2 a3) (c1 := .slice a4 a5 a6) (c2 := .slice a7 a8 a9) (a0 := .int .i64 0) (a1 := .int .i64 0) (a2 := .int .i64 r) (a3 := .bool false) (a4 := .string { data := #[] }) (a5 := .slice none 0 0)
 have hfin := HZ.out.1.keep hK (fun g hg => by
  rcases hg with rfl | rfl
  · exact ⟨_, 26, HZ.out.2.1, by decide, by decide, by decide, by decide⟩
  · exact ⟨_, 52, HZ.out.2.2.1, by decide, by decide, by decide, by decide⟩)
 have hbf := HZ.out.2.2.2.trans (hK.below HZ.out.2.2.2.size (fun i hi e => by omega))
 exact bodyPost_ret (v := .tuple #[.agg #[.slice a1 a2 a3, .slice a4 a5 a6, .slice a7 a8 a9], resV 0 0 r]) (by unfold results; simp only [Tryz.results31, resV]; go_simp) rfl ⟨_, _, _, rfl, hbf, hfin.mono (by omega)⟩
theorem new11o (n : Nat) (h1 : 1 ≤ n) (h8 : n ≤ 8) (w : World) :
 Calls Tryz.prog 51 #[.int .i64 n] w fun e w' => ∃ iv ov mv, e = .returned (.tuple #[.agg #[iv, ov, mv], .int .i64 0]) ∧ Below w.heap.size w w' ∧ StOwn w.heap.size w' iv ov mv (newSt n) := by
 obtain ⟨i0, hi, hz0, hz1, hz2⟩ := info_parts info3
 have hmk : ∀ u : World, (Instr.makeSlice 24 (.int .i64 n) (.int .i64 n)).run Tryz.prog u = .ok (.slice (some ⟨u.heap.size, 0, none⟩) n n) (u.alloc (.cells ((List.replicate n (0 : Int)).map fun x => Value.int .i64 x).toArray 3)) := fun u => by
  have := run_makeSlice (P := Tryz.prog) u 24 3 i0 _ Tryz.underlying24 hi hz0 .i64 .i64 n n (by omega) (Int.le_refl _) (by rw [hz1]; omega) (by rw [hz2]; omega) (by omega); rw [← made_map' (fun x => Value.int .i64 x)]; simpa [hz1, Value.cells] using this
 have g1 : ¬ (n : Int) < 1 := by omega
 have g2 : ¬ (8 : Int) < n := by omega
 go_enter Tryz.func51, Tryz.ntmps51
 go_wp2_with fail
 have hb3 : Blk (((w.alloc (.cells #[.slice (some ⟨w.heap.size + 1, 0, none⟩) 1 1, .slice none 0 0, .slice (some ⟨w.heap.size + 1 + 1, 0, none⟩) n n] 26)).alloc (.cells #[.int .i64 1, .bool true, .slice none 0 0, .string { data := #[] }] 68)).alloc (.cells (Array.replicate n (.int .i64 0)) 3)) (w.heap.size + 1 + 1) (Array.replicate n (.int .i64 0)) 3 := Blk.new_i ((w.alloc (.cells #[.slice (some ⟨w.heap.size + 1, 0, none⟩) 1 1, .slice none 0 0, .slice (some ⟨w.heap.size + 1 + 1, 0, none⟩) n n] 26)).alloc (.cells #[.int .i64 1, .bool true, .slice none 0 0, .string { data := #[] }] 68)) _ _ _
 have hb : Blk ((((w.alloc (.cells #[.slice (some ⟨w.heap.size + 1, 0, none⟩) 1 1, .slice none 0 0, .slice (some ⟨w.heap.size + 1 + 1, 0, none⟩) n n] 26)).alloc (.cells #[.int .i64 1, .bool true, .slice none 0 0, .string { data := #[] }] 68))).alloc (.cells (Array.replicate n (.int .i64 0)) 3)) (w.heap.size + 1) #[.int .i64 1, .bool true, .slice none 0 0, .string { data := #[] }] 68 := (Blk.new_i (w.alloc (.cells #[.slice (some ⟨w.heap.size + 1, 0, none⟩) 1 1, .slice none 0 0, .slice (some ⟨w.heap.size + 1 + 1, 0, none⟩) n n] 26)) _ _ _).alloc _
 refine bodyPost_ret (v := .tuple #[.agg #[.slice (some ⟨w.heap.size + 1, 0, none⟩) 1 1, .slice none 0 0, .slice (some ⟨w.heap.size + 1 + 1, 0, none⟩) n n], .int .i64 0]) (by unfold results; simp only [Tryz.results51]; go_simp) rfl ⟨_, _, _, rfl, bel _ _, ?_⟩
 have e : ((List.replicate n (0 : Int)).map fun x => Value.int .i64 x).toArray = Array.replicate n (.int .i64 0) := by simp
 first | rw [e] | skip
 refine ⟨.inl ⟨rfl, rfl⟩, .inr ⟨w.heap.size + 1 + 1, n, Array.replicate n (.int .i64 0), ?_, by omega, hb3, ?_, ?_, ?_, ?_⟩, [⟨1, true, .slice none 0 0, { data := #[] }, rfl⟩], .inr ⟨w.heap.size + 1, 1, _, rfl, by omega, hb, by simp, by unfold maxLen; omega, rfl, ?_⟩, rfl, ?_, ?_⟩
 · simp [newSt]
 · simp [newSt]
 · unfold maxLen; omega
 · simp
 · intro q cs hq t u hu; rw [gM] at hq; obtain ⟨x, hx, rfl⟩ := Option.map_eq_some_iff.1 hq; have hx2 : (List.replicate n (0 : Int))[q]? = some x := hx; obtain ⟨hl, hx3⟩ := gI.1 hx2; rw [List.getElem_replicate] at hx3; subst hx3; rw [List.length_replicate] at hl; rcases t with _ | t
   · simp only [intCells, List.getElem?_cons_zero, Option.some.injEq] at hu; subst hu; rw [Nat.mul_one, Nat.add_zero]; simp [hl]
   · simp [intCells] at hu
 · intro q cs hq t u hu; rcases q with _ | q
   · simp only [List.map_cons, List.map_nil, List.getElem?_cons_zero, Option.some.injEq] at hq; subst hq; simpa [IRec.cells] using hu
   · simp at hq
 · intro q r x hr hx; rcases q with _ | q
   · cases hr; cases hx; exact ⟨rfl, rfl, rfl, .inl ⟨rfl, rfl⟩⟩
   · simp at hr
 · intro p q r r' hpq hp hq g hg; rcases p with _ | p
   · cases hp; simp [Value.ownBlock] at hg
   · simp at hp
def PSt.wfn (n : Nat) (S : PSt) : Prop :=
 S.ins.length ≤ n ∧ S.op.length ≤ n ∧ S.made.length ≤ n ∧ (∀ x ∈ S.ins, I64 x.num ∧ x.ents.length ≤ n ∧ ∀ e ∈ x.ents, I64 e.num) ∧ (∀ d ∈ S.op, I64 d.core ∧ I64 d.fd ∧ I64 d.num) ∧ ∀ m ∈ S.made, I64 m
theorem PSt.wfn.wf {n : Nat} {S : PSt} (h : S.wfn n) (hn : n ≤ 1000000000) : S.wf := by
 obtain ⟨h1, h2, h3, h4, h5, h6⟩ := h
 exact ⟨by omega, by omega, by omega, fun x hx => ⟨(h4 x hx).1, by have := (h4 x hx).2.1; omega, (h4 x hx).2.2⟩, h5, h6⟩
theorem PSt.wfn.mono {n m : Nat} {S : PSt} (h : S.wfn n) (hn : n ≤ m) : S.wfn m := by
 obtain ⟨h1, h2, h3, h4, h5, h6⟩ := h
 exact ⟨by omega, by omega, by omega, fun x hx => ⟨(h4 x hx).1, by have := (h4 x hx).2.1; omega, (h4 x hx).2.2⟩, h5, h6⟩
theorem insAt_mem {α : Type} {l : List α} {i : Nat} {x y : α} (h : y ∈ insAt l i x) : y = x ∨ y ∈ l := by
 unfold insAt at h
 rcases List.mem_append.1 h with h | h
 · exact .inr (List.mem_of_mem_take h)
 · rcases List.mem_cons.1 h with h | h
   · exact .inl h
   · exact .inr (List.mem_of_mem_drop h)
theorem delAt_mem {α : Type} {l : List α} {i : Nat} {y : α} (h : y ∈ delAt l i) : y ∈ l := by
 unfold delAt at h
 rcases List.mem_append.1 h with h | h
 · exact List.mem_of_mem_take h
 · exact List.mem_of_mem_drop h
theorem insAt_len2 {α : Type} (l : List α) (i : Nat) (x : α) : (insAt l i x).length = l.length + 1 := by
 unfold insAt
 rw [lP, List.length_cons, List.length_take, List.length_drop]
 omega
theorem delAt_le {α : Type} (l : List α) (i : Nat) : (delAt l i).length ≤ l.length := by
 unfold delAt
 rw [lP, List.length_take, List.length_drop]
 omega
theorem wfn_ents {n : Nat} {S : PSt} (h : S.wfn n) {K : Nat} {x : PIn} (hx : S.ins[K]? = some x) {es : List PEnt} (hl : es.length ≤ n) (he : ∀ e ∈ es, I64 e.num) : (S.ents K x es).wfn n := by
 obtain ⟨h1, h2, h3, h4, h5, h6⟩ := h
 refine ⟨by unfold PSt.ents; rw [List.length_set]; exact h1, h2, h3, fun y hy => ?_, h5, h6⟩
 unfold PSt.ents at hy
 rcases List.mem_or_eq_of_mem_set hy with hy | rfl
 · exact h4 y hy
 · exact ⟨(h4 x (mG hx)).1, hl, he⟩
theorem wfn_ins {n : Nat} {S : PSt} (h : S.wfn n) {es : List PIn} (hl : es.length ≤ n) (he : ∀ x ∈ es, x ∈ S.ins) : ({ S with ins := es } : PSt).wfn n := by
 obtain ⟨h1, h2, h3, h4, h5, h6⟩ := h
 exact ⟨hl, h2, h3, fun y hy => h4 y (he y hy), h5, h6⟩
theorem wfn_op {n : Nat} {S : PSt} (h : S.wfn n) {es : List PDesc} (hl : es.length ≤ n) (he : ∀ d ∈ es, I64 d.core ∧ I64 d.fd ∧ I64 d.num) : ({ S with op := es } : PSt).wfn n := by
 obtain ⟨h1, h2, h3, h4, h5, h6⟩ := h
 exact ⟨h1, hl, h3, h4, he, h6⟩
theorem wfn_tidy {n : Nat} {S : PSt} (h : S.wfn n) (num : Int) : (tidyM S num).wfn n := by
 unfold tidyM
 split
 · exact h
 split
 · exact wfn_ins h (Nat.le_trans (delAt_le _ _) h.1) (fun x hx => delAt_mem hx)
 · exact h
theorem wfn_data {n : Nat} {S : PSt} (h : S.wfn n) {K : Nat} {x : PIn} (hx : x ∈ S.ins) (d : ByteArray) : ({ S with ins := S.ins.set K { x with data := d } } : PSt).wfn n := by
 obtain ⟨h1, h2, h3, h4, h5, h6⟩ := h
 refine ⟨by rw [List.length_set]; exact h1, h2, h3, fun y hy => ?_, h5, h6⟩
 rcases List.mem_or_eq_of_mem_set hy with hy | rfl
 · exact h4 y hy
 · exact h4 x hx
theorem look_same {S S' : PSt} {c : PCall} {r : PRes} (h : lookM S c = .ok (S', r)) : S' = S := by
 unfold lookM readM sizeM listM statM countM at h
 repeat' (split at h)
 all_goals first | (cases h; rfl) | cases h | skip
theorem fsync_same {S S' : PSt} {c : PCall} {r r' : PRes} (h : fsyncM S c r = .ok (S', r')) : S' = S := by
 unfold fsyncM at h
 split at h
 · cases h
 · cases h; rfl
theorem may_wfn {S : PSt} (hwf : S.wf) (hm : mayM S = true) : S.wfn 300 ∧ S.made.length ≤ 8 ∧ (∀ m ∈ S.made, 0 ≤ m ∧ m ≤ 32) := by
 have T := tree_of_may hwf hm
 have B := may_bounds hwf hm
 have hm' := hm
 unfold mayM at hm'
 split at hm'
 · rename_i h1
   simp only [Bool.and_eq_true] at h1; obtain ⟨⟨hmd, _⟩, hop⟩ := h1; unfold mayMadeM at hmd; simp only [Bool.and_eq_true, Bool.not_eq_true', Bool.or_eq_false_iff, decide_eq_false_iff_not] at hmd; obtain ⟨⟨m1, m8⟩, hall⟩ := hmd; have hmm : ∀ m ∈ S.made, 0 ≤ m ∧ m ≤ 32 := fun m hm => by
    have := List.any_eq_false.1 hall m hm; unfold badMade at this; simp at this; omega
   have hop := B.op; have hsm := T.small; refine ⟨⟨by omega, by omega, by omega, fun x hx => ⟨(hwf.2.2.2.1 x hx).1, by have := T.many x hx; omega, (hwf.2.2.2.1 x hx).2.2⟩, hwf.2.2.2.2.1, hwf.2.2.2.2.2⟩, by omega, hmm⟩
 · cases hm'
theorem run_wfn {S S' : PSt} {c : PCall} {r : PRes} (hwf : S.wf) (hm : maycM S c = true) (h : runX S c = .ok (S', r)) : S'.wfn 303 := by
 obtain ⟨hmay, hc0, hc1⟩ := mayc_may hm
 obtain ⟨hw, hm8, hmm⟩ := may_wfn hwf hmay
 have hwk := hw.mono (show 300 ≤ 303 by omega)
 have hent := hw.2.2.2.1
 unfold runX at h
 by_cases k1 : c.kind = 0 ∨ c.kind = 1
 · rw [if_pos k1] at h; unfold createX at h
   split at h
   · cases h
   unfold createM at h; rcases hp : parentM S (parseM c.path).2 with k | ⟨K, l⟩
   · rw [hp] at h; cases h
   rw [hp] at h; simp only at h; rcases hx : S.ins[K]? with _ | x
   · rw [hx] at h; cases h
   rw [hx] at h; simp only at h
   split at h
   · cases h
   rcases hmd : S.made[c.core.toNat]? with _ | m
   · rw [hmd] at h; cases h
   rw [hmd] at h; simp only at h
   split at h
   · cases h
   cases h; have hmr := hmm m (mG hmd); have hxl := hent x (mG hx); have hnum : I64 (2 + c.core + 8 * m) := by unfold I64; omega
   have h1 : (S.ents K x (insAt x.ents (bsE x.ents l) ⟨l, 2 + c.core + 8 * m⟩)).wfn 303 := wfn_ents hwk hx (Nat.le_trans (Nat.le_of_eq (insAt_len2 _ _ _)) (by have := hxl.2.1; omega)) (fun e he => by
    rcases insAt_mem he with rfl | he
    · exact hnum
    · exact hxl.2.2 e he)
   obtain ⟨a1, a2, a3, a4, a5, a6⟩ := h1; refine ⟨?_, a2, ?_, ?_, a5, ?_⟩
   · show (insAt _ _ _).length ≤ 303; rw [insAt_len2]; show (S.ins.set _ _).length + 1 ≤ 303; rw [List.length_set]; have := hw.1; omega
   · show (S.made.set _ _).length ≤ 303; rw [List.length_set]; omega
   · intro y hy; rcases insAt_mem hy with rfl | hy
     · exact ⟨hnum, by simp, by simp⟩
     · exact a4 y hy
   · intro y hy; rcases List.mem_or_eq_of_mem_set hy with hy | rfl
     · exact a6 y hy
     · unfold I64; omega
 rw [if_neg k1] at h
 by_cases k2 : c.kind = 2
 · rw [if_pos k2] at h; unfold openX openDo at h
   repeat' (split at h)
   all_goals first | (cases h; done) | skip
   · cases h; exact hwk
   · rename_i x hx _ hfd
     cases h; have hxl := hent x (mG hx); refine wfn_op hwk ?_ fun d hd => ?_
     · show (insD S.op _ _).length ≤ 303; unfold insD; rw [lP, List.length_cons, List.length_take, List.length_drop]; have := (may_bounds hwf hmay).op; omega
     · have hd' : d ∈ insAt S.op (openF c.core S.op 0 0 0).2 ⟨c.core, (openF c.core S.op 0 0 0).1, x.num⟩ := hd; rcases insAt_mem hd' with rfl | hd
       · exact ⟨by show I64 c.core; unfold I64; omega, by show I64 ((openF c.core S.op 0 0 0).1 : Int); unfold I64; omega, hxl.1⟩
       · exact hwk.2.2.2.2.1 d hd
 rw [if_neg k2] at h
 by_cases k3 : c.kind = 3
 · rw [if_pos k3] at h; unfold closeA at h
   split at h
   · cases h
   · cases h; exact wfn_tidy (wfn_op hwk (Nat.le_trans (delAt_le _ _) hwk.2.1) fun d hd => hwk.2.2.2.2.1 d (delAt_mem hd)) _
 rw [if_neg k3] at h
 by_cases k5 : c.kind = 5
 · rw [if_pos k5] at h; unfold writeX at h
   repeat' (split at h)
   all_goals first | (cases h; done) | skip
   rename_i y hy _ _
   cases h; exact wfn_data hwk (mG (fileX_at (K := y.1) (x := y.2) hy).1) _
 rw [if_neg k5] at h
 by_cases k6 : c.kind = 6
 · rw [if_pos k6] at h; unfold truncM at h
   repeat' (split at h)
   all_goals first | (cases h; done) | skip
   rename_i y hy _
   cases h; exact wfn_data hwk (mG (fileX_at (K := y.1) (x := y.2) hy).1) _
 rw [if_neg k6] at h
 by_cases k8 : c.kind = 8
 · rw [if_pos k8] at h; unfold linkX at h; rcases hp : atX S c.path with k | K
   · rw [hp] at h; cases h
   rw [hp] at h; simp only at h; rcases hx : S.ins[K]? with _ | x
   · rw [hx] at h; cases h
   rw [hx] at h; simp only at h
   split at h
   · cases h
   rcases hp2 : parX S c.path2 with k | ⟨K2, l⟩
   · rw [hp2] at h; cases h
   rw [hp2] at h; simp only at h; unfold linkM2 at h; rcases hy : S.ins[K2]? with _ | y
   · rw [hy] at h; cases h
   rw [hy] at h; simp only at h
   split at h
   · cases h
   split at h
   · cases h
   cases h; have hxl := hent x (mG hx); have hyl := hent y (mG hy); exact wfn_ents hwk hy (Nat.le_trans (Nat.le_of_eq (insAt_len2 _ _ _)) (by have := hyl.2.1; omega)) (fun e he => by
    rcases insAt_mem he with rfl | he
    · exact hxl.1
    · exact hyl.2.2 e he)
 rw [if_neg k8] at h
 by_cases k9 : c.kind = 9 ∨ c.kind = 10
 · rw [if_pos k9] at h; unfold removeM at h; rcases hp : parX S c.path with k | ⟨K, l⟩
   · rw [hp] at h; cases h
   rw [hp] at h; simp only at h; rcases hx : S.ins[K]? with _ | x
   · rw [hx] at h; cases h
   rw [hx] at h; simp only at h
   split at h
   · cases h
   rcases he : x.ents[bsE x.ents l]? with _ | e
   · rw [he] at h; cases h
   rw [he] at h; simp only at h; have hxl := hent x (mG hx); have h1 : (S.ents K x (delAt x.ents (bsE x.ents l))).wfn 303 := wfn_ents hwk hx (Nat.le_trans (delAt_le _ _) (by have := hxl.2.1; omega)) fun e he => hxl.2.2 e (delAt_mem he)
   unfold rem1 at h
   repeat' (split at h)
   all_goals first | (cases h; done) | skip
   · cases h; exact wfn_tidy h1 _
   · cases h; exact wfn_ins h1 (Nat.le_trans (delAt_le _ _) h1.1) (fun x hx => delAt_mem hx)
 rw [if_neg k9] at h
 by_cases k11 : c.kind = 11
 · rw [if_pos k11] at h; unfold renameX at h
   split at h
   · cases h
   split at h
   rotate_left
   · cases h
   unfold renameM at h; rcases hp : parentM S (parseM c.path).2 with k | ⟨K1, l⟩
   · rw [hp] at h; cases h
   rw [hp] at h; simp only at h; rcases hx : S.ins[K1]? with _ | x
   · rw [hx] at h; cases h
   rw [hx] at h; simp only at h; unfold renFrom at h
   split at h
   · cases h
   rcases he : x.ents[bsE x.ents l]? with _ | e
   · rw [he] at h; cases h
   rw [he] at h; simp only at h; rcases hp2 : parentM S (parseM c.path2).2 with k | ⟨K2, t⟩
   · rw [hp2] at h; cases h
   rw [hp2] at h; simp only at h
   split at h
   · cases h
   unfold renTo at h; rcases hx2 : S.ins[K2]? with _ | x2
   · rw [hx2] at h; cases h
   rw [hx2] at h; simp only at h
   split at h
   · cases h
   generalize fullM x2.ents t (if x.num = x2.num then l else { data := #[] }) = fb at h; rcases fb with _ | _
   rotate_left
   · cases h
   simp only [Bool.false_eq_true, if_false] at h; unfold renEnd at h; have hxl := hent x (mG hx); have hw1 : (S.ents K1 x (delAt x.ents (bsE x.ents l))).wfn 300 := wfn_ents hw hx (Nat.le_trans (delAt_le _ _) hxl.2.1) fun e he => hxl.2.2 e (delAt_mem he)
   rcases hy : (S.ents K1 x (delAt x.ents (bsE x.ents l))).ins[K2]? with _ | y
   · rw [hy] at h; cases h
   rw [hy] at h; cases h; have hyl := hw1.2.2.2.1 y (mG hy); have hel := hxl.2.2 e (mG he); exact wfn_ents (hw1.mono (by omega)) hy (by rw [insAt_len2]; have := hyl.2.1; omega) (fun e' he' => by
    rcases insAt_mem he' with rfl | he'
    · exact hel
    · exact hyl.2.2 e' he')
 rw [if_neg k11] at h
 by_cases k15 : c.kind = 15
 · rw [if_pos k15] at h; rw [fsync_same h]; exact hwk
 rw [if_neg k15] at h
 by_cases k16 : c.kind = 16
 · rw [if_pos k16] at h; cases h; exact hwk
 rw [if_neg k16] at h
 rw [look_same h]
 exact hwk
theorem doX_wf {S : PSt} {c : PCall} (hwf : S.wf) : (doX S c).1.wf := by
 unfold doX doM
 split
 · rename_i hm
   split
   · rename_i y e
     exact (run_wfn (S' := y.1) (r := y.2) hwf hm e).wf (by omega)
   · exact hwf
 · exact hwf
end Go.Proofs.YtmkapobnfigedaaGreatDoor
