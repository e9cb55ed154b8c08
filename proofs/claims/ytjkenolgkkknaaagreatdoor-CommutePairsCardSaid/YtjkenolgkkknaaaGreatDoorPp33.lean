/- Part of the proof that the named pairs of calls commute. Conditions: none. -/
import Derived.Test.YtjkenolgkkknaaaGreatDoorPp31
import Derived.Test.YtjkenolgkkknaaaGreatDoorPp28
set_option linter.unusedVariables false
set_option linter.unusedSimpArgs false
set_option maxRecDepth 100000
set_option maxHeartbeats 8000000
namespace Go.Proofs.YtjkenolgkkknaaaGreatDoor
open Go.RowKit
theorem write58 (B b : Nat) (S : PSt) (iv ov mv : Value) (core fd nu : Int) (pt p2 : ByteArray) (num : Int) (K : Nat) (x : PIn) (w : World) (hb : Blk w b #[iv, ov, mv] 27) (ho : StOwn B w iv ov mv S) (hB : B ≤ w.heap.size) (hBb : B ≤ b) (hwf : S.wf) (hfd : fdR S core fd = num) (hn0 : num ≠ 0) (hat : atR S num = K) (hx : S.ins[K]? = some x) (hdt : x.data = { data := #[] }) :
 Calls Tryz.prog 58 #[.pointer (some ⟨b, 0, none⟩), .agg #[.int .i64 5, .int .i64 core, .int .i64 fd, .int .i64 0, .int .i64 nu, .string pt, .string p2, .string z200]] w fun e w' => e = .returned (resV 0 0 200) ∧ Below B w w' ∧ Spared b w w' ∧ ∃ iv' ov' mv', Blk w' b #[iv', ov', mv'] 27 ∧ StOwn B w' iv' ov' mv' { S with ins := S.ins.set K { x with data := z200 } } := by
 have h99 : ∀ ww, Below w.heap.size w ww → Calls Tryz.prog 99 #[.agg #[iv, ov, mv], .int .i64 core, .int .i64 fd] ww fun e w' => e = .returned (.int .i64 num) ∧ Below ww.heap.size ww w' := fun ww hb => by
  have := fd99 S iv ov mv core fd ww (ho.read.below hb (Nat.le_refl _)) hwf.2.1; rw [hfd] at this; exact this
 have h51 : ∀ ww, Below w.heap.size w ww → Calls Tryz.prog 51 #[.agg #[iv, ov, mv], .int .i64 num] ww fun e w' => e = .returned (.int .i64 (K : Int)) ∧ Below ww.heap.size ww w' := fun ww hb => by
  have := at51 S iv ov mv num ww (ho.read.below hb (Nat.le_refl _)) hwf.1; rw [hat] at this; exact this
 have h102 : ∀ ww, Calls Tryz.prog 102 #[.string { data := #[] }, .int .i64 200] ww _ := fun ww => sized102 ww
 obtain ⟨hxl, -⟩ := gI.1 hx
 obtain ⟨bi, cap, rfl⟩ := ho.ins_form (by omega)
 obtain ⟨ma, mn, mc, rfl⟩ := ho.2.1.form
 obtain ⟨oa, on, oc, rfl⟩ := ho.1.form
 obtain ⟨a, cap', e1, hai⟩ := ho.read.ins_at2
 cases e1
 obtain ⟨bi', oi, ev, he, iI0, hoi, her, hci⟩ := hai K x hx
 cases he
 have hcz : ∀ w2, Below w.heap.size w w2 → BlockLt bi w2 ∧ w2.cell? ⟨bi, K * 4 + 3, none⟩ = some (.string { data := #[] }) := by
  intro w2 h2; obtain ⟨i2, -, -, -, x3⟩ := hci w2 h2; rw [hdt] at x3; simp only [Nat.zero_add] at x3; exact ⟨i2, x3⟩
 obtain ⟨iI, x3⟩ := hcz w (Below.refl _ _)
 have hKI : (K : Int) < S.ins.length := by omega
 have iL := hb.lt
 have hblt : b < w.heap.size := hb.lt.lt
 have s0 := hb.cell 0
 have s1 := hb.cell 1
 have s2 := hb.cell 2
 simp at s0 s1 s2
 have hnb : (num == 0) = false := by simpa using hn0
 have HH := Lib.hid (And.intro hb (And.intro ho (And.intro hwf hx)))
 have HCZ := Lib.hid hcz
 have hzs : z200.size = 200 := z200_size
 have hzI : (z200.size : Int) = 200 := by rw [hzs]; rfl
 have hzI2 : ¬ (256 : Int) < z200.size := by omega
 have hze : z200.toList.isEmpty = false := by kernel_rfl
 have hcp := cp200
 have hcv := cv200
 obtain ⟨z, hz⟩ : ∃ z, z200 = z := ⟨_, rfl⟩
 rw [hz] at hzs hzI hzI2 hze hcp hcv ⊢
 obtain ⟨zr, hzr⟩ : ∃ zr, zrow = zr := ⟨_, rfl⟩
 rw [hzr] at h102 hcp hcv
 have HCP := Lib.hid (And.intro hcp hcv)
 clear hb ho hwf hx hat hfd hn0 hai her hci hoi hdt hcz hz hzr hcp hcv
 go_enter Tryz.func58, Tryz.ntmps58
 go_upto_region 1 with fail
 refine wp_region_quiet_rest (by kernel_rfl) (by kernel_rfl) (WQ.out ?_)
 repeat
  refine WQ_step (fun K hK => ?_); go_simp
  first
   | (refine hK _ ?_; clear hK K)
   | (apply Exists.intro
      refine ⟨fun _ => ?_, hK _ ?_⟩
      focus ((with_reducible refine calls_in (h99 _ (bel _ _)) (fun w' hb => ?_); first | exact hb.rest | exact rest1 hb | exact rest2 hb))
      clear hK K)
 refine WQ_nil ?_
 intro w1 hw1
 obtain ⟨p, hw1⟩ := hw1
 subst hw1
 go_wp2_with fail
 refine wp_region_quiet_rest (by kernel_rfl) (by kernel_rfl) (WQ.out ?_)
 repeat
  refine WQ_step (fun K hK => ?_); go_simp
  first
   | (refine hK _ ?_; clear hK K)
   | (apply Exists.intro
      refine ⟨fun _ => ?_, hK _ ?_⟩
      focus ((with_reducible refine calls_in (h51 _ (bel _ _)) (fun w' hb => ?_); first | exact hb.rest | exact rest1 hb | exact rest2 hb))
      clear hK K)
 refine WQ_nil ?_
 intro w1 hw1
 obtain ⟨p, hw1⟩ := hw1
 subst hw1
 go_wp2_with fail
 go_cut [10] (fun v10 wx => ∃ g, v10 = .slice (some ⟨g, 0, none⟩) 200 200 ∧ w.heap.size + 2 ≤ g ∧ Below w.heap.size w wx ∧ Blk wx w.heap.size #[.int .i64 5, .int .i64 core, .int .i64 fd, .int .i64 0, .int .i64 nu, .string pt, .string p2, .string z] 29 ∧ Blk wx (w.heap.size + 1) #[.int .i64 0, .int .i64 0, .int .i64 0, .bool false, .string { data := #[] }, .slice none 0 0] 46 ∧ Blk wx g zr 5)
 case first =>
  go_region_held3 (fun w' => w'.cell? ⟨bi, K * 4 + 3, none⟩ = some (.string { data := #[] }) ∧ w'.cell? ⟨w.heap.size, 3, none⟩ = some (.int .i64 0) ∧ w'.cell? ⟨w.heap.size, 7, none⟩ = some (.string z))
   (first | (try dsimp only) <;> (repeat' apply And.intro) <;> go_simp)
   (first | (go_at_call 102; refine (h102 _).mono ?_; rintro e w' ⟨g, rfl, hb, hg, hk⟩; obtain ⟨p, rfl⟩ := hb.rest; have HK := Lib.hid (And.intro hg hk); clear hb hg hk))
  all_goals go_wp2_with fail
  all_goals go_meet
  all_goals (refine ⟨_, rfl, ?_, bel _ _, blk_on (Blk.new w #[.int .i64 5, .int .i64 core, .int .i64 fd, .int .i64 0, .int .i64 nu, .string pt, .string p2, .string z] 29) (bel _ _), blk_on (Blk.new_i (w.alloc (.cells #[.int .i64 5, .int .i64 core, .int .i64 fd, .int .i64 0, .int .i64 nu, .string pt, .string p2, .string z] 29)) #[.int .i64 0, .int .i64 0, .int .i64 0, .bool false, .string { data := #[] }, .slice none 0 0] 46 (w.heap.size + 1)) (bel _ _), ?_⟩)
  · have := HK.out.1; simp at this; omega
  · have h := HK.out.2
    first | exact h | (rw [World.junk_junk] at h; exact h) | (simp only [go_sem] at h; exact h)
 case rest =>
  obtain ⟨g, rfl, hgw, hbc, hCc, hRc, hG⟩ := hcut; obtain ⟨iI3, y3⟩ := HCZ.out wc hbc; have iC := hCc.lt; have iG := hG.lt; have c3 := hCc.cell 3; have c7 := hCc.cell 7; simp at c3 c7; have hcp := HCP.out.1 wc.drew g 3 hG; have HX := Lib.hid (And.intro hbc (And.intro hCc (And.intro hRc (And.intro hG hgw)))); clear s0 s1 s2 x3 iI iL hbc hCc hRc hG h102 h51 h99
  go_upto_region 27 with fail
  refine wp_region_eff [6] true (fun w' => w'.cell? ⟨w.heap.size, 3, none⟩ = some (.int .i64 0) ∧ w'.cell? ⟨w.heap.size, 7, none⟩ = some (.string z)) (by kernel_rfl) (by kernel_rfl) ?_ ?_
  · (try dsimp only); (repeat' apply And.intro) <;> go_simp
  repeat
   refine wpL_look rfl rfl ?_; apply Exists.intro; refine ⟨?_, ?_⟩
   focus
    rintro w' ⟨q0, q1⟩; go_simp
    first | done | rfl
   simp only [Act.put, sA, sZ, sS]
  refine wpL_do rfl rfl ?_; apply Exists.intro; apply Exists.intro; refine ⟨?_, ?_, ?_⟩
  focus
   go_simp; exact ⟨rfl, rfl⟩
  focus
   exact .inr ⟨rfl, rfl⟩
  simp only [Act.put, sA, sZ, sS]; refine wpL_end ?_; clear hcp y3 c3 c7 iC iG iI3
  go_upto_region 28 with fail
  refine abs_world (F := fun wz => Below w.heap.size w wz ∧ Blk wz w.heap.size #[.int .i64 5, .int .i64 core, .int .i64 fd, .int .i64 0, .int .i64 nu, .string pt, .string p2, .string z] 29 ∧ Blk wz (w.heap.size + 1) #[.int .i64 0, .int .i64 0, .int .i64 0, .bool false, .string { data := #[] }, .slice none 0 0] 46 ∧ Blk wz g zr 5) ⟨HX.out.1.trans ((bel wc _).mono HX.out.1.size), blk_on HX.out.2.1 (bel wc _), blk_on HX.out.2.2.1 (bel wc _), blk_on HX.out.2.2.2.1 (bel wc _)⟩ ?_; clear HX; rintro wz ⟨hbz, hCz, hRz, hGz⟩; have hoz := HH.out.2.1.on hbz; have hblkz := blk_on HH.out.1 hbz; obtain ⟨hd1, hd2, cI, hd3⟩ := hoz.setData HH.out.2.2.2 z; have hcv := HCP.out.2 wz g hGz; have iI := hd3.lt; have iF := hd3.frozen (K * 4 + 3); obtain ⟨-, y3⟩ := HCZ.out wz hbz; have hKd : Keep (fun k => k = bi) wz (wz.setCell ⟨bi, K * 4 + 3, none⟩ (.string z)) := Keep.setCell (S := fun k => k = bi) (p := ⟨bi, K * 4 + 3, none⟩) (Keep.refl _ _) (.inl rfl) _; have n1 := hKd.blk hblkz (fun e => by subst e; exact hblkz.ne_ hd3 (by decide) rfl); have n2 := hKd.blk hCz (fun e => by have := hCz.ne_ hd3 (by decide); exact this e); have n3 := hKd.blk hRz (fun e => by have := hRz.ne_ hd3 (by decide); exact this e); have n4 : Below B w (wz.setCell ⟨bi, K * 4 + 3, none⟩ (.string z)) := (hbz.mono hB).trans (hKd.below (Nat.le_trans hB hbz.size) (fun i hi e => by omega)); have n5 : Spared b w (wz.setCell ⟨bi, K * 4 + 3, none⟩ (.string z)) := (Spared.of_below hbz).trans (Spared.set hd3 (.inr ⟨by decide, by decide, by decide⟩)); have HN := Lib.hid (And.intro n1 (And.intro hd1 (And.intro n2 (And.intro n3 (And.intro n4 n5))))); clear hbz hCz hRz hGz hoz hblkz hd1 hd2 hd3 hKd n1 n2 n3 n4 n5
  go_upto_region 29 with fail
  refine abs_world (F := fun wz => Blk wz b #[.slice (some ⟨bi, 0, none⟩) S.ins.length cap, .slice oa on oc, .slice ma mn mc] 27 ∧ StOwn B wz (.slice (some ⟨bi, 0, none⟩) S.ins.length cap) (.slice oa on oc) (.slice ma mn mc) { S with ins := S.ins.set K { x with data := z } } ∧ Blk wz w.heap.size #[.int .i64 5, .int .i64 core, .int .i64 fd, .int .i64 0, .int .i64 nu, .string pt, .string p2, .string z] 29 ∧ Blk wz (w.heap.size + 1) #[.int .i64 0, .int .i64 0, .int .i64 0, .bool false, .string { data := #[] }, .slice none 0 0] 46 ∧ Below B w wz ∧ Spared b w wz) HN.out ?_; clear HN hcv iI iF y3; rintro wf ⟨f1, f2, fc, f3, f4, f5⟩; have iC := fc.lt; have c7 := fc.cell 7; simp at c7; have l3 := f3.lt; have g0 := f3.cell 0; have g1 := f3.cell 1; have g2 := f3.cell 2; have g3 := f3.cell 3; have g4 := f3.cell 4; have g5' := f3.cell 5; have fz0 := f3.frozen 0; have fz1 := f3.frozen 1; have fz2 := f3.frozen 2; have fz3 := f3.frozen 3; have fz4 := f3.frozen 4; have fz5 := f3.frozen 5; simp at g0 g1 g2 g3 g4 g5'; have HF := Lib.hid (And.intro f1 (And.intro f2 (And.intro f3 (And.intro f4 f5)))); clear f1 f2 fc f3 f4 f5; go_wp2_with fail; exact bodyPost_ret (v := resV 0 0 200) (by unfold results; simp only [Tryz.results58, resV]; go_simp) rfl ⟨rfl, fin46 (r := w.heap.size + 1) keep46n (by omega) hblt hB HF.out.2.2.1 HF.out.1 HF.out.2.1 HF.out.2.2.2.1 HF.out.2.2.2.2⟩
theorem keep9 {wz : World} {q r : Nat} {c0 c1 c2 a0 a1 a2 a3 a4 a5 : Value} : Keep (fun g => g = q ∨ g = r) wz ((((((((((wz.setCell ⟨q, 0, none⟩ c0).setCell ⟨q, 1, none⟩ c1).setCell ⟨q, 2, none⟩ c2).setCell ⟨r, 0, none⟩ a0).setCell ⟨r, 1, none⟩ a1).setCell ⟨r, 2, none⟩ a2).setCell ⟨r, 3, none⟩ a3).setCell ⟨r, 4, none⟩ a4).setCell ⟨r, 5, none⟩ a5).drew) :=
 ((((((((((Keep.refl (fun g => g = q ∨ g = r) wz).setCell (p := ⟨q, 0, none⟩) (.inl (.inl rfl)) c0).setCell (p := ⟨q, 1, none⟩) (.inl (.inl rfl)) c1).setCell (p := ⟨q, 2, none⟩) (.inl (.inl rfl)) c2).setCell (p := ⟨r, 0, none⟩) (.inl (.inr rfl)) a0).setCell (p := ⟨r, 1, none⟩) (.inl (.inr rfl)) a1).setCell (p := ⟨r, 2, none⟩) (.inl (.inr rfl)) a2).setCell (p := ⟨r, 3, none⟩) (.inl (.inr rfl)) a3).setCell (p := ⟨r, 4, none⟩) (.inl (.inr rfl)) a4).setCell (p := ⟨r, 5, none⟩) (.inl (.inr rfl)) a5).drew
theorem do34_0 (S S' : PSt) (iv ov mv : Value) (core fd off nu r : Int) (pt p2 dt : ByteArray) (w : World) (h : StRead w iv ov mv S) (hwf : S.wf) (hg : mayG S = true) (hc0 : 0 ≤ core) (hc1 : core < S.made.length)
 (hin : ∀ B b iv' ov' mv' ww, Blk ww b #[iv', ov', mv'] 27 → StOwn B ww iv' ov' mv' S → B ≤ ww.heap.size → B ≤ b → Calls Tryz.prog 56 #[.pointer (some ⟨b, 0, none⟩), .agg #[.int .i64 0, .int .i64 core, .int .i64 fd, .int .i64 off, .int .i64 nu, .string pt, .string p2, .string dt]] ww fun e w' => e = .returned (resV 0 0 r) ∧ Below B ww w' ∧ Spared b ww w' ∧ ∃ iv' ov' mv', Blk w' b #[iv', ov', mv'] 27 ∧ StOwn B w' iv' ov' mv' S') :
 Calls Tryz.prog 34 #[.agg #[iv, ov, mv], .agg #[.int .i64 0, .int .i64 core, .int .i64 fd, .int .i64 off, .int .i64 nu, .string pt, .string p2, .string dt], .int .i64 (-1)] w fun e w' => ∃ iv' ov' mv', e = .returned (.tuple #[.agg #[iv', ov', mv'], resV 0 0 r, .bool true]) ∧ Below w.heap.size w w' ∧ StOwn w.heap.size w' iv' ov' mv' S' := by
 have h13 : ∀ ww, Below w.heap.size w ww → Calls Tryz.prog 13 #[.agg #[iv, ov, mv]] ww fun e w' => e = .returned (.bool true) ∧ Below ww.heap.size ww w' := fun ww hb => may13 S iv ov mv ww (h.below hb (Nat.le_refl _)) hwf hg
 have h54 : ∀ ww, Below w.heap.size w ww → Calls Tryz.prog 54 #[.agg #[iv, ov, mv]] ww fun e w' => ∃ iv' ov' mv', e = .returned (.agg #[iv', ov', mv']) ∧ Below ww.heap.size ww w' ∧ StOwn ww.heap.size w' iv' ov' mv' S := fun ww hb => copy54 S iv ov mv ww (h.below hb (Nat.le_refl _)) hwf
 obtain ⟨am, cm, rfl⟩ : ∃ am cm, mv = .slice am S.made.length cm := by
  obtain ⟨a, c, e, _⟩ := h.2.1.at_; rw [lM] at e; exact ⟨a, c, e⟩
 obtain ⟨ai, ni, ci, ao, no, co, am', nm', cm', rfl, rfl, -⟩ := h.slices
 have hc0n : ¬ core < 0 := by omega
 have hc1n : ¬ (S.made.length : Int) ≤ core := by omega
 have HIN := Lib.hid hin
 clear h hwf hg hin
 go_enter Tryz.func34, Tryz.ntmps34
 go_upto_region 5 with (first | (go_at_call 13; with_reducible refine aT (h13 _ (bel _ _)) fun p => ?_) | (go_at_call 54; (with_reducible refine (h54 _ (bel _ _)).mono ?_); rintro e w1 ⟨iv1, ov1, mv1, rfl, hb1, hs1⟩; have i1 : Bel w w1 := ⟨(bel w _).trans (hb1.mono (bel w _).size)⟩; have hC1 : Blk w1 (w.heap.size + 1) #[.int .i64 0, .int .i64 core, .int .i64 fd, .int .i64 off, .int .i64 nu, .string pt, .string p2, .string dt] 29 := blk_on (blk_on (Blk.new_i (w.alloc (.cells #[.slice ai ni ci, .slice ao no co, .slice am S.made.length cm] 27)) #[.int .i64 0, .int .i64 core, .int .i64 fd, .int .i64 off, .int .i64 nu, .string pt, .string p2, .string dt] 29 (w.heap.size + 1)) (bel _ _)) hb1; have hN1 : Blk w1 (w.heap.size + 1 + 1) #[.slice none 0 0, .slice none 0 0, .slice none 0 0] 27 := blk_on (blk_on (Blk.new_i ((w.alloc (.cells #[.slice ai ni ci, .slice ao no co, .slice am S.made.length cm] 27)).alloc (.cells #[.int .i64 0, .int .i64 core, .int .i64 fd, .int .i64 off, .int .i64 nu, .string pt, .string p2, .string dt] 29)) #[.slice none 0 0, .slice none 0 0, .slice none 0 0] 27 (w.heap.size + 1 + 1)) (bel _ _)) hb1; have hR1 : Blk w1 (w.heap.size + 1 + 1 + 1) #[.int .i64 0, .int .i64 0, .int .i64 0, .bool false, .string { data := #[] }, .slice none 0 0] 46 := blk_on (blk_on (Blk.new_i (((w.alloc (.cells #[.slice ai ni ci, .slice ao no co, .slice am S.made.length cm] 27)).alloc (.cells #[.int .i64 0, .int .i64 core, .int .i64 fd, .int .i64 off, .int .i64 nu, .string pt, .string p2, .string dt] 29)).alloc (.cells #[.slice none 0 0, .slice none 0 0, .slice none 0 0] 27)) #[.int .i64 0, .int .i64 0, .int .i64 0, .bool false, .string { data := #[] }, .slice none 0 0] 46 (w.heap.size + 1 + 1 + 1)) (bel _ _)) hb1; obtain ⟨a1, a2, a3, a4, a5, a6, a7, a8, a9, rfl, rfl, rfl⟩ := hs1.forms; have H1 := Lib.hid (And.intro (hs1.mono (B' := w.heap.size + 1 + 1 + 1 + 1) (by simp)) (And.intro hC1 (And.intro hN1 (And.intro hR1 i1.below)))); clear hb1 hs1 hC1 hN1 hR1))
 have hbl : w.heap.size + 1 + 1 + 1 + 1 ≤ w1.heap.size := by
  have := H1.out.2.2.2.1.lt.lt; omega
 refine abs_world (F := fun W => StOwn (w.heap.size + 1 + 1 + 1 + 1) W (.slice a1 a2 a3) (.slice a4 a5 a6) (.slice a7 a8 a9) S ∧ Blk W (w1.heap.size) #[.slice a1 a2 a3, .slice a4 a5 a6, .slice a7 a8 a9] 27 ∧ Blk W (w1.heap.size + 1) #[.int .i64 0, .int .i64 0, .int .i64 0, .bool false, .string { data := #[] }, .slice none 0 0] 46 ∧ Blk W (w.heap.size + 1) #[.int .i64 0, .int .i64 core, .int .i64 fd, .int .i64 off, .int .i64 nu, .string pt, .string p2, .string dt] 29 ∧ Blk W (w.heap.size + 1 + 1) #[.slice none 0 0, .slice none 0 0, .slice none 0 0] 27 ∧ Blk W (w.heap.size + 1 + 1 + 1) #[.int .i64 0, .int .i64 0, .int .i64 0, .bool false, .string { data := #[] }, .slice none 0 0] 46 ∧ Below w.heap.size w W) ⟨H1.out.1.on (bel w1 _), blk_on (Blk.new w1 #[.slice a1 a2 a3, .slice a4 a5 a6, .slice a7 a8 a9] 27) (bel _ _), Blk.new_i _ _ _ _, blk_on H1.out.2.1 (bel w1 _), blk_on H1.out.2.2.1 (bel w1 _), blk_on H1.out.2.2.2.1 (bel w1 _), H1.out.2.2.2.2.trans ((bel w1 _).mono H1.out.2.2.2.2.size)⟩ ?_
 clear H1 h13 h54 i1
 obtain ⟨b, hbn⟩ : ∃ b, w1.heap.size = b := ⟨_, rfl⟩
 rw [hbn] at hbl ⊢
 clear hbn
 rintro W ⟨ho, hb, hr, hC, hN, hR, hbw⟩
 have iB := hb.lt
 have iR := hr.lt
 have iC := hC.lt
 have c0 := hC.cell 0
 have c1 := hC.cell 1
 have c2 := hC.cell 2
 have c3 := hC.cell 3
 have c4 := hC.cell 4
 have c5 := hC.cell 5
 have c6 := hC.cell 6
 have c7 := hC.cell 7
 simp at c0 c1 c2 c3 c4 c5 c6 c7
 have hin := HIN.out (w.heap.size + 1 + 1 + 1 + 1) b _ _ _ W hb ho (by have := iB.lt; omega) hbl
 simp only [resV] at hin
 have HW := Lib.hid (And.intro hr (And.intro hN (And.intro hR hbw)))
 clear ho hb hr hC hN hR hbw
 go_upto_region 29 with (go_at_call 56; (with_reducible refine hin.mono ?_); rintro e w5 ⟨rfl, hb5, hp5, iv5, ov5, mv5, hk5, hs5⟩; have hr5 := hp5 _ _ _ HW.out.1 (by omega) (.inr (.inr rfl)); have iR5 := hr5.lt; have g0 := hr5.cell 0; have g1 := hr5.cell 1; have g2 := hr5.cell 2; have g3 := hr5.cell 3; have g4 := hr5.cell 4; have g5 := hr5.cell 5; have fz0 := hr5.frozen 0; have fz1 := hr5.frozen 1; have fz2 := hr5.frozen 2; have fz3 := hr5.frozen 3; have fz4 := hr5.frozen 4; have fz5 := hr5.frozen 5; simp at g0 g1 g2 g3 g4 g5; obtain ⟨b1, b2, b3, b4, b5, b6, b7, b8, b9, rfl, rfl, rfl⟩ := hs5.forms; have H5 := Lib.hid (And.intro hb5 (And.intro hp5 (And.intro hk5 (And.intro hs5 hr5)))); clear hb5 hp5 hk5 hs5 hr5)
 refine abs_world (F := fun W' => StOwn (w.heap.size + 1 + 1 + 1 + 1) W' (.slice b1 b2 b3) (.slice b4 b5 b6) (.slice b7 b8 b9) S' ∧ Blk W' b #[.slice b1 b2 b3, .slice b4 b5 b6, .slice b7 b8 b9] 27 ∧ Blk W' (b + 1) #[.int .i64 0, .int .i64 0, .int .i64 r, .bool false, .string { data := #[] }, .slice none 0 0] 46 ∧ Blk W' (w.heap.size + 1 + 1) #[.slice none 0 0, .slice none 0 0, .slice none 0 0] 27 ∧ Blk W' (w.heap.size + 1 + 1 + 1) #[.int .i64 0, .int .i64 0, .int .i64 0, .bool false, .string { data := #[] }, .slice none 0 0] 46 ∧ Below w.heap.size w W') ?_ ?_
 · obtain ⟨e1, e2, e3, e4, e5⟩ := H5.out; obtain ⟨f1, f2, f3, f4⟩ := HW.out; have kq := e2 _ _ _ f2 (by omega) (.inl rfl); have kr := e2 _ _ _ f3 (by omega) (.inr (.inr rfl)); have hbwz : Below w.heap.size w w5 := f4.trans (e1.mono (by omega)); have hK := keep46n (wz := w5) (r := b + 1) (a0 := .int .i64 0) (a1 := .int .i64 0) (a2 := .int .i64 r) (a3 := .bool false) (a4 := .string { data := #[] }) (a5 := .slice none 0 0); exact ⟨e4.keep hK (fun g hg => by rw [hg]; exact ⟨_, 46, e5, by decide, by decide, by decide, by decide⟩), hK.blk e3 (by omega), (((((e5.set_ 0 _).set_ 1 _).set_ 2 _).set_ 3 _).set_ 4 _).set_ 5 _, hK.blk kq (by omega), hK.blk kr (by omega), hbwz.trans (hK.below hbwz.size (fun i hi e => by omega))⟩
 clear HW H5 iB iR iC c0 c1 c2 c3 c4 c5 c6 c7 hin
 rintro W' ⟨ho, hb, hr, hN, hR, hbw⟩
 have iB := hb.lt
 have iR := hr.lt
 have iN := hN.lt
 have iS := hR.lt
 have d0 := hb.cell 0
 have d1 := hb.cell 1
 have d2 := hb.cell 2
 have g0 := hr.cell 0
 have g1 := hr.cell 1
 have g2 := hr.cell 2
 have g3 := hr.cell 3
 have g4 := hr.cell 4
 have g5 := hr.cell 5
 have u0 := hN.cell 0
 have u1 := hN.cell 1
 have u2 := hN.cell 2
 have fu0 := hN.frozen 0
 have fu1 := hN.frozen 1
 have fu2 := hN.frozen 2
 have v0 := hR.cell 0
 have v1 := hR.cell 1
 have v2 := hR.cell 2
 have v3 := hR.cell 3
 have v4 := hR.cell 4
 have v5 := hR.cell 5
 have fv0 := hR.frozen 0
 have fv1 := hR.frozen 1
 have fv2 := hR.frozen 2
 have fv3 := hR.frozen 3
 have fv4 := hR.frozen 4
 have fv5 := hR.frozen 5
 simp at d0 d1 d2 g0 g1 g2 g3 g4 g5 u0 u1 u2 v0 v1 v2 v3 v4 v5
 have n1 : ¬ b = w.heap.size + 1 + 1 := by omega
 have n2 : ¬ b = w.heap.size + 1 + 1 + 1 := by omega
 have n3 : ¬ b + 1 = w.heap.size + 1 + 1 := by omega
 have n4 : ¬ b + 1 = w.heap.size + 1 + 1 + 1 := by omega
 have n5 : ¬ w.heap.size + 1 + 1 = w.heap.size + 1 + 1 + 1 := by omega
 have n6 : ¬ w.heap.size + 1 + 1 + 1 = w.heap.size + 1 + 1 := by omega
 have n7 : ¬ w.heap.size + 1 + 1 = b := by omega
 have n8 : ¬ w.heap.size + 1 + 1 + 1 = b := by omega
 have n9 : ¬ w.heap.size + 1 + 1 = b + 1 := by omega
 have n10 : ¬ w.heap.size + 1 + 1 + 1 = b + 1 := by omega
 have HZ := Lib.hid (And.intro ho (And.intro hN (And.intro hR hbw)))
 clear ho hb hr hN hR hbw
 go_wp2_with fail
 refine wp_region_eff [2, 3] true (fun w' => w'.cell? ⟨b, 0, none⟩ = some (.slice b1 b2 b3) ∧ w'.cell? ⟨b, 1, none⟩ = some (.slice b4 b5 b6) ∧ w'.cell? ⟨b, 2, none⟩ = some (.slice b7 b8 b9) ∧ w'.cell? ⟨b + 1, 0, none⟩ = some (.int .i64 0) ∧ w'.cell? ⟨b + 1, 1, none⟩ = some (.int .i64 0) ∧ w'.cell? ⟨b + 1, 2, none⟩ = some (.int .i64 r) ∧ w'.cell? ⟨b + 1, 3, none⟩ = some (.bool false) ∧ w'.cell? ⟨b + 1, 4, none⟩ = some (.string { data := #[] }) ∧ w'.cell? ⟨b + 1, 5, none⟩ = some (.slice none 0 0)) (by kernel_rfl) (by kernel_rfl) ?_ ?_
 · (try dsimp only); (repeat' apply And.intro) <;> go_simp
 repeat
  refine wpL_look rfl rfl ?_; apply Exists.intro; refine ⟨?_, ?_⟩
  focus
   rintro w' ⟨s0, s1, s2, s3, s4, s5, s6, s7, s8⟩; go_simp
   first | done | rfl
  simp only [Act.put, sA, sZ, sS]
 refine wpL_skip rfl rfl ?_
 apply Exists.intro
 refine ⟨?_, ?_, ?_⟩
 focus
  go_simp
  first | done | rfl
 focus
  refine .inl ?_
  (try dsimp only); (repeat' apply And.intro) <;> go_simp
 simp only [Act.put, sA, sZ, sS]
 refine wpL_skip rfl rfl ?_
 apply Exists.intro
 refine ⟨?_, ?_, ?_⟩
 focus
  go_simp
  first | done | rfl
 focus
  refine .inl ?_
  (try dsimp only); (repeat' apply And.intro) <;> go_simp
 simp only [Act.put, sA, sZ, sS]
 repeat
  refine wpL_look rfl rfl ?_; apply Exists.intro; refine ⟨?_, ?_⟩
  focus
   rintro w' ⟨s0, s1, s2, s3, s4, s5, s6, s7, s8⟩; go_simp
   first | done | rfl
  simp only [Act.put, sA, sZ, sS]
 refine wpL_end ?_
 go_wp2_with fail
 have hK := keep9 (wz := W') (q := w.heap.size + 1 + 1) (r := w.heap.size + 1 + 1 + 1) (c0 := .slice b1 b2 b3) (c1 := .slice b4 b5 b6) (c2 := .slice b7 b8 b9) (a0 := .int .i64 0) (a1 := .int .i64 0) (a2 := .int .i64 r) (a3 := .bool false) (a4 := .string { data := #[] }) (a5 := .slice none 0 0)
 have hfin := HZ.out.1.keep hK (fun g hg => by
  rcases hg with rfl | rfl
  · exact ⟨_, 27, HZ.out.2.1, by decide, by decide, by decide, by decide⟩
  · exact ⟨_, 46, HZ.out.2.2.1, by decide, by decide, by decide, by decide⟩)
 have hbf := HZ.out.2.2.2.trans (hK.below HZ.out.2.2.2.size (fun i hi e => by omega))
 exact bodyPost_ret (v := .tuple #[.agg #[.slice b1 b2 b3, .slice b4 b5 b6, .slice b7 b8 b9], resV 0 0 r, .bool true]) (by unfold results; simp only [Tryz.results34, resV]; go_simp) rfl ⟨_, _, _, rfl, hbf, hfin.mono (by omega)⟩
theorem do34_1 (S S' : PSt) (iv ov mv : Value) (core fd off nu r : Int) (pt p2 dt : ByteArray) (w : World) (h : StRead w iv ov mv S) (hwf : S.wf) (hg : mayG S = true) (hc0 : 0 ≤ core) (hc1 : core < S.made.length)
 (hin : ∀ B b iv' ov' mv' ww, Blk ww b #[iv', ov', mv'] 27 → StOwn B ww iv' ov' mv' S → B ≤ ww.heap.size → B ≤ b → Calls Tryz.prog 56 #[.pointer (some ⟨b, 0, none⟩), .agg #[.int .i64 1, .int .i64 core, .int .i64 fd, .int .i64 off, .int .i64 nu, .string pt, .string p2, .string dt]] ww fun e w' => e = .returned (resV 0 0 r) ∧ Below B ww w' ∧ Spared b ww w' ∧ ∃ iv' ov' mv', Blk w' b #[iv', ov', mv'] 27 ∧ StOwn B w' iv' ov' mv' S') :
 Calls Tryz.prog 34 #[.agg #[iv, ov, mv], .agg #[.int .i64 1, .int .i64 core, .int .i64 fd, .int .i64 off, .int .i64 nu, .string pt, .string p2, .string dt], .int .i64 (-1)] w fun e w' => ∃ iv' ov' mv', e = .returned (.tuple #[.agg #[iv', ov', mv'], resV 0 0 r, .bool true]) ∧ Below w.heap.size w w' ∧ StOwn w.heap.size w' iv' ov' mv' S' := by
 have h13 : ∀ ww, Below w.heap.size w ww → Calls Tryz.prog 13 #[.agg #[iv, ov, mv]] ww fun e w' => e = .returned (.bool true) ∧ Below ww.heap.size ww w' := fun ww hb => may13 S iv ov mv ww (h.below hb (Nat.le_refl _)) hwf hg
 have h54 : ∀ ww, Below w.heap.size w ww → Calls Tryz.prog 54 #[.agg #[iv, ov, mv]] ww fun e w' => ∃ iv' ov' mv', e = .returned (.agg #[iv', ov', mv']) ∧ Below ww.heap.size ww w' ∧ StOwn ww.heap.size w' iv' ov' mv' S := fun ww hb => copy54 S iv ov mv ww (h.below hb (Nat.le_refl _)) hwf
 obtain ⟨am, cm, rfl⟩ : ∃ am cm, mv = .slice am S.made.length cm := by
  obtain ⟨a, c, e, _⟩ := h.2.1.at_; rw [lM] at e; exact ⟨a, c, e⟩
 obtain ⟨ai, ni, ci, ao, no, co, am', nm', cm', rfl, rfl, -⟩ := h.slices
 have hc0n : ¬ core < 0 := by omega
 have hc1n : ¬ (S.made.length : Int) ≤ core := by omega
 have HIN := Lib.hid hin
 clear h hwf hg hin
 go_enter Tryz.func34, Tryz.ntmps34
 go_upto_region 5 with (first | (go_at_call 13; with_reducible refine aT (h13 _ (bel _ _)) fun p => ?_) | (go_at_call 54; (with_reducible refine (h54 _ (bel _ _)).mono ?_); rintro e w1 ⟨iv1, ov1, mv1, rfl, hb1, hs1⟩; have i1 : Bel w w1 := ⟨(bel w _).trans (hb1.mono (bel w _).size)⟩; have hC1 : Blk w1 (w.heap.size + 1) #[.int .i64 1, .int .i64 core, .int .i64 fd, .int .i64 off, .int .i64 nu, .string pt, .string p2, .string dt] 29 := blk_on (blk_on (Blk.new_i (w.alloc (.cells #[.slice ai ni ci, .slice ao no co, .slice am S.made.length cm] 27)) #[.int .i64 1, .int .i64 core, .int .i64 fd, .int .i64 off, .int .i64 nu, .string pt, .string p2, .string dt] 29 (w.heap.size + 1)) (bel _ _)) hb1; have hN1 : Blk w1 (w.heap.size + 1 + 1) #[.slice none 0 0, .slice none 0 0, .slice none 0 0] 27 := blk_on (blk_on (Blk.new_i ((w.alloc (.cells #[.slice ai ni ci, .slice ao no co, .slice am S.made.length cm] 27)).alloc (.cells #[.int .i64 1, .int .i64 core, .int .i64 fd, .int .i64 off, .int .i64 nu, .string pt, .string p2, .string dt] 29)) #[.slice none 0 0, .slice none 0 0, .slice none 0 0] 27 (w.heap.size + 1 + 1)) (bel _ _)) hb1; have hR1 : Blk w1 (w.heap.size + 1 + 1 + 1) #[.int .i64 0, .int .i64 0, .int .i64 0, .bool false, .string { data := #[] }, .slice none 0 0] 46 := blk_on (blk_on (Blk.new_i (((w.alloc (.cells #[.slice ai ni ci, .slice ao no co, .slice am S.made.length cm] 27)).alloc (.cells #[.int .i64 1, .int .i64 core, .int .i64 fd, .int .i64 off, .int .i64 nu, .string pt, .string p2, .string dt] 29)).alloc (.cells #[.slice none 0 0, .slice none 0 0, .slice none 0 0] 27)) #[.int .i64 0, .int .i64 0, .int .i64 0, .bool false, .string { data := #[] }, .slice none 0 0] 46 (w.heap.size + 1 + 1 + 1)) (bel _ _)) hb1; obtain ⟨a1, a2, a3, a4, a5, a6, a7, a8, a9, rfl, rfl, rfl⟩ := hs1.forms; have H1 := Lib.hid (And.intro (hs1.mono (B' := w.heap.size + 1 + 1 + 1 + 1) (by simp)) (And.intro hC1 (And.intro hN1 (And.intro hR1 i1.below)))); clear hb1 hs1 hC1 hN1 hR1))
 have hbl : w.heap.size + 1 + 1 + 1 + 1 ≤ w1.heap.size := by
  have := H1.out.2.2.2.1.lt.lt; omega
 refine abs_world (F := fun W => StOwn (w.heap.size + 1 + 1 + 1 + 1) W (.slice a1 a2 a3) (.slice a4 a5 a6) (.slice a7 a8 a9) S ∧ Blk W (w1.heap.size) #[.slice a1 a2 a3, .slice a4 a5 a6, .slice a7 a8 a9] 27 ∧ Blk W (w1.heap.size + 1) #[.int .i64 0, .int .i64 0, .int .i64 0, .bool false, .string { data := #[] }, .slice none 0 0] 46 ∧ Blk W (w.heap.size + 1) #[.int .i64 1, .int .i64 core, .int .i64 fd, .int .i64 off, .int .i64 nu, .string pt, .string p2, .string dt] 29 ∧ Blk W (w.heap.size + 1 + 1) #[.slice none 0 0, .slice none 0 0, .slice none 0 0] 27 ∧ Blk W (w.heap.size + 1 + 1 + 1) #[.int .i64 0, .int .i64 0, .int .i64 0, .bool false, .string { data := #[] }, .slice none 0 0] 46 ∧ Below w.heap.size w W) ⟨H1.out.1.on (bel w1 _), blk_on (Blk.new w1 #[.slice a1 a2 a3, .slice a4 a5 a6, .slice a7 a8 a9] 27) (bel _ _), Blk.new_i _ _ _ _, blk_on H1.out.2.1 (bel w1 _), blk_on H1.out.2.2.1 (bel w1 _), blk_on H1.out.2.2.2.1 (bel w1 _), H1.out.2.2.2.2.trans ((bel w1 _).mono H1.out.2.2.2.2.size)⟩ ?_
 clear H1 h13 h54 i1
 obtain ⟨b, hbn⟩ : ∃ b, w1.heap.size = b := ⟨_, rfl⟩
 rw [hbn] at hbl ⊢
 clear hbn
 rintro W ⟨ho, hb, hr, hC, hN, hR, hbw⟩
 have iB := hb.lt
 have iR := hr.lt
 have iC := hC.lt
 have c0 := hC.cell 0
 have c1 := hC.cell 1
 have c2 := hC.cell 2
 have c3 := hC.cell 3
 have c4 := hC.cell 4
 have c5 := hC.cell 5
 have c6 := hC.cell 6
 have c7 := hC.cell 7
 simp at c0 c1 c2 c3 c4 c5 c6 c7
 have hin := HIN.out (w.heap.size + 1 + 1 + 1 + 1) b _ _ _ W hb ho (by have := iB.lt; omega) hbl
 simp only [resV] at hin
 have HW := Lib.hid (And.intro hr (And.intro hN (And.intro hR hbw)))
 clear ho hb hr hC hN hR hbw
 go_upto_region 29 with (go_at_call 56; (with_reducible refine hin.mono ?_); rintro e w5 ⟨rfl, hb5, hp5, iv5, ov5, mv5, hk5, hs5⟩; have hr5 := hp5 _ _ _ HW.out.1 (by omega) (.inr (.inr rfl)); have iR5 := hr5.lt; have g0 := hr5.cell 0; have g1 := hr5.cell 1; have g2 := hr5.cell 2; have g3 := hr5.cell 3; have g4 := hr5.cell 4; have g5 := hr5.cell 5; have fz0 := hr5.frozen 0; have fz1 := hr5.frozen 1; have fz2 := hr5.frozen 2; have fz3 := hr5.frozen 3; have fz4 := hr5.frozen 4; have fz5 := hr5.frozen 5; simp at g0 g1 g2 g3 g4 g5; obtain ⟨b1, b2, b3, b4, b5, b6, b7, b8, b9, rfl, rfl, rfl⟩ := hs5.forms; have H5 := Lib.hid (And.intro hb5 (And.intro hp5 (And.intro hk5 (And.intro hs5 hr5)))); clear hb5 hp5 hk5 hs5 hr5)
 refine abs_world (F := fun W' => StOwn (w.heap.size + 1 + 1 + 1 + 1) W' (.slice b1 b2 b3) (.slice b4 b5 b6) (.slice b7 b8 b9) S' ∧ Blk W' b #[.slice b1 b2 b3, .slice b4 b5 b6, .slice b7 b8 b9] 27 ∧ Blk W' (b + 1) #[.int .i64 0, .int .i64 0, .int .i64 r, .bool false, .string { data := #[] }, .slice none 0 0] 46 ∧ Blk W' (w.heap.size + 1 + 1) #[.slice none 0 0, .slice none 0 0, .slice none 0 0] 27 ∧ Blk W' (w.heap.size + 1 + 1 + 1) #[.int .i64 0, .int .i64 0, .int .i64 0, .bool false, .string { data := #[] }, .slice none 0 0] 46 ∧ Below w.heap.size w W') ?_ ?_
 · obtain ⟨e1, e2, e3, e4, e5⟩ := H5.out; obtain ⟨f1, f2, f3, f4⟩ := HW.out; have kq := e2 _ _ _ f2 (by omega) (.inl rfl); have kr := e2 _ _ _ f3 (by omega) (.inr (.inr rfl)); have hbwz : Below w.heap.size w w5 := f4.trans (e1.mono (by omega)); have hK := keep46n (wz := w5) (r := b + 1) (a0 := .int .i64 0) (a1 := .int .i64 0) (a2 := .int .i64 r) (a3 := .bool false) (a4 := .string { data := #[] }) (a5 := .slice none 0 0); exact ⟨e4.keep hK (fun g hg => by rw [hg]; exact ⟨_, 46, e5, by decide, by decide, by decide, by decide⟩), hK.blk e3 (by omega), (((((e5.set_ 0 _).set_ 1 _).set_ 2 _).set_ 3 _).set_ 4 _).set_ 5 _, hK.blk kq (by omega), hK.blk kr (by omega), hbwz.trans (hK.below hbwz.size (fun i hi e => by omega))⟩
 clear HW H5 iB iR iC c0 c1 c2 c3 c4 c5 c6 c7 hin
 rintro W' ⟨ho, hb, hr, hN, hR, hbw⟩
 have iB := hb.lt
 have iR := hr.lt
 have iN := hN.lt
 have iS := hR.lt
 have d0 := hb.cell 0
 have d1 := hb.cell 1
 have d2 := hb.cell 2
 have g0 := hr.cell 0
 have g1 := hr.cell 1
 have g2 := hr.cell 2
 have g3 := hr.cell 3
 have g4 := hr.cell 4
 have g5 := hr.cell 5
 have u0 := hN.cell 0
 have u1 := hN.cell 1
 have u2 := hN.cell 2
 have fu0 := hN.frozen 0
 have fu1 := hN.frozen 1
 have fu2 := hN.frozen 2
 have v0 := hR.cell 0
 have v1 := hR.cell 1
 have v2 := hR.cell 2
 have v3 := hR.cell 3
 have v4 := hR.cell 4
 have v5 := hR.cell 5
 have fv0 := hR.frozen 0
 have fv1 := hR.frozen 1
 have fv2 := hR.frozen 2
 have fv3 := hR.frozen 3
 have fv4 := hR.frozen 4
 have fv5 := hR.frozen 5
 simp at d0 d1 d2 g0 g1 g2 g3 g4 g5 u0 u1 u2 v0 v1 v2 v3 v4 v5
 have n1 : ¬ b = w.heap.size + 1 + 1 := by omega
 have n2 : ¬ b = w.heap.size + 1 + 1 + 1 := by omega
 have n3 : ¬ b + 1 = w.heap.size + 1 + 1 := by omega
 have n4 : ¬ b + 1 = w.heap.size + 1 + 1 + 1 := by omega
 have n5 : ¬ w.heap.size + 1 + 1 = w.heap.size + 1 + 1 + 1 := by omega
 have n6 : ¬ w.heap.size + 1 + 1 + 1 = w.heap.size + 1 + 1 := by omega
 have n7 : ¬ w.heap.size + 1 + 1 = b := by omega
 have n8 : ¬ w.heap.size + 1 + 1 + 1 = b := by omega
 have n9 : ¬ w.heap.size + 1 + 1 = b + 1 := by omega
 have n10 : ¬ w.heap.size + 1 + 1 + 1 = b + 1 := by omega
 have HZ := Lib.hid (And.intro ho (And.intro hN (And.intro hR hbw)))
 clear ho hb hr hN hR hbw
 go_wp2_with fail
 refine wp_region_eff [2, 3] true (fun w' => w'.cell? ⟨b, 0, none⟩ = some (.slice b1 b2 b3) ∧ w'.cell? ⟨b, 1, none⟩ = some (.slice b4 b5 b6) ∧ w'.cell? ⟨b, 2, none⟩ = some (.slice b7 b8 b9) ∧ w'.cell? ⟨b + 1, 0, none⟩ = some (.int .i64 0) ∧ w'.cell? ⟨b + 1, 1, none⟩ = some (.int .i64 0) ∧ w'.cell? ⟨b + 1, 2, none⟩ = some (.int .i64 r) ∧ w'.cell? ⟨b + 1, 3, none⟩ = some (.bool false) ∧ w'.cell? ⟨b + 1, 4, none⟩ = some (.string { data := #[] }) ∧ w'.cell? ⟨b + 1, 5, none⟩ = some (.slice none 0 0)) (by kernel_rfl) (by kernel_rfl) ?_ ?_
 · (try dsimp only); (repeat' apply And.intro) <;> go_simp
 repeat
  refine wpL_look rfl rfl ?_; apply Exists.intro; refine ⟨?_, ?_⟩
  focus
   rintro w' ⟨s0, s1, s2, s3, s4, s5, s6, s7, s8⟩; go_simp
   first | done | rfl
  simp only [Act.put, sA, sZ, sS]
 refine wpL_skip rfl rfl ?_
 apply Exists.intro
 refine ⟨?_, ?_, ?_⟩
 focus
  go_simp
  first | done | rfl
 focus
  refine .inl ?_
  (try dsimp only); (repeat' apply And.intro) <;> go_simp
 simp only [Act.put, sA, sZ, sS]
 refine wpL_skip rfl rfl ?_
 apply Exists.intro
 refine ⟨?_, ?_, ?_⟩
 focus
  go_simp
  first | done | rfl
 focus
  refine .inl ?_
  (try dsimp only); (repeat' apply And.intro) <;> go_simp
 simp only [Act.put, sA, sZ, sS]
 repeat
  refine wpL_look rfl rfl ?_; apply Exists.intro; refine ⟨?_, ?_⟩
  focus
   rintro w' ⟨s0, s1, s2, s3, s4, s5, s6, s7, s8⟩; go_simp
   first | done | rfl
  simp only [Act.put, sA, sZ, sS]
 refine wpL_end ?_
 go_wp2_with fail
 have hK := keep9 (wz := W') (q := w.heap.size + 1 + 1) (r := w.heap.size + 1 + 1 + 1) (c0 := .slice b1 b2 b3) (c1 := .slice b4 b5 b6) (c2 := .slice b7 b8 b9) (a0 := .int .i64 0) (a1 := .int .i64 0) (a2 := .int .i64 r) (a3 := .bool false) (a4 := .string { data := #[] }) (a5 := .slice none 0 0)
 have hfin := HZ.out.1.keep hK (fun g hg => by
  rcases hg with rfl | rfl
  · exact ⟨_, 27, HZ.out.2.1, by decide, by decide, by decide, by decide⟩
  · exact ⟨_, 46, HZ.out.2.2.1, by decide, by decide, by decide, by decide⟩)
 have hbf := HZ.out.2.2.2.trans (hK.below HZ.out.2.2.2.size (fun i hi e => by omega))
 exact bodyPost_ret (v := .tuple #[.agg #[.slice b1 b2 b3, .slice b4 b5 b6, .slice b7 b8 b9], resV 0 0 r, .bool true]) (by unfold results; simp only [Tryz.results34, resV]; go_simp) rfl ⟨_, _, _, rfl, hbf, hfin.mono (by omega)⟩
theorem do34_5 (S S' : PSt) (iv ov mv : Value) (core fd off nu r : Int) (pt p2 dt : ByteArray) (w : World) (h : StRead w iv ov mv S) (hwf : S.wf) (hg : mayG S = true) (hc0 : 0 ≤ core) (hc1 : core < S.made.length)
 (hin : ∀ B b iv' ov' mv' ww, Blk ww b #[iv', ov', mv'] 27 → StOwn B ww iv' ov' mv' S → B ≤ ww.heap.size → B ≤ b → Calls Tryz.prog 58 #[.pointer (some ⟨b, 0, none⟩), .agg #[.int .i64 5, .int .i64 core, .int .i64 fd, .int .i64 off, .int .i64 nu, .string pt, .string p2, .string dt]] ww fun e w' => e = .returned (resV 0 0 r) ∧ Below B ww w' ∧ Spared b ww w' ∧ ∃ iv' ov' mv', Blk w' b #[iv', ov', mv'] 27 ∧ StOwn B w' iv' ov' mv' S') :
 Calls Tryz.prog 34 #[.agg #[iv, ov, mv], .agg #[.int .i64 5, .int .i64 core, .int .i64 fd, .int .i64 off, .int .i64 nu, .string pt, .string p2, .string dt], .int .i64 (-1)] w fun e w' => ∃ iv' ov' mv', e = .returned (.tuple #[.agg #[iv', ov', mv'], resV 0 0 r, .bool true]) ∧ Below w.heap.size w w' ∧ StOwn w.heap.size w' iv' ov' mv' S' := by
 have h13 : ∀ ww, Below w.heap.size w ww → Calls Tryz.prog 13 #[.agg #[iv, ov, mv]] ww fun e w' => e = .returned (.bool true) ∧ Below ww.heap.size ww w' := fun ww hb => may13 S iv ov mv ww (h.below hb (Nat.le_refl _)) hwf hg
 have h54 : ∀ ww, Below w.heap.size w ww → Calls Tryz.prog 54 #[.agg #[iv, ov, mv]] ww fun e w' => ∃ iv' ov' mv', e = .returned (.agg #[iv', ov', mv']) ∧ Below ww.heap.size ww w' ∧ StOwn ww.heap.size w' iv' ov' mv' S := fun ww hb => copy54 S iv ov mv ww (h.below hb (Nat.le_refl _)) hwf
 obtain ⟨am, cm, rfl⟩ : ∃ am cm, mv = .slice am S.made.length cm := by
  obtain ⟨a, c, e, _⟩ := h.2.1.at_; rw [lM] at e; exact ⟨a, c, e⟩
 obtain ⟨ai, ni, ci, ao, no, co, am', nm', cm', rfl, rfl, -⟩ := h.slices
 have hc0n : ¬ core < 0 := by omega
 have hc1n : ¬ (S.made.length : Int) ≤ core := by omega
 have HIN := Lib.hid hin
 clear h hwf hg hin
 go_enter Tryz.func34, Tryz.ntmps34
 go_upto_region 5 with (first | (go_at_call 13; with_reducible refine aT (h13 _ (bel _ _)) fun p => ?_) | (go_at_call 54; (with_reducible refine (h54 _ (bel _ _)).mono ?_); rintro e w1 ⟨iv1, ov1, mv1, rfl, hb1, hs1⟩; have i1 : Bel w w1 := ⟨(bel w _).trans (hb1.mono (bel w _).size)⟩; have hC1 : Blk w1 (w.heap.size + 1) #[.int .i64 5, .int .i64 core, .int .i64 fd, .int .i64 off, .int .i64 nu, .string pt, .string p2, .string dt] 29 := blk_on (blk_on (Blk.new_i (w.alloc (.cells #[.slice ai ni ci, .slice ao no co, .slice am S.made.length cm] 27)) #[.int .i64 5, .int .i64 core, .int .i64 fd, .int .i64 off, .int .i64 nu, .string pt, .string p2, .string dt] 29 (w.heap.size + 1)) (bel _ _)) hb1; have hN1 : Blk w1 (w.heap.size + 1 + 1) #[.slice none 0 0, .slice none 0 0, .slice none 0 0] 27 := blk_on (blk_on (Blk.new_i ((w.alloc (.cells #[.slice ai ni ci, .slice ao no co, .slice am S.made.length cm] 27)).alloc (.cells #[.int .i64 5, .int .i64 core, .int .i64 fd, .int .i64 off, .int .i64 nu, .string pt, .string p2, .string dt] 29)) #[.slice none 0 0, .slice none 0 0, .slice none 0 0] 27 (w.heap.size + 1 + 1)) (bel _ _)) hb1; have hR1 : Blk w1 (w.heap.size + 1 + 1 + 1) #[.int .i64 0, .int .i64 0, .int .i64 0, .bool false, .string { data := #[] }, .slice none 0 0] 46 := blk_on (blk_on (Blk.new_i (((w.alloc (.cells #[.slice ai ni ci, .slice ao no co, .slice am S.made.length cm] 27)).alloc (.cells #[.int .i64 5, .int .i64 core, .int .i64 fd, .int .i64 off, .int .i64 nu, .string pt, .string p2, .string dt] 29)).alloc (.cells #[.slice none 0 0, .slice none 0 0, .slice none 0 0] 27)) #[.int .i64 0, .int .i64 0, .int .i64 0, .bool false, .string { data := #[] }, .slice none 0 0] 46 (w.heap.size + 1 + 1 + 1)) (bel _ _)) hb1; obtain ⟨a1, a2, a3, a4, a5, a6, a7, a8, a9, rfl, rfl, rfl⟩ := hs1.forms; have H1 := Lib.hid (And.intro (hs1.mono (B' := w.heap.size + 1 + 1 + 1 + 1) (by simp)) (And.intro hC1 (And.intro hN1 (And.intro hR1 i1.below)))); clear hb1 hs1 hC1 hN1 hR1))
 have hbl : w.heap.size + 1 + 1 + 1 + 1 ≤ w1.heap.size := by
  have := H1.out.2.2.2.1.lt.lt; omega
 refine abs_world (F := fun W => StOwn (w.heap.size + 1 + 1 + 1 + 1) W (.slice a1 a2 a3) (.slice a4 a5 a6) (.slice a7 a8 a9) S ∧ Blk W (w1.heap.size) #[.slice a1 a2 a3, .slice a4 a5 a6, .slice a7 a8 a9] 27 ∧ Blk W (w1.heap.size + 1) #[.int .i64 0, .int .i64 0, .int .i64 0, .bool false, .string { data := #[] }, .slice none 0 0] 46 ∧ Blk W (w.heap.size + 1) #[.int .i64 5, .int .i64 core, .int .i64 fd, .int .i64 off, .int .i64 nu, .string pt, .string p2, .string dt] 29 ∧ Blk W (w.heap.size + 1 + 1) #[.slice none 0 0, .slice none 0 0, .slice none 0 0] 27 ∧ Blk W (w.heap.size + 1 + 1 + 1) #[.int .i64 0, .int .i64 0, .int .i64 0, .bool false, .string { data := #[] }, .slice none 0 0] 46 ∧ Below w.heap.size w W) ⟨H1.out.1.on (bel w1 _), blk_on (Blk.new w1 #[.slice a1 a2 a3, .slice a4 a5 a6, .slice a7 a8 a9] 27) (bel _ _), Blk.new_i _ _ _ _, blk_on H1.out.2.1 (bel w1 _), blk_on H1.out.2.2.1 (bel w1 _), blk_on H1.out.2.2.2.1 (bel w1 _), H1.out.2.2.2.2.trans ((bel w1 _).mono H1.out.2.2.2.2.size)⟩ ?_
 clear H1 h13 h54 i1
 obtain ⟨b, hbn⟩ : ∃ b, w1.heap.size = b := ⟨_, rfl⟩
 rw [hbn] at hbl ⊢
 clear hbn
 rintro W ⟨ho, hb, hr, hC, hN, hR, hbw⟩
 have iB := hb.lt
 have iR := hr.lt
 have iC := hC.lt
 have c0 := hC.cell 0
 have c1 := hC.cell 1
 have c2 := hC.cell 2
 have c3 := hC.cell 3
 have c4 := hC.cell 4
 have c5 := hC.cell 5
 have c6 := hC.cell 6
 have c7 := hC.cell 7
 simp at c0 c1 c2 c3 c4 c5 c6 c7
 have hin := HIN.out (w.heap.size + 1 + 1 + 1 + 1) b _ _ _ W hb ho (by have := iB.lt; omega) hbl
 simp only [resV] at hin
 have HW := Lib.hid (And.intro hr (And.intro hN (And.intro hR hbw)))
 clear ho hb hr hC hN hR hbw
 go_upto_region 29 with (go_at_call 58; (with_reducible refine hin.mono ?_); rintro e w5 ⟨rfl, hb5, hp5, iv5, ov5, mv5, hk5, hs5⟩; have hr5 := hp5 _ _ _ HW.out.1 (by omega) (.inr (.inr rfl)); have iR5 := hr5.lt; have g0 := hr5.cell 0; have g1 := hr5.cell 1; have g2 := hr5.cell 2; have g3 := hr5.cell 3; have g4 := hr5.cell 4; have g5 := hr5.cell 5; have fz0 := hr5.frozen 0; have fz1 := hr5.frozen 1; have fz2 := hr5.frozen 2; have fz3 := hr5.frozen 3; have fz4 := hr5.frozen 4; have fz5 := hr5.frozen 5; simp at g0 g1 g2 g3 g4 g5; obtain ⟨b1, b2, b3, b4, b5, b6, b7, b8, b9, rfl, rfl, rfl⟩ := hs5.forms; have H5 := Lib.hid (And.intro hb5 (And.intro hp5 (And.intro hk5 (And.intro hs5 hr5)))); clear hb5 hp5 hk5 hs5 hr5)
 refine abs_world (F := fun W' => StOwn (w.heap.size + 1 + 1 + 1 + 1) W' (.slice b1 b2 b3) (.slice b4 b5 b6) (.slice b7 b8 b9) S' ∧ Blk W' b #[.slice b1 b2 b3, .slice b4 b5 b6, .slice b7 b8 b9] 27 ∧ Blk W' (b + 1) #[.int .i64 0, .int .i64 0, .int .i64 r, .bool false, .string { data := #[] }, .slice none 0 0] 46 ∧ Blk W' (w.heap.size + 1 + 1) #[.slice none 0 0, .slice none 0 0, .slice none 0 0] 27 ∧ Blk W' (w.heap.size + 1 + 1 + 1) #[.int .i64 0, .int .i64 0, .int .i64 0, .bool false, .string { data := #[] }, .slice none 0 0] 46 ∧ Below w.heap.size w W') ?_ ?_
 · obtain ⟨e1, e2, e3, e4, e5⟩ := H5.out; obtain ⟨f1, f2, f3, f4⟩ := HW.out; have kq := e2 _ _ _ f2 (by omega) (.inl rfl); have kr := e2 _ _ _ f3 (by omega) (.inr (.inr rfl)); have hbwz : Below w.heap.size w w5 := f4.trans (e1.mono (by omega)); have hK := keep46n (wz := w5) (r := b + 1) (a0 := .int .i64 0) (a1 := .int .i64 0) (a2 := .int .i64 r) (a3 := .bool false) (a4 := .string { data := #[] }) (a5 := .slice none 0 0); exact ⟨e4.keep hK (fun g hg => by rw [hg]; exact ⟨_, 46, e5, by decide, by decide, by decide, by decide⟩), hK.blk e3 (by omega), (((((e5.set_ 0 _).set_ 1 _).set_ 2 _).set_ 3 _).set_ 4 _).set_ 5 _, hK.blk kq (by omega), hK.blk kr (by omega), hbwz.trans (hK.below hbwz.size (fun i hi e => by omega))⟩
 clear HW H5 iB iR iC c0 c1 c2 c3 c4 c5 c6 c7 hin
 rintro W' ⟨ho, hb, hr, hN, hR, hbw⟩
 have iB := hb.lt
 have iR := hr.lt
 have iN := hN.lt
 have iS := hR.lt
 have d0 := hb.cell 0
 have d1 := hb.cell 1
 have d2 := hb.cell 2
 have g0 := hr.cell 0
 have g1 := hr.cell 1
 have g2 := hr.cell 2
 have g3 := hr.cell 3
 have g4 := hr.cell 4
 have g5 := hr.cell 5
 have u0 := hN.cell 0
 have u1 := hN.cell 1
 have u2 := hN.cell 2
 have fu0 := hN.frozen 0
 have fu1 := hN.frozen 1
 have fu2 := hN.frozen 2
 have v0 := hR.cell 0
 have v1 := hR.cell 1
 have v2 := hR.cell 2
 have v3 := hR.cell 3
 have v4 := hR.cell 4
 have v5 := hR.cell 5
 have fv0 := hR.frozen 0
 have fv1 := hR.frozen 1
 have fv2 := hR.frozen 2
 have fv3 := hR.frozen 3
 have fv4 := hR.frozen 4
 have fv5 := hR.frozen 5
 simp at d0 d1 d2 g0 g1 g2 g3 g4 g5 u0 u1 u2 v0 v1 v2 v3 v4 v5
 have n1 : ¬ b = w.heap.size + 1 + 1 := by omega
 have n2 : ¬ b = w.heap.size + 1 + 1 + 1 := by omega
 have n3 : ¬ b + 1 = w.heap.size + 1 + 1 := by omega
 have n4 : ¬ b + 1 = w.heap.size + 1 + 1 + 1 := by omega
 have n5 : ¬ w.heap.size + 1 + 1 = w.heap.size + 1 + 1 + 1 := by omega
 have n6 : ¬ w.heap.size + 1 + 1 + 1 = w.heap.size + 1 + 1 := by omega
 have n7 : ¬ w.heap.size + 1 + 1 = b := by omega
 have n8 : ¬ w.heap.size + 1 + 1 + 1 = b := by omega
 have n9 : ¬ w.heap.size + 1 + 1 = b + 1 := by omega
 have n10 : ¬ w.heap.size + 1 + 1 + 1 = b + 1 := by omega
 have HZ := Lib.hid (And.intro ho (And.intro hN (And.intro hR hbw)))
 clear ho hb hr hN hR hbw
 go_wp2_with fail
 refine wp_region_eff [2, 3] true (fun w' => w'.cell? ⟨b, 0, none⟩ = some (.slice b1 b2 b3) ∧ w'.cell? ⟨b, 1, none⟩ = some (.slice b4 b5 b6) ∧ w'.cell? ⟨b, 2, none⟩ = some (.slice b7 b8 b9) ∧ w'.cell? ⟨b + 1, 0, none⟩ = some (.int .i64 0) ∧ w'.cell? ⟨b + 1, 1, none⟩ = some (.int .i64 0) ∧ w'.cell? ⟨b + 1, 2, none⟩ = some (.int .i64 r) ∧ w'.cell? ⟨b + 1, 3, none⟩ = some (.bool false) ∧ w'.cell? ⟨b + 1, 4, none⟩ = some (.string { data := #[] }) ∧ w'.cell? ⟨b + 1, 5, none⟩ = some (.slice none 0 0)) (by kernel_rfl) (by kernel_rfl) ?_ ?_
 · (try dsimp only); (repeat' apply And.intro) <;> go_simp
 repeat
  refine wpL_look rfl rfl ?_; apply Exists.intro; refine ⟨?_, ?_⟩
  focus
   rintro w' ⟨s0, s1, s2, s3, s4, s5, s6, s7, s8⟩; go_simp
   first | done | rfl
  simp only [Act.put, sA, sZ, sS]
 refine wpL_skip rfl rfl ?_
 apply Exists.intro
 refine ⟨?_, ?_, ?_⟩
 focus
  go_simp
  first | done | rfl
 focus
  refine .inl ?_
  (try dsimp only); (repeat' apply And.intro) <;> go_simp
 simp only [Act.put, sA, sZ, sS]
 refine wpL_skip rfl rfl ?_
 apply Exists.intro
 refine ⟨?_, ?_, ?_⟩
 focus
  go_simp
  first | done | rfl
 focus
  refine .inl ?_
  (try dsimp only); (repeat' apply And.intro) <;> go_simp
 simp only [Act.put, sA, sZ, sS]
 repeat
  refine wpL_look rfl rfl ?_; apply Exists.intro; refine ⟨?_, ?_⟩
  focus
   rintro w' ⟨s0, s1, s2, s3, s4, s5, s6, s7, s8⟩; go_simp
   first | done | rfl
  simp only [Act.put, sA, sZ, sS]
 refine wpL_end ?_
 go_wp2_with fail
 have hK := keep9 (wz := W') (q := w.heap.size + 1 + 1) (r := w.heap.size + 1 + 1 + 1) (c0 := .slice b1 b2 b3) (c1 := .slice b4 b5 b6) (c2 := .slice b7 b8 b9) (a0 := .int .i64 0) (a1 := .int .i64 0) (a2 := .int .i64 r) (a3 := .bool false) (a4 := .string { data := #[] }) (a5 := .slice none 0 0)
 have hfin := HZ.out.1.keep hK (fun g hg => by
  rcases hg with rfl | rfl
  · exact ⟨_, 27, HZ.out.2.1, by decide, by decide, by decide, by decide⟩
  · exact ⟨_, 46, HZ.out.2.2.1, by decide, by decide, by decide, by decide⟩)
 have hbf := HZ.out.2.2.2.trans (hK.below HZ.out.2.2.2.size (fun i hi e => by omega))
 exact bodyPost_ret (v := .tuple #[.agg #[.slice b1 b2 b3, .slice b4 b5 b6, .slice b7 b8 b9], resV 0 0 r, .bool true]) (by unfold results; simp only [Tryz.results34, resV]; go_simp) rfl ⟨_, _, _, rfl, hbf, hfin.mono (by omega)⟩
theorem do34_2 (S S' : PSt) (iv ov mv : Value) (core fd off nu r : Int) (pt p2 dt : ByteArray) (w : World) (h : StRead w iv ov mv S) (hwf : S.wf) (hg : mayG S = true) (hc0 : 0 ≤ core) (hc1 : core < S.made.length)
 (hin : ∀ B b iv' ov' mv' ww, Blk ww b #[iv', ov', mv'] 27 → StOwn B ww iv' ov' mv' S → B ≤ ww.heap.size → B ≤ b → Calls Tryz.prog 57 #[.pointer (some ⟨b, 0, none⟩), .agg #[.int .i64 2, .int .i64 core, .int .i64 fd, .int .i64 off, .int .i64 nu, .string pt, .string p2, .string dt], .int .i64 (-1)] ww fun e w' => e = .returned (.tuple #[resV 0 0 r, .bool true]) ∧ Below B ww w' ∧ Spared b ww w' ∧ ∃ iv' ov' mv', Blk w' b #[iv', ov', mv'] 27 ∧ StOwn B w' iv' ov' mv' S') :
 Calls Tryz.prog 34 #[.agg #[iv, ov, mv], .agg #[.int .i64 2, .int .i64 core, .int .i64 fd, .int .i64 off, .int .i64 nu, .string pt, .string p2, .string dt], .int .i64 (-1)] w fun e w' => ∃ iv' ov' mv', e = .returned (.tuple #[.agg #[iv', ov', mv'], resV 0 0 r, .bool true]) ∧ Below w.heap.size w w' ∧ StOwn w.heap.size w' iv' ov' mv' S' := by
 have h13 : ∀ ww, Below w.heap.size w ww → Calls Tryz.prog 13 #[.agg #[iv, ov, mv]] ww fun e w' => e = .returned (.bool true) ∧ Below ww.heap.size ww w' := fun ww hb => may13 S iv ov mv ww (h.below hb (Nat.le_refl _)) hwf hg
 have h54 : ∀ ww, Below w.heap.size w ww → Calls Tryz.prog 54 #[.agg #[iv, ov, mv]] ww fun e w' => ∃ iv' ov' mv', e = .returned (.agg #[iv', ov', mv']) ∧ Below ww.heap.size ww w' ∧ StOwn ww.heap.size w' iv' ov' mv' S := fun ww hb => copy54 S iv ov mv ww (h.below hb (Nat.le_refl _)) hwf
 obtain ⟨am, cm, rfl⟩ : ∃ am cm, mv = .slice am S.made.length cm := by
  obtain ⟨a, c, e, _⟩ := h.2.1.at_; rw [lM] at e; exact ⟨a, c, e⟩
 obtain ⟨ai, ni, ci, ao, no, co, am', nm', cm', rfl, rfl, -⟩ := h.slices
 have hc0n : ¬ core < 0 := by omega
 have hc1n : ¬ (S.made.length : Int) ≤ core := by omega
 have HIN := Lib.hid hin
 clear h hwf hg hin
 go_enter Tryz.func34, Tryz.ntmps34
 go_upto_region 5 with (first | (go_at_call 13; with_reducible refine aT (h13 _ (bel _ _)) fun p => ?_) | (go_at_call 54; (with_reducible refine (h54 _ (bel _ _)).mono ?_); rintro e w1 ⟨iv1, ov1, mv1, rfl, hb1, hs1⟩; have i1 : Bel w w1 := ⟨(bel w _).trans (hb1.mono (bel w _).size)⟩; have hC1 : Blk w1 (w.heap.size + 1) #[.int .i64 2, .int .i64 core, .int .i64 fd, .int .i64 off, .int .i64 nu, .string pt, .string p2, .string dt] 29 := blk_on (blk_on (Blk.new_i (w.alloc (.cells #[.slice ai ni ci, .slice ao no co, .slice am S.made.length cm] 27)) #[.int .i64 2, .int .i64 core, .int .i64 fd, .int .i64 off, .int .i64 nu, .string pt, .string p2, .string dt] 29 (w.heap.size + 1)) (bel _ _)) hb1; have hN1 : Blk w1 (w.heap.size + 1 + 1) #[.slice none 0 0, .slice none 0 0, .slice none 0 0] 27 := blk_on (blk_on (Blk.new_i ((w.alloc (.cells #[.slice ai ni ci, .slice ao no co, .slice am S.made.length cm] 27)).alloc (.cells #[.int .i64 2, .int .i64 core, .int .i64 fd, .int .i64 off, .int .i64 nu, .string pt, .string p2, .string dt] 29)) #[.slice none 0 0, .slice none 0 0, .slice none 0 0] 27 (w.heap.size + 1 + 1)) (bel _ _)) hb1; have hR1 : Blk w1 (w.heap.size + 1 + 1 + 1) #[.int .i64 0, .int .i64 0, .int .i64 0, .bool false, .string { data := #[] }, .slice none 0 0] 46 := blk_on (blk_on (Blk.new_i (((w.alloc (.cells #[.slice ai ni ci, .slice ao no co, .slice am S.made.length cm] 27)).alloc (.cells #[.int .i64 2, .int .i64 core, .int .i64 fd, .int .i64 off, .int .i64 nu, .string pt, .string p2, .string dt] 29)).alloc (.cells #[.slice none 0 0, .slice none 0 0, .slice none 0 0] 27)) #[.int .i64 0, .int .i64 0, .int .i64 0, .bool false, .string { data := #[] }, .slice none 0 0] 46 (w.heap.size + 1 + 1 + 1)) (bel _ _)) hb1; obtain ⟨a1, a2, a3, a4, a5, a6, a7, a8, a9, rfl, rfl, rfl⟩ := hs1.forms; have H1 := Lib.hid (And.intro (hs1.mono (B' := w.heap.size + 1 + 1 + 1 + 1) (by simp)) (And.intro hC1 (And.intro hN1 (And.intro hR1 i1.below)))); clear hb1 hs1 hC1 hN1 hR1))
 have hbl : w.heap.size + 1 + 1 + 1 + 1 ≤ w1.heap.size := by
  have := H1.out.2.2.2.1.lt.lt; omega
 refine abs_world (F := fun W => StOwn (w.heap.size + 1 + 1 + 1 + 1) W (.slice a1 a2 a3) (.slice a4 a5 a6) (.slice a7 a8 a9) S ∧ Blk W (w1.heap.size) #[.slice a1 a2 a3, .slice a4 a5 a6, .slice a7 a8 a9] 27 ∧ Blk W (w1.heap.size + 1) #[.int .i64 0, .int .i64 0, .int .i64 0, .bool false, .string { data := #[] }, .slice none 0 0] 46 ∧ Blk W (w.heap.size + 1) #[.int .i64 2, .int .i64 core, .int .i64 fd, .int .i64 off, .int .i64 nu, .string pt, .string p2, .string dt] 29 ∧ Blk W (w.heap.size + 1 + 1) #[.slice none 0 0, .slice none 0 0, .slice none 0 0] 27 ∧ Blk W (w.heap.size + 1 + 1 + 1) #[.int .i64 0, .int .i64 0, .int .i64 0, .bool false, .string { data := #[] }, .slice none 0 0] 46 ∧ Below w.heap.size w W) ⟨H1.out.1.on (bel w1 _), blk_on (Blk.new w1 #[.slice a1 a2 a3, .slice a4 a5 a6, .slice a7 a8 a9] 27) (bel _ _), Blk.new_i _ _ _ _, blk_on H1.out.2.1 (bel w1 _), blk_on H1.out.2.2.1 (bel w1 _), blk_on H1.out.2.2.2.1 (bel w1 _), H1.out.2.2.2.2.trans ((bel w1 _).mono H1.out.2.2.2.2.size)⟩ ?_
 clear H1 h13 h54 i1
 obtain ⟨b, hbn⟩ : ∃ b, w1.heap.size = b := ⟨_, rfl⟩
 rw [hbn] at hbl ⊢
 clear hbn
 rintro W ⟨ho, hb, hr, hC, hN, hR, hbw⟩
 have iB := hb.lt
 have iR := hr.lt
 have iC := hC.lt
 have c0 := hC.cell 0
 have c1 := hC.cell 1
 have c2 := hC.cell 2
 have c3 := hC.cell 3
 have c4 := hC.cell 4
 have c5 := hC.cell 5
 have c6 := hC.cell 6
 have c7 := hC.cell 7
 simp at c0 c1 c2 c3 c4 c5 c6 c7
 have hin := HIN.out (w.heap.size + 1 + 1 + 1 + 1) b _ _ _ W hb ho (by have := iB.lt; omega) hbl
 simp only [resV] at hin
 have HW := Lib.hid (And.intro hr (And.intro hN (And.intro hR hbw)))
 clear ho hb hr hC hN hR hbw
 go_upto_region 29 with (go_at_call 57; (with_reducible refine hin.mono ?_); rintro e w5 ⟨rfl, hb5, hp5, iv5, ov5, mv5, hk5, hs5⟩; have hr5 := hp5 _ _ _ HW.out.1 (by omega) (.inr (.inr rfl)); have iR5 := hr5.lt; have g0 := hr5.cell 0; have g1 := hr5.cell 1; have g2 := hr5.cell 2; have g3 := hr5.cell 3; have g4 := hr5.cell 4; have g5 := hr5.cell 5; have fz0 := hr5.frozen 0; have fz1 := hr5.frozen 1; have fz2 := hr5.frozen 2; have fz3 := hr5.frozen 3; have fz4 := hr5.frozen 4; have fz5 := hr5.frozen 5; simp at g0 g1 g2 g3 g4 g5; obtain ⟨b1, b2, b3, b4, b5, b6, b7, b8, b9, rfl, rfl, rfl⟩ := hs5.forms; have H5 := Lib.hid (And.intro hb5 (And.intro hp5 (And.intro hk5 (And.intro hs5 hr5)))); clear hb5 hp5 hk5 hs5 hr5)
 refine abs_world (F := fun W' => StOwn (w.heap.size + 1 + 1 + 1 + 1) W' (.slice b1 b2 b3) (.slice b4 b5 b6) (.slice b7 b8 b9) S' ∧ Blk W' b #[.slice b1 b2 b3, .slice b4 b5 b6, .slice b7 b8 b9] 27 ∧ Blk W' (b + 1) #[.int .i64 0, .int .i64 0, .int .i64 r, .bool false, .string { data := #[] }, .slice none 0 0] 46 ∧ Blk W' (w.heap.size + 1 + 1) #[.slice none 0 0, .slice none 0 0, .slice none 0 0] 27 ∧ Blk W' (w.heap.size + 1 + 1 + 1) #[.int .i64 0, .int .i64 0, .int .i64 0, .bool false, .string { data := #[] }, .slice none 0 0] 46 ∧ Below w.heap.size w W') ?_ ?_
 · obtain ⟨e1, e2, e3, e4, e5⟩ := H5.out; obtain ⟨f1, f2, f3, f4⟩ := HW.out; have kq := e2 _ _ _ f2 (by omega) (.inl rfl); have kr := e2 _ _ _ f3 (by omega) (.inr (.inr rfl)); have hbwz : Below w.heap.size w w5 := f4.trans (e1.mono (by omega)); have hK := keep46n (wz := w5) (r := b + 1) (a0 := .int .i64 0) (a1 := .int .i64 0) (a2 := .int .i64 r) (a3 := .bool false) (a4 := .string { data := #[] }) (a5 := .slice none 0 0); have hK := hK.alloc (.cells #[.int .i64 0, .int .i64 0, .int .i64 r, .bool false, .string { data := #[] }, .slice none 0 0] 46); exact ⟨e4.keep hK (fun g hg => by rw [hg]; exact ⟨_, 46, e5, by decide, by decide, by decide, by decide⟩), hK.blk e3 (by omega), Blk.alloc ((((((e5.set_ 0 _).set_ 1 _).set_ 2 _).set_ 3 _).set_ 4 _).set_ 5 _) _, hK.blk kq (by omega), hK.blk kr (by omega), hbwz.trans (hK.below hbwz.size (fun i hi e => by omega))⟩
 clear HW H5 iB iR iC c0 c1 c2 c3 c4 c5 c6 c7 hin
 rintro W' ⟨ho, hb, hr, hN, hR, hbw⟩
 have iB := hb.lt
 have iR := hr.lt
 have iN := hN.lt
 have iS := hR.lt
 have d0 := hb.cell 0
 have d1 := hb.cell 1
 have d2 := hb.cell 2
 have g0 := hr.cell 0
 have g1 := hr.cell 1
 have g2 := hr.cell 2
 have g3 := hr.cell 3
 have g4 := hr.cell 4
 have g5 := hr.cell 5
 have u0 := hN.cell 0
 have u1 := hN.cell 1
 have u2 := hN.cell 2
 have fu0 := hN.frozen 0
 have fu1 := hN.frozen 1
 have fu2 := hN.frozen 2
 have v0 := hR.cell 0
 have v1 := hR.cell 1
 have v2 := hR.cell 2
 have v3 := hR.cell 3
 have v4 := hR.cell 4
 have v5 := hR.cell 5
 have fv0 := hR.frozen 0
 have fv1 := hR.frozen 1
 have fv2 := hR.frozen 2
 have fv3 := hR.frozen 3
 have fv4 := hR.frozen 4
 have fv5 := hR.frozen 5
 simp at d0 d1 d2 g0 g1 g2 g3 g4 g5 u0 u1 u2 v0 v1 v2 v3 v4 v5
 have n1 : ¬ b = w.heap.size + 1 + 1 := by omega
 have n2 : ¬ b = w.heap.size + 1 + 1 + 1 := by omega
 have n3 : ¬ b + 1 = w.heap.size + 1 + 1 := by omega
 have n4 : ¬ b + 1 = w.heap.size + 1 + 1 + 1 := by omega
 have n5 : ¬ w.heap.size + 1 + 1 = w.heap.size + 1 + 1 + 1 := by omega
 have n6 : ¬ w.heap.size + 1 + 1 + 1 = w.heap.size + 1 + 1 := by omega
 have n7 : ¬ w.heap.size + 1 + 1 = b := by omega
 have n8 : ¬ w.heap.size + 1 + 1 + 1 = b := by omega
 have n9 : ¬ w.heap.size + 1 + 1 = b + 1 := by omega
 have n10 : ¬ w.heap.size + 1 + 1 + 1 = b + 1 := by omega
 have HZ := Lib.hid (And.intro ho (And.intro hN (And.intro hR hbw)))
 clear ho hb hr hN hR hbw
 go_wp2_with fail
 refine wp_region_eff [2, 3] true (fun w' => w'.cell? ⟨b, 0, none⟩ = some (.slice b1 b2 b3) ∧ w'.cell? ⟨b, 1, none⟩ = some (.slice b4 b5 b6) ∧ w'.cell? ⟨b, 2, none⟩ = some (.slice b7 b8 b9) ∧ w'.cell? ⟨b + 1, 0, none⟩ = some (.int .i64 0) ∧ w'.cell? ⟨b + 1, 1, none⟩ = some (.int .i64 0) ∧ w'.cell? ⟨b + 1, 2, none⟩ = some (.int .i64 r) ∧ w'.cell? ⟨b + 1, 3, none⟩ = some (.bool false) ∧ w'.cell? ⟨b + 1, 4, none⟩ = some (.string { data := #[] }) ∧ w'.cell? ⟨b + 1, 5, none⟩ = some (.slice none 0 0)) (by kernel_rfl) (by kernel_rfl) ?_ ?_
 · (try dsimp only); (repeat' apply And.intro) <;> go_simp
 repeat
  refine wpL_look rfl rfl ?_; apply Exists.intro; refine ⟨?_, ?_⟩
  focus
   rintro w' ⟨s0, s1, s2, s3, s4, s5, s6, s7, s8⟩; go_simp
   first | done | rfl
  simp only [Act.put, sA, sZ, sS]
 refine wpL_skip rfl rfl ?_
 apply Exists.intro
 refine ⟨?_, ?_, ?_⟩
 focus
  go_simp
  first | done | rfl
 focus
  refine .inl ?_
  (try dsimp only); (repeat' apply And.intro) <;> go_simp
 simp only [Act.put, sA, sZ, sS]
 refine wpL_skip rfl rfl ?_
 apply Exists.intro
 refine ⟨?_, ?_, ?_⟩
 focus
  go_simp
  first | done | rfl
 focus
  refine .inl ?_
  (try dsimp only); (repeat' apply And.intro) <;> go_simp
 simp only [Act.put, sA, sZ, sS]
 repeat
  refine wpL_look rfl rfl ?_; apply Exists.intro; refine ⟨?_, ?_⟩
  focus
   rintro w' ⟨s0, s1, s2, s3, s4, s5, s6, s7, s8⟩; go_simp
   first | done | rfl
  simp only [Act.put, sA, sZ, sS]
 refine wpL_end ?_
 go_wp2_with fail
 have hK := keep9 (wz := W') (q := w.heap.size + 1 + 1) (r := w.heap.size + 1 + 1 + 1) (c0 := .slice b1 b2 b3) (c1 := .slice b4 b5 b6) (c2 := .slice b7 b8 b9) (a0 := .int .i64 0) (a1 := .int .i64 0) (a2 := .int .i64 r) (a3 := .bool false) (a4 := .string { data := #[] }) (a5 := .slice none 0 0)
 have hfin := HZ.out.1.keep hK (fun g hg => by
  rcases hg with rfl | rfl
  · exact ⟨_, 27, HZ.out.2.1, by decide, by decide, by decide, by decide⟩
  · exact ⟨_, 46, HZ.out.2.2.1, by decide, by decide, by decide, by decide⟩)
 have hbf := HZ.out.2.2.2.trans (hK.below HZ.out.2.2.2.size (fun i hi e => by omega))
 exact bodyPost_ret (v := .tuple #[.agg #[.slice b1 b2 b3, .slice b4 b5 b6, .slice b7 b8 b9], resV 0 0 r, .bool true]) (by unfold results; simp only [Tryz.results34, resV]; go_simp) rfl ⟨_, _, _, rfl, hbf, hfin.mono (by omega)⟩
end Go.Proofs.YtjkenolgkkknaaaGreatDoor
