/- The deferred closure of model.Do. Conditions: none. -/
import Derived.Defers
import Derived.Recover
import Derived.Test.YtmkapobnfigedaaGreatDoorEl18
set_option linter.unusedVariables false
set_option linter.unusedSimpArgs false
namespace Go.Proofs.YtmkapobnfigedaaGreatDoor
open Go.RowKit
theorem StOwn.mono {B B' : Nat} {w : World} {iv ov mv : Value} {S : PSt} (h : StOwn B w iv ov mv S) (hb : B' ≤ B) : StOwn B' w iv ov mv S := by
 obtain ⟨h1, h2, is, h3, h4, h5, h6⟩ := h
 exact ⟨h1.mono hb, h2.mono hb, is, h3.mono hb, h4, fun q r x hr hx => by
  obtain ⟨a1, a2, a3, a4⟩ := h5 q r x hr hx; exact ⟨a1, a2, a3, a4.mono hb⟩, h6⟩
theorem assert78 (code : Int) (w : World) : (Instr.typeAssert (.iface 132 (.agg #[.int .i64 code])) 20 132 true).run Tryz.prog w = .ok (.tuple #[.agg #[.int .i64 code], .bool true]) w := by kernel_rfl
theorem tmps40 (a b c v : Value) : (#[a, b, c] ++ (((((Array.replicate 19 undef).setIfInBounds 3 v).setIfInBounds 0 v).setIfInBounds 4 v).setIfInBounds 5 (.bool true)) : Array Value) = #[a, b, c, v, undef, undef, v, v, .bool true, undef, undef, undef, undef, undef, undef, undef, undef, undef, undef, undef, undef, undef] := by kernel_rfl
set_option maxRecDepth 100000 in
theorem catch_idle (p q r : Addr) (w : World) :
 CallsD Tryz.prog 107 #[.pointer (some p), .pointer (some q), .pointer (some r)] .returning w fun e u' w' => e = .returned (.tuple #[]) ∧ u' = .returning ∧ w' = w := by
 refine callsD_of_wpS Tryz.func107 rfl fun c₀ cs hu => ?_
 apply wpS_seq
 apply wpS_region
 simp [wpOpsS, go_sem, recoverD, hu, Tryz.ntmps107, Exit.thenS]
 apply wpS_seq
 apply wpS_region
 simp [wpOpsS, go_sem, Exit.thenS]
 refine wpS_cond (t := false) (by simp [Act.eval, Array.replicate]) ?_
 simp only [Bool.false_eq_true, if_false]
 refine wpS_of_wp (wp_skip ?_)
 cases c₀
 simp_all [bodyPostS, results, Tryz.results107, go_sem]
set_option maxRecDepth 100000 in
set_option maxHeartbeats 4000000 in
theorem catch_panicking (B k2 k4 k5 : Nat) (iv ov mv : Value) (S : PSt) (code : Int) (w : World) (a0 a1 a2 b0 b1 b2 b3 b4 b5 : Value) (hwf : S.wf)
 (h2 : Blk w k2 #[iv, ov, mv] 26) (hr : StRead w iv ov mv S) (h4 : Blk w k4 #[a0, a1, a2] 26) (h5 : Blk w k5 #[b0, b1, b2, b3, b4, b5] 52) (n24 : k2 ≠ k4) (hB4 : B ≤ k4) (hB5 : B ≤ k5) (hB : B ≤ w.heap.size) :
 CallsD Tryz.prog 107 #[.pointer (some ⟨k2, 0, none⟩), .pointer (some ⟨k4, 0, none⟩), .pointer (some ⟨k5, 0, none⟩)] (.panicking [{ v := .iface 132 (.agg #[.int .i64 code]), recovered := false }]) w fun e u' w' =>
  e = .returned (.tuple #[]) ∧ u' = .panicking [{ v := .iface 132 (.agg #[.int .i64 code]), recovered := true }] ∧ Below B w w' ∧ ∃ iv' ov' mv', Blk w' k4 #[iv', ov', mv'] 26 ∧ Blk w' k5 #[.int .i64 code, .int .i64 0, .int .i64 0, .bool false, .string ByteArray.empty, .slice none 0 0] 52 ∧ StOwn B w' iv' ov' mv' S := by
 refine callsD_of_wpS Tryz.func107 rfl fun c₀ cs hu => ?_
 apply wpS_seq
 apply wpS_region
 simp [wpOpsS, go_sem, recoverD, hu, Tryz.ntmps107, Exit.thenS]
 apply wpS_seq
 apply wpS_region
 simp [wpOpsS, go_sem, Exit.thenS]
 refine wpS_cond (t := true) (by simp [Act.eval, Array.replicate]) ?_
 simp only [if_true]
 refine wpS_of_wp ?_
 rw [tmps40 (.pointer (some ⟨k2, 0, none⟩)) (.pointer (some ⟨k4, 0, none⟩)) (.pointer (some ⟨k5, 0, none⟩)) (.iface 132 (.agg #[.int .i64 code]))]
 have hta := assert78 code
 have i2 := h2.lt
 have i4 := h4.lt
 have i5 := h5.lt
 have c0 := h2.cell 0
 have c1 := h2.cell 1
 have c2 := h2.cell 2
 simp only [List.getElem?_toArray, List.getElem?_cons_zero, List.getElem?_cons_succ] at c0 c1 c2
 have hio : iv.oneCell' = true := by obtain ⟨_, _, _, h3, _⟩ := hr; exact h3.one
 have hoo := hr.1.one
 have hmo := hr.2.1.one
 have hcl : ∀ ww, Below w.heap.size w ww → Calls Tryz.prog 106 #[.agg #[iv, ov, mv]] ww _ := fun ww hb => clone39 iv ov mv S ww (hr.below hb (Nat.le_refl _)) hwf
 have n25 := h2.ne_ h5 (by decide)
 have n45 := h4.ne_ h5 (by decide)
 have H0 := Lib.hid (And.intro h2 (And.intro h4 h5))
 clear h2 h4 h5 hr
 go_upto_region 5 with fail
 refine wp_region_eff [1, 5, 6] true (fun w' => w'.cell? ⟨k2, 0, none⟩ = some iv ∧ w'.cell? ⟨k2, 1, none⟩ = some ov ∧ w'.cell? ⟨k2, 2, none⟩ = some mv ∧ w'.cell? ⟨w.heap.size, 0, none⟩ = some (.int .i64 code)) (by kernel_rfl) (by kernel_rfl) ?_ ?_
 · (try dsimp only); (repeat' apply And.intro) <;> go_simp
 repeat
  refine wpL_look rfl rfl ?_; apply Exists.intro; refine ⟨?_, ?_⟩
  focus
   rintro w' ⟨s0, s1, s2, s3⟩; go_simp
   first | done | rfl
  simp only [Act.put, List.setIfInBounds_toArray, List.set_cons_zero, List.set_cons_succ]
 refine wpL_act rfl rfl ?_
 refine eff_call 106 #[.agg #[iv, ov, mv]] ?hr ?_
 case hr =>
  go_simp
  first | done | rfl
 refine (hcl (w.alloc (.cells #[.int .i64 code] 132)).drew (bel w _)).mono ?_
 rintro e w2 ⟨iv', ov', mv', rfl, hb2, hso⟩
 have hbw : Below w.heap.size w w2 := (bel w (w.alloc (.cells #[.int .i64 code] 132)).drew).trans (hb2.mono (bel w (w.alloc (.cells #[.int .i64 code] 132)).drew).size)
 have iB2 : Bel w w2 := ⟨hbw⟩
 have g2 := H0.out.1.below hbw i2.lt
 have g4 := H0.out.2.1.below hbw i4.lt
 have g5 := H0.out.2.2.below hbw i5.lt
 have gc : Blk w2 w.heap.size #[.int .i64 code] 132 := ((Blk.new w _ 132).drew).below hb2 (by show w.heap.size < (w.alloc (.cells #[.int .i64 code] 132)).heap.size; simp)
 have j2 := g2.lt
 have j4 := g4.lt
 have j5 := g5.lt
 have jc := gc.lt
 have x0 := g2.cell 0
 have x1 := g2.cell 1
 have x2 := g2.cell 2
 have xc := gc.cell 0
 have y0 := g4.cell 0
 have y1 := g4.cell 1
 have y2 := g4.cell 2
 have q0 := g5.cell 0
 have q1 := g5.cell 1
 have q2 := g5.cell 2
 have q3 := g5.cell 3
 have q4 := g5.cell 4
 have q5 := g5.cell 5
 simp only [List.getElem?_toArray, List.getElem?_cons_zero, List.getElem?_cons_succ] at x0 x1 x2 xc y0 y1 y2 q0 q1 q2 q3 q4 q5
 have fy0 := g4.frozen 0
 have fy1 := g4.frozen 1
 have fy2 := g4.frozen 2
 have fq0 := g5.frozen 0
 have fq1 := g5.frozen 1
 have fq2 := g5.frozen 2
 have fq3 := g5.frozen 3
 have fq4 := g5.frozen 4
 have fq5 := g5.frozen 5
 have m2 : ¬ k4 = k2 := fun e => n24 e.symm
 have mc : ¬ k4 = w.heap.size := by have := i4.lt; omega
 have mc' : ¬ w.heap.size = k4 := by have := i4.lt; omega
 have m5 : ¬ k5 = k4 := fun e => n45 e.symm
 obtain ⟨ja, jn, jcap, rfl⟩ : ∃ a n c, iv' = .slice a n c := by obtain ⟨_, _, _, h3, _⟩ := hso.read; obtain ⟨a, c, e, _⟩ := h3; exact ⟨_, _, _, e⟩
 obtain ⟨ka, kn, kcap, rfl⟩ : ∃ a n c, ov' = .slice a n c := by obtain ⟨a, c, e, _⟩ := hso.read.1; exact ⟨_, _, _, e⟩
 obtain ⟨la, ln, lcap, rfl⟩ : ∃ a n c, mv' = .slice a n c := by obtain ⟨a, c, e, _⟩ := hso.read.2.1; exact ⟨_, _, _, e⟩
 have H2 := Lib.hid (And.intro g2 (And.intro g4 (And.intro g5 (And.intro hso hbw))))
 clear g2 g4 g5 gc hso hb2 hbw
 refine ⟨_, rfl, .inl ⟨x0, x1, x2, xc⟩, ?_⟩
 simp only [Act.put, List.setIfInBounds_toArray, List.set_cons_zero, List.set_cons_succ]
 repeat
  refine wpL_look rfl rfl ?_; apply Exists.intro; refine ⟨?_, ?_⟩
  focus
   rintro w' ⟨s0, s1, s2, s3⟩; go_simp
   first | done | rfl
  simp only [Act.put, List.setIfInBounds_toArray, List.set_cons_zero, List.set_cons_succ]
 refine wpL_skip rfl rfl ?_
 apply Exists.intro
 refine ⟨?_, ?_, ?_⟩
 focus
  go_simp; rfl
 focus
  refine .inl ⟨?_, ?_, ?_, ?_⟩ <;> go_simp
 simp only [Act.put, List.setIfInBounds_toArray, List.set_cons_zero, List.set_cons_succ]
 refine wpL_skip rfl rfl ?_
 apply Exists.intro
 refine ⟨?_, .inr ⟨rfl, rfl⟩, ?_⟩
 focus
  go_simp; rfl
 simp only [Act.put]
 refine wpL_end ?_
 obtain ⟨g2, g4, g5, hso, hbw⟩ := H2.out
 have hk4 : Keep (fun k => k = k4) w2 (((w2.setCell ⟨k4, 0, none⟩ (.slice ja jn jcap)).setCell ⟨k4, 1, none⟩ (.slice ka kn kcap)).setCell ⟨k4, 2, none⟩ (.slice la ln lcap)) :=
  Keep.setCell (S := fun k => k = k4) (p := ⟨k4, 2, none⟩) (Keep.setCell (S := fun k => k = k4) (p := ⟨k4, 1, none⟩) (Keep.setCell (S := fun k => k = k4) (p := ⟨k4, 0, none⟩) (Keep.refl _ _) (.inl rfl) _) (.inl rfl) _) (.inl rfl) _
 have b4 : Blk (((w2.setCell ⟨k4, 0, none⟩ (.slice ja jn jcap)).setCell ⟨k4, 1, none⟩ (.slice ka kn kcap)).setCell ⟨k4, 2, none⟩ (.slice la ln lcap)) k4 #[.slice ja jn jcap, .slice ka kn kcap, .slice la ln lcap] 26 := ((g4.set_ 0 _).set_ 1 _).set_ 2 _
 have b5 := hk4.blk g5 (fun e => n45 e.symm)
 generalize (((w2.setCell ⟨k4, 0, none⟩ (.slice ja jn jcap)).setCell ⟨k4, 1, none⟩ (.slice ka kn kcap)).setCell ⟨k4, 2, none⟩ (.slice la ln lcap)) = w3 at hk4 b4 b5 ⊢
 have hk5 : Keep (fun k => k = k5) w3 ((((((w3.setCell ⟨k5, 0, none⟩ (.int .i64 code)).setCell ⟨k5, 1, none⟩ (.int .i64 0)).setCell ⟨k5, 2, none⟩ (.int .i64 0)).setCell ⟨k5, 3, none⟩ (.bool false)).setCell ⟨k5, 4, none⟩ (.string { data := #[] })).setCell ⟨k5, 5, none⟩ (.slice none 0 0)) :=
  Keep.setCell (S := fun k => k = k5) (p := ⟨k5, 5, none⟩) (Keep.setCell (S := fun k => k = k5) (p := ⟨k5, 4, none⟩) (Keep.setCell (S := fun k => k = k5) (p := ⟨k5, 3, none⟩) (Keep.setCell (S := fun k => k = k5) (p := ⟨k5, 2, none⟩) (Keep.setCell (S := fun k => k = k5) (p := ⟨k5, 1, none⟩) (Keep.setCell (S := fun k => k = k5) (p := ⟨k5, 0, none⟩) (Keep.refl _ _) (.inl rfl) _) (.inl rfl) _) (.inl rfl) _) (.inl rfl) _) (.inl rfl) _) (.inl rfl) _
 have c5 : Blk ((((((w3.setCell ⟨k5, 0, none⟩ (.int .i64 code)).setCell ⟨k5, 1, none⟩ (.int .i64 0)).setCell ⟨k5, 2, none⟩ (.int .i64 0)).setCell ⟨k5, 3, none⟩ (.bool false)).setCell ⟨k5, 4, none⟩ (.string { data := #[] })).setCell ⟨k5, 5, none⟩ (.slice none 0 0)) k5 #[.int .i64 code, .int .i64 0, .int .i64 0, .bool false, .string ByteArray.empty, .slice none 0 0] 52 :=
  (((((b5.set_ 0 _).set_ 1 _).set_ 2 _).set_ 3 _).set_ 4 _).set_ 5 _
 have c4 := hk5.blk b4 n45
 have hK : Keep (fun k => k = k4 ∨ k = k5) w2 ((((((w3.setCell ⟨k5, 0, none⟩ (.int .i64 code)).setCell ⟨k5, 1, none⟩ (.int .i64 0)).setCell ⟨k5, 2, none⟩ (.int .i64 0)).setCell ⟨k5, 3, none⟩ (.bool false)).setCell ⟨k5, 4, none⟩ (.string { data := #[] })).setCell ⟨k5, 5, none⟩ (.slice none 0 0)) :=
  (hk4.mono (fun i _ h => .inl h)).trans (hk5.mono (fun i _ h => .inr h)) (fun i _ h => h)
 have hw := hbw.size
 refine ⟨rfl, _, rfl, .tuple #[], by simp [results, Tryz.results107, go_sem], rfl, rfl, (hbw.mono hB).trans (hK.below (by omega) (fun i hi h => by rcases h with h | h <;> omega)), _, _, _, c4, c5, ?_⟩
 refine (hso.mono (by show B ≤ (w.alloc (.cells #[.int .i64 code] 132)).heap.size; simp; omega)).keep hK (fun g hg => ?_)
 rcases hg with rfl | rfl
 · exact ⟨_, 26, g4, by decide, by decide, by decide, by decide⟩
 · exact ⟨_, 52, g5, by decide, by decide, by decide, by decide⟩
end Go.Proofs.YtmkapobnfigedaaGreatDoor
