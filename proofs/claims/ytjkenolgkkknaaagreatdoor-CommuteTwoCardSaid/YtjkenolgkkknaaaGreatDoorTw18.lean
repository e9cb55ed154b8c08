/- view.paths of package commute at Link and Rename. Conditions: none. Link and Rename, done. Conditions: none. The reference's names: runes, Check, Hash, Bucket, Below, Code. Conditions: none. -/
import Derived.Test.YtjkenolgkkknaaaGreatDoorTw14
import Derived.Test.YtjkenolgkkknaaaGreatDoorTw13
import Derived.Test.YtjkenolgkkknaaaGreatDoorTw17
set_option linter.unusedVariables false
set_option linter.unusedSimpArgs false
namespace Go.Proofs.YtjkenolgkkknaaaGreatDoor
open Go.RowKit
theorem VwAt.counts_at {w : World} {k p : Nat} {c : PCall} {fine : Bool} {L T : List (Int × Int)} {M : List Int} {by_ co go : Int} (h : VwAt w k p c fine L T M by_ co go) (n : Int) :
    VwAt (w.setCell ⟨k, 14, none⟩ (.int .i64 n)) k p c fine L T M by_ n go := by
  obtain ⟨lv, tv, mv, h1, h2, h3, h4⟩ := h
  refine ⟨lv, tv, mv, ?_, own_set h2 h1 (by decide) _ _, own_set h3 h1 (by decide) _ _, own_set h4 h1 (by decide) _ _⟩
  have := h1.set_ 14 (.int .i64 n)
  simpa [vwCells] using this
set_option maxRecDepth 100000 in
set_option maxHeartbeats 8000000 in
theorem paths_link (k p : Nat) (S : PSt) (c : PCall) (fine : Bool) (w : World) (h : VwNew w k p c fine) (hL : Laid k (fun w => SP w p S) w) (hwf : S.wf) (hlk : linkedB S = true) (hk : c.kind = 8) (hp : (parseM c.path).1 = 0) (hnl : (parseM c.path).2.length ≤ 1000000000) (hp2 : (parseM c.path2).1 = 0) (hnl2 : (parseM c.path2).2.length ≤ 1000000000)
    (R1 R2 : VRes) (hR1 : vwalkF S (parseM c.path).2 (0, 0) 1 [] [1] = R1) (hR2 : vwalkF S (parseM c.path2).2 (0, 0) 1 R1.L (R1.M ++ [1]) = R2) (hl1 : R1.L.length ≤ 1000000000) (hm1 : R1.M.length ≤ 1000000000) :
    Calls Tryz.prog 44 #[.pointer (some ⟨k, 0, none⟩)] w fun e w' => e = .returned (.tuple #[]) ∧ VwAt w' k p c fine R2.L [R2.last] R2.M 0 R1.num 0 ∧ Below k w w' := by
  obtain ⟨i9x, hi9, h90, h91, h92⟩ := info_parts info91
  have iK := h.lt
  have hkw : k ≤ w.heap.size := by have := iK.lt; omega
  have c1 : w.cell? ⟨k, 1, none⟩ = some (.int .i64 c.kind) := h.cell 1
  have c6 : w.cell? ⟨k, 6, none⟩ = some (.string c.path) := h.cell 6
  have hwalk : ∀ ww b3, Below w.heap.size w ww → Blk ww b3 #[.int .i64 0, .int .i64 0] 91 → Calls Tryz.prog 89 #[.pointer (some ⟨k, 0, none⟩), .string c.path] ww _ := fun ww b3 hb h3 =>
    walk89 k k p b3 _ S _ [] [] c.path _ _ ww (VwNew.own (h.below hb iK.lt) b3 _ h3) (hL.below (hb.mono hkw)) (Nat.le_trans hkw hb.size) hwf hlk hp hnl (by simp) (by simp)
  simp only [List.nil_append] at hwalk
  rw [hR1] at hwalk
  have hwalk2 : ∀ ww b3 c3 lv mv, Below k w ww → VwOwn k ww k p b3 c3 ⟨c, fine, .slice none 0 0, 0, 0, 0⟩ R1.L R1.M lv mv → k ≤ ww.heap.size → Calls Tryz.prog 89 #[.pointer (some ⟨k, 0, none⟩), .string c.path2] ww fun e w' => e = .returned (.tuple #[pairAt R2.last, .int .i64 R2.num]) ∧ (∃ lv' mv', VwOwn k w' k p b3 c3 ⟨c, fine, .slice none 0 0, 0, 0, 0⟩ R2.L R2.M lv' mv') ∧ Below k ww w' := fun ww b3 c3 lv mv hb hv hkk => by
    have := walk89 k k p b3 c3 S _ R1.L R1.M c.path2 lv mv ww hv (hL.below hb) hkk hwf hlk hp2 hnl2 hl1 hm1
    rw [hR2] at this
    exact this
  obtain ⟨⟨l1, l2⟩, rn, RL, RM⟩ := R1
  obtain ⟨⟨g1, g2⟩, gn, GL, GM⟩ := R2
  unfold pairAt at hwalk hwalk2
  simp only at hwalk hwalk2 ⊢
  have H := Lib.hid h
  clear h hL hwf hlk hp hnl hp2 hnl2 hR1 hR2 hl1 hm1
  rw [hk] at c1
  go_enter Tryz.func44, Tryz.ntmps44
  go_upto_region 4 with (go_at_call 89; refine (hwalk _ w.heap.size (bel w _) (Blk.new _ _ _)).mono ?_; rintro e w1 ⟨rfl, ⟨lv1, mv1, hv1⟩, hb1⟩; have e0 : w1.cell? ⟨w.heap.size, 0, none⟩ = some (.int .i64 0) := hv1.ex.cell 0; have e1 : w1.cell? ⟨w.heap.size, 1, none⟩ = some (.int .i64 0) := hv1.ex.cell 1; have f0 := hv1.ex.frozen 0; have f1 := hv1.ex.frozen 1; have i3 := hv1.ex.lt; have HV1 := Lib.hid (And.intro hv1 hb1); clear hv1 hb1)
  refine abs_world (F := fun wA => VwOwn k wA k p w.heap.size #[.int .i64 l1, .int .i64 l2] ⟨c, fine, .slice none 0 0, 0, 0, 0⟩ RL RM lv1 mv1 ∧ Below k w wA) ⟨HV1.out.1.exSet _ _, ((((bel w (w.alloc (Obj.cells #[.int .i64 0, .int .i64 0] 91))).mono hkw).trans HV1.out.2).setCell (p := ⟨w.heap.size, 0, none⟩) hkw _).setCell (p := ⟨w.heap.size, 1, none⟩) hkw _⟩ ?_
  clear e0 e1 f0 f1 i3 HV1 c1 c6
  rintro wA ⟨hVA, hbA⟩
  have a1 : wA.cell? ⟨k, 1, none⟩ = some (.int .i64 c.kind) := hVA.blk.cell 1
  rw [hk] at a1
  have a7 : wA.cell? ⟨k, 7, none⟩ = some (.string c.path2) := hVA.blk.cell 7
  have iKA := hVA.blk.lt
  have hkA : k ≤ wA.heap.size := by have := iKA.lt; omega
  have hw2 := hwalk2 wA w.heap.size _ lv1 mv1 hbA hVA hkA
  have q0 : wA.cell? ⟨w.heap.size, 0, none⟩ = some (.int .i64 l1) := hVA.ex.cell 0
  have q1 : wA.cell? ⟨w.heap.size, 1, none⟩ = some (.int .i64 l2) := hVA.ex.cell 1
  have i3A := hVA.ex.lt
  have HA := Lib.hid (And.intro hVA hbA)
  clear hVA hbA hwalk hwalk2
  go_upto_region 10 with (go_at_call 89; refine hw2.mono ?_; rintro e w2 ⟨rfl, ⟨lv2, mv2, hv2⟩, hb2⟩; have e0 : w2.cell? ⟨w.heap.size, 0, none⟩ = some (.int .i64 l1) := hv2.ex.cell 0; have e1 : w2.cell? ⟨w.heap.size, 1, none⟩ = some (.int .i64 l2) := hv2.ex.cell 1; have f0 := hv2.ex.frozen 0; have f1 := hv2.ex.frozen 1; have i3 := hv2.ex.lt; have HV2 := Lib.hid (And.intro hv2 hb2); clear hv2 hb2)
  refine abs_world (F := fun wB => VwOwn k wB k p w.heap.size #[.int .i64 g1, .int .i64 g2] ⟨c, fine, .slice none 0 0, 0, 0, 0⟩ GL GM lv2 mv2 ∧ Below k w wB ∧ True) ⟨HV2.out.1.exSet _ _, ((HA.out.2.trans HV2.out.2).setCell (p := ⟨w.heap.size, 0, none⟩) hkw _).setCell (p := ⟨w.heap.size, 1, none⟩) hkw _, trivial⟩ ?_
  clear e0 e1 f0 f1 i3 HV2 HA hw2 a7 q0 q1 iKA i3A a1
  rintro wB ⟨hVB, hbB, -⟩
  have b11 : wB.cell? ⟨k, 11, none⟩ = some (.slice none 0 0) := hVB.blk.cell 11
  have q0 : wB.cell? ⟨w.heap.size, 0, none⟩ = some (.int .i64 g1) := hVB.ex.cell 0
  have q1 : wB.cell? ⟨w.heap.size, 1, none⟩ = some (.int .i64 g2) := hVB.ex.cell 1
  have iKB := hVB.blk.lt
  have i3B := hVB.ex.lt
  have hkB : k ≤ wB.heap.size := by have := iKB.lt; omega
  have HB := Lib.hid (And.intro hVB (And.intro hbB trivial))
  clear hVB hbB
  refine wp_region_eff [6, 7, 10] true (fun w' => w'.cell? ⟨k, 11, none⟩ = some (.slice none 0 0) ∧ w'.cell? ⟨w.heap.size, 0, none⟩ = some (.int .i64 g1) ∧ w'.cell? ⟨w.heap.size, 1, none⟩ = some (.int .i64 g2)) (by kernel_rfl) (by kernel_rfl) ?_ ?_
  · (try dsimp only); (repeat' apply And.intro) <;> go_simp
  repeat
    refine wpL_look rfl rfl ?_
    apply Exists.intro
    refine ⟨?_, ?_⟩
    focus
      rintro w' ⟨s0, s1, s2⟩
      go_simp
      first | done | rfl
    simp only [Act.put, List.setIfInBounds_toArray, List.set_cons_zero, List.set_cons_succ]
  refine wpL_do rfl rfl ?_
  apply Exists.intro
  apply Exists.intro
  refine ⟨?_, ?_, ?_⟩
  focus
    go_simp
    exact ⟨rfl, rfl⟩
  focus
    refine .inl ?_
    (try dsimp only); (repeat' apply And.intro) <;> go_simp
  simp only [Act.put, List.setIfInBounds_toArray, List.set_cons_zero, List.set_cons_succ]
  refine wpL_act rfl rfl ?_
  refine eff_append (.tmp 72) (.tmp 74) 60 ?e00 k 91 i9x (.agg #[.int .i64 0, .int .i64 0]) 2 16 Tryz.underlying60 hi9 h90 h91 h92 ?e9 ?e10 (.slice none 0 0) 0 [] ?e1 ?e2 ⟨wB.heap.size, 0, none⟩ 1 1 [.int .i64 g1, .int .i64 g2] ?e3 ?e4 ?news ?e5 ?e6 ?e7 ?e8 ?_
  case e00 => rfl
  case e9 => rfl
  case e10 => decide
  case e1 => rfl
  case e3 => rfl
  case e4 => rfl
  case e2 => exact World.ownsRow_nil _ k 91 2
  case e5 => intro u hu; simp at hu; rcases hu with rfl | rfl <;> rfl
  case e6 => unfold maxLen; omega
  case e7 => omega
  case e8 => simp; omega
  case news => exact news_new wB.drew [.int .i64 g1, .int .i64 g2] 91 wB.heap.size
  intro v' w5 hown5 hgrow hloc
  obtain ⟨a', cp', rfl⟩ := own_form hown5
  have hVB2 := HB.out.1.below (bel wB (wB.drew.alloc (Obj.cells #[.int .i64 g1, .int .i64 g2] 91)))
  have hfin := hVB2.turns (T := [(g1, g2)]) hgrow hown5
  have hbk5 : Blk w5 k _ 62 := hVB2.grown_blk (v := .slice none 0 0) hgrow (by simp [Value.ownBlock])
  have hx5 : Blk w5 w.heap.size #[.int .i64 g1, .int .i64 g2] 91 := (hgrow.block _ (by have := i3B.lt; simp; omega) (by simp [Value.ownBlock])).trans hVB2.ex
  have b11 : w5.cell? ⟨k, 11, none⟩ = some (.slice none 0 0) := hbk5.cell 11
  have f11 : w5.frozen? ⟨k, 11, none⟩ = false := hbk5.frozen 11
  have r0 : w5.cell? ⟨w.heap.size, 0, none⟩ = some (.int .i64 g1) := hx5.cell 0
  have r1 : w5.cell? ⟨w.heap.size, 1, none⟩ = some (.int .i64 g2) := hx5.cell 1
  have iK5 := hbk5.lt
  have hb5 : Below k w (w5.setCell ⟨k, 11, none⟩ (.slice a' (0 + 1) cp')) := HB.out.2.1.trans (((bel wB (wB.drew.alloc (Obj.cells #[.int .i64 g1, .int .i64 g2] 91))).mono hkB).trans (turned_below (v := .slice none 0 0) hgrow (by simp; omega) (Nat.le_refl _) (fun g hg => by simp [Value.ownBlock] at hg)))
  have HF := Lib.hid (And.intro hfin hb5)
  clear hown5 hgrow hloc hVB2 hfin hb5 hbk5 hx5
  refine ⟨.inl ?_, ?_⟩
  focus
    (try dsimp only); (repeat' apply And.intro) <;> go_simp
  simp only [Act.put, List.setIfInBounds_toArray, List.set_cons_zero, List.set_cons_succ]
  repeat
    refine wpL_look rfl rfl ?_
    apply Exists.intro
    refine ⟨?_, ?_⟩
    focus
      rintro w' ⟨s0, s1, s2⟩
      go_simp
      first | done | rfl
    simp only [Act.put, List.setIfInBounds_toArray, List.set_cons_zero, List.set_cons_succ]
  refine wpL_skip rfl rfl ?_
  refine ⟨w5.setCell ⟨k, 11, none⟩ (.slice a' (0 + 1) cp'), ?_, .inr ⟨rfl, rfl⟩, ?_⟩
  focus
    go_simp
  simp only [Act.put, List.setIfInBounds_toArray, List.set_cons_zero, List.set_cons_succ]
  refine wpL_end ?_
  go_upto_region 11 with fail
  refine abs_world (F := fun wC => VwAt wC k p c fine GL [(g1, g2)] GM 0 0 0 ∧ Below k w wC) HF.out ?_
  clear HF b11 q0 q1 iKB i3B f11 r0 r1 HB iK5
  rintro wC ⟨hVC, hbC⟩
  obtain ⟨lv5, tv5, mv5, g5, _⟩ := id hVC
  have c14 : wC.cell? ⟨k, 14, none⟩ = some (.int .i64 0) := g5.cell 14
  have f14 := g5.frozen 14
  have iC := g5.lt
  have HC := Lib.hid (And.intro (hVC.counts_at rn) (hbC.setCell (p := ⟨k, 14, none⟩) (Nat.le_refl _) (.int .i64 rn)))
  clear hVC hbC g5
  go_wp2_with fail
  exact bodyPost_end (v := .tuple #[]) (by simp [results, go_sem]) rfl ⟨rfl, HC.out⟩
set_option maxRecDepth 100000 in
set_option maxHeartbeats 8000000 in
theorem paths_rename (k p : Nat) (S : PSt) (c : PCall) (fine : Bool) (w : World) (h : VwNew w k p c fine) (hL : Laid k (fun w => SP w p S) w) (hwf : S.wf) (hlk : linkedB S = true) (hk : c.kind = 11) (hp : (parseM c.path).1 = 0) (hnl : (parseM c.path).2.length ≤ 1000000000) (hp2 : (parseM c.path2).1 = 0) (hnl2 : (parseM c.path2).2.length ≤ 1000000000)
    (R1 R2 : VRes) (hR1 : vwalkF S (parseM c.path).2 (0, 0) 1 [] [1] = R1) (hR2 : vwalkF S (parseM c.path2).2 (0, 0) 1 R1.L (R1.M ++ [1]) = R2) (hl1 : R1.L.length ≤ 1000000000) (hm1 : R1.M.length ≤ 1000000000) :
    Calls Tryz.prog 44 #[.pointer (some ⟨k, 0, none⟩)] w fun e w' => e = .returned (.tuple #[]) ∧ VwAt w' k p c fine R2.L [R1.last, R2.last] R2.M 0 0 0 ∧ Below k w w' := by
  obtain ⟨i9x, hi9, h90, h91, h92⟩ := info_parts info91
  have iK := h.lt
  have hkw : k ≤ w.heap.size := by have := iK.lt; omega
  have c1 : w.cell? ⟨k, 1, none⟩ = some (.int .i64 c.kind) := h.cell 1
  have c6 : w.cell? ⟨k, 6, none⟩ = some (.string c.path) := h.cell 6
  have hwalk : ∀ ww b3, Below w.heap.size w ww → Blk ww b3 #[.int .i64 0, .int .i64 0] 91 → Calls Tryz.prog 89 #[.pointer (some ⟨k, 0, none⟩), .string c.path] ww _ := fun ww b3 hb h3 =>
    walk89 k k p b3 _ S _ [] [] c.path _ _ ww (VwNew.own (h.below hb iK.lt) b3 _ h3) (hL.below (hb.mono hkw)) (Nat.le_trans hkw hb.size) hwf hlk hp hnl (by simp) (by simp)
  simp only [List.nil_append] at hwalk
  rw [hR1] at hwalk
  have hwalk2 : ∀ ww b3 c3 lv mv, Below k w ww → VwOwn k ww k p b3 c3 ⟨c, fine, .slice none 0 0, 0, 0, 0⟩ R1.L R1.M lv mv → k ≤ ww.heap.size → Calls Tryz.prog 89 #[.pointer (some ⟨k, 0, none⟩), .string c.path2] ww fun e w' => e = .returned (.tuple #[pairAt R2.last, .int .i64 R2.num]) ∧ (∃ lv' mv', VwOwn k w' k p b3 c3 ⟨c, fine, .slice none 0 0, 0, 0, 0⟩ R2.L R2.M lv' mv') ∧ Below k ww w' := fun ww b3 c3 lv mv hb hv hkk => by
    have := walk89 k k p b3 c3 S _ R1.L R1.M c.path2 lv mv ww hv (hL.below hb) hkk hwf hlk hp2 hnl2 hl1 hm1
    rw [hR2] at this
    exact this
  obtain ⟨⟨l1, l2⟩, rn, RL, RM⟩ := R1
  obtain ⟨⟨g1, g2⟩, gn, GL, GM⟩ := R2
  unfold pairAt at hwalk hwalk2
  simp only at hwalk hwalk2 ⊢
  have H := Lib.hid h
  clear h hL hwf hlk hp hnl hp2 hnl2 hR1 hR2 hl1 hm1
  rw [hk] at c1
  go_enter Tryz.func44, Tryz.ntmps44
  go_upto_region 4 with (go_at_call 89; refine (hwalk _ w.heap.size (bel w _) (Blk.new _ _ _)).mono ?_; rintro e w1 ⟨rfl, ⟨lv1, mv1, hv1⟩, hb1⟩; have e0 : w1.cell? ⟨w.heap.size, 0, none⟩ = some (.int .i64 0) := hv1.ex.cell 0; have e1 : w1.cell? ⟨w.heap.size, 1, none⟩ = some (.int .i64 0) := hv1.ex.cell 1; have f0 := hv1.ex.frozen 0; have f1 := hv1.ex.frozen 1; have i3 := hv1.ex.lt; have HV1 := Lib.hid (And.intro hv1 hb1); clear hv1 hb1)
  refine abs_world (F := fun wA => VwOwn k wA k p w.heap.size #[.int .i64 l1, .int .i64 l2] ⟨c, fine, .slice none 0 0, 0, 0, 0⟩ RL RM lv1 mv1 ∧ Below k w wA) ⟨HV1.out.1.exSet _ _, ((((bel w (w.alloc (Obj.cells #[.int .i64 0, .int .i64 0] 91))).mono hkw).trans HV1.out.2).setCell (p := ⟨w.heap.size, 0, none⟩) hkw _).setCell (p := ⟨w.heap.size, 1, none⟩) hkw _⟩ ?_
  clear e0 e1 f0 f1 i3 HV1 c1 c6
  rintro wA ⟨hVA, hbA⟩
  have a1 : wA.cell? ⟨k, 1, none⟩ = some (.int .i64 c.kind) := hVA.blk.cell 1
  rw [hk] at a1
  have a7 : wA.cell? ⟨k, 7, none⟩ = some (.string c.path2) := hVA.blk.cell 7
  have iKA := hVA.blk.lt
  have hkA : k ≤ wA.heap.size := by have := iKA.lt; omega
  have hw2 := hwalk2 wA w.heap.size _ lv1 mv1 hbA hVA hkA
  have q0 : wA.cell? ⟨w.heap.size, 0, none⟩ = some (.int .i64 l1) := hVA.ex.cell 0
  have q1 : wA.cell? ⟨w.heap.size, 1, none⟩ = some (.int .i64 l2) := hVA.ex.cell 1
  have i3A := hVA.ex.lt
  have HA := Lib.hid (And.intro hVA hbA)
  clear hVA hbA hwalk hwalk2
  go_upto_region 22 with (go_at_call 89; refine hw2.mono ?_; rintro e w2 ⟨rfl, ⟨lv2, mv2, hv2⟩, hb2⟩; have e0 : w2.cell? ⟨w.heap.size, 0, none⟩ = some (.int .i64 l1) := hv2.ex.cell 0; have e1 : w2.cell? ⟨w.heap.size, 1, none⟩ = some (.int .i64 l2) := hv2.ex.cell 1; have f0 := hv2.ex.frozen 0; have f1 := hv2.ex.frozen 1; have i3 := hv2.ex.lt; have HV2 := Lib.hid (And.intro hv2 hb2); clear hv2 hb2)
  refine abs_world (F := fun wB => VwOwn k wB k p w.heap.size #[.int .i64 l1, .int .i64 l2] ⟨c, fine, .slice none 0 0, 0, 0, 0⟩ GL GM lv2 mv2 ∧ Below k w wB ∧ Blk wB w2.heap.size #[.int .i64 g1, .int .i64 g2] 91) ⟨HV2.out.1.below (bel w2 _), (HA.out.2.trans HV2.out.2).trans ((bel w2 _).mono (by have := HV2.out.2.size; omega)), Blk.new _ _ _⟩ ?_
  clear e0 e1 f0 f1 i3 HA hw2 a7 q0 q1 iKA i3A a1
  rintro wB ⟨hVB, hbB, h5⟩
  have b11 : wB.cell? ⟨k, 11, none⟩ = some (.slice none 0 0) := hVB.blk.cell 11
  have q0 : wB.cell? ⟨w.heap.size, 0, none⟩ = some (.int .i64 l1) := hVB.ex.cell 0
  have q1 : wB.cell? ⟨w.heap.size, 1, none⟩ = some (.int .i64 l2) := hVB.ex.cell 1
  have y0 : wB.cell? ⟨w2.heap.size, 0, none⟩ = some (.int .i64 g1) := h5.cell 0
  have y1 : wB.cell? ⟨w2.heap.size, 1, none⟩ = some (.int .i64 g2) := h5.cell 1
  have i5 := h5.lt
  have iKB := hVB.blk.lt
  have i3B := hVB.ex.lt
  have hkB : k ≤ wB.heap.size := by have := iKB.lt; omega
  have HB := Lib.hid (And.intro hVB (And.intro hbB h5))
  clear hVB hbB h5
  refine wp_region_eff [7, 8, 11] true (fun w' => w'.cell? ⟨k, 11, none⟩ = some (.slice none 0 0) ∧ w'.cell? ⟨w.heap.size, 0, none⟩ = some (.int .i64 l1) ∧ w'.cell? ⟨w.heap.size, 1, none⟩ = some (.int .i64 l2) ∧ w'.cell? ⟨w2.heap.size, 0, none⟩ = some (.int .i64 g1) ∧ w'.cell? ⟨w2.heap.size, 1, none⟩ = some (.int .i64 g2)) (by kernel_rfl) (by kernel_rfl) ?_ ?_
  · (try dsimp only); (repeat' apply And.intro) <;> go_simp
  repeat
    refine wpL_look rfl rfl ?_
    apply Exists.intro
    refine ⟨?_, ?_⟩
    focus
      rintro w' ⟨s0, s1, s2, s3, s4⟩
      go_simp
      first | done | rfl
    simp only [Act.put, List.setIfInBounds_toArray, List.set_cons_zero, List.set_cons_succ]
  refine wpL_do rfl rfl ?_
  apply Exists.intro
  apply Exists.intro
  refine ⟨?_, ?_, ?_⟩
  focus
    go_simp
    exact ⟨rfl, rfl⟩
  focus
    refine .inl ?_
    (try dsimp only); (repeat' apply And.intro) <;> go_simp
  simp only [Act.put, List.setIfInBounds_toArray, List.set_cons_zero, List.set_cons_succ]
  refine wpL_act rfl rfl ?_
  refine eff_append (.tmp 142) (.tmp 145) 60 ?e00 k 91 i9x (.agg #[.int .i64 0, .int .i64 0]) 2 16 Tryz.underlying60 hi9 h90 h91 h92 ?e9 ?e10 (.slice none 0 0) 0 [] ?e1 ?e2 ⟨wB.heap.size, 0, none⟩ 2 2 [.int .i64 l1, .int .i64 l2, .int .i64 g1, .int .i64 g2] ?e3 ?e4 ?news ?e5 ?e6 ?e7 ?e8 ?_
  case e00 => rfl
  case e9 => rfl
  case e10 => decide
  case e1 => rfl
  case e3 => rfl
  case e4 => rfl
  case e2 => exact World.ownsRow_nil _ k 91 2
  case e5 => intro u hu; simp at hu; rcases hu with rfl | rfl | rfl | rfl <;> rfl
  case e6 => unfold maxLen; omega
  case e7 => omega
  case e8 => simp; omega
  case news => exact news_new wB.drew [.int .i64 l1, .int .i64 l2, .int .i64 g1, .int .i64 g2] 91 wB.heap.size
  intro v' w5 hown5 hgrow hloc
  obtain ⟨a', cp', rfl⟩ := own_form hown5
  have hVB2 := HB.out.1.below (bel wB (wB.drew.alloc (Obj.cells #[.int .i64 l1, .int .i64 l2, .int .i64 g1, .int .i64 g2] 91)))
  have hfin := hVB2.turns (T := [(l1, l2), (g1, g2)]) hgrow hown5
  have hbk5 : Blk w5 k _ 62 := hVB2.grown_blk (v := .slice none 0 0) hgrow (by simp [Value.ownBlock])
  have hx5 : Blk w5 w.heap.size #[.int .i64 l1, .int .i64 l2] 91 := (hgrow.block _ (by have := i3B.lt; simp; omega) (by simp [Value.ownBlock])).trans hVB2.ex
  have b11 : w5.cell? ⟨k, 11, none⟩ = some (.slice none 0 0) := hbk5.cell 11
  have f11 : w5.frozen? ⟨k, 11, none⟩ = false := hbk5.frozen 11
  have r0 : w5.cell? ⟨w.heap.size, 0, none⟩ = some (.int .i64 l1) := hx5.cell 0
  have r1 : w5.cell? ⟨w.heap.size, 1, none⟩ = some (.int .i64 l2) := hx5.cell 1
  have hz5 : Blk w5 w2.heap.size #[.int .i64 g1, .int .i64 g2] 91 := (hgrow.block _ (by have := i5.lt; simp; omega) (by simp [Value.ownBlock])).trans (HB.out.2.2.drew.alloc _)
  have z0 : w5.cell? ⟨w2.heap.size, 0, none⟩ = some (.int .i64 g1) := hz5.cell 0
  have z1 : w5.cell? ⟨w2.heap.size, 1, none⟩ = some (.int .i64 g2) := hz5.cell 1
  have iK5 := hbk5.lt
  have hb5 : Below k w (w5.setCell ⟨k, 11, none⟩ (.slice a' (0 + 2) cp')) := HB.out.2.1.trans (((bel wB (wB.drew.alloc (Obj.cells #[.int .i64 l1, .int .i64 l2, .int .i64 g1, .int .i64 g2] 91))).mono hkB).trans (turned_below (v := .slice none 0 0) hgrow (by simp; omega) (Nat.le_refl _) (fun g hg => by simp [Value.ownBlock] at hg)))
  have HF := Lib.hid (And.intro hfin hb5)
  clear hown5 hgrow hloc hVB2 hfin hb5 hbk5 hx5
  refine ⟨.inl ?_, ?_⟩
  focus
    (try dsimp only); (repeat' apply And.intro) <;> go_simp
  simp only [Act.put, List.setIfInBounds_toArray, List.set_cons_zero, List.set_cons_succ]
  repeat
    refine wpL_look rfl rfl ?_
    apply Exists.intro
    refine ⟨?_, ?_⟩
    focus
      rintro w' ⟨s0, s1, s2, s3, s4⟩
      go_simp
      first | done | rfl
    simp only [Act.put, List.setIfInBounds_toArray, List.set_cons_zero, List.set_cons_succ]
  refine wpL_skip rfl rfl ?_
  refine ⟨w5.setCell ⟨k, 11, none⟩ (.slice a' (0 + 2) cp'), ?_, .inr ⟨rfl, rfl⟩, ?_⟩
  focus
    go_simp
  simp only [Act.put, List.setIfInBounds_toArray, List.set_cons_zero, List.set_cons_succ]
  refine wpL_end ?_
  clear b11 q0 q1 iKB i3B f11 r0 r1 HB y0 y1 i5
  go_wp2_with fail
  exact bodyPost_end (v := .tuple #[]) (by simp [results, go_sem]) rfl ⟨rfl, HF.out⟩
end Go.Proofs.YtjkenolgkkknaaaGreatDoor
namespace Go.Proofs.YtjkenolgkkknaaaGreatDoor
open Go.RowKit
set_option maxRecDepth 100000 in
set_option maxHeartbeats 2000000 in
theorem run_link (B d b : Nat) (S : PSt) (c : PCall) (r : PRes) (w : World) (h : DoAt B w d b S c r) (hk : c.kind = 8) (R : Except Int (PSt × PRes)) (ht : Calls Tryz.prog 77 #[.pointer (some ⟨d, 0, none⟩)] w (RunOut B w d b c R)) :
    Calls Tryz.prog 41 #[.pointer (some ⟨d, 0, none⟩)] w (RunOut B w d b c R) := by
  obtain ⟨iD, d1⟩ := h.kind
  rw [hk] at d1
  clear h
  rcases R with k | ⟨S', r'⟩
  all_goals (go_enter Tryz.func41, Tryz.ntmps41)
  · go_wp2_with (go_at_call 77; refine ht.mono ?_; rintro e w1 ⟨hb1, hr1⟩; obtain rfl : e = thrown k := hr1)
    exact ⟨rfl, hb1, rfl⟩
  · go_wp2_with (go_at_call 77; refine ht.mono ?_; rintro e w1 ⟨hb1, hr1⟩; have hr2 : e = .returned (.tuple #[]) ∧ DoAt B w1 d b S' c r' := hr1; clear hr1; obtain ⟨rfl, hd1⟩ := hr2; have HD := Lib.hid hd1; clear hd1)
    exact bodyPost_end (v := .tuple #[]) (by simp [results, go_sem]) rfl ⟨hb1, rfl, HD.out⟩
set_option maxRecDepth 100000 in
set_option maxHeartbeats 2000000 in
theorem run_rename (B d b : Nat) (S : PSt) (c : PCall) (r : PRes) (w : World) (h : DoAt B w d b S c r) (hk : c.kind = 11) (R : Except Int (PSt × PRes)) (ht : Calls Tryz.prog 79 #[.pointer (some ⟨d, 0, none⟩)] w (RunOut B w d b c R)) :
    Calls Tryz.prog 41 #[.pointer (some ⟨d, 0, none⟩)] w (RunOut B w d b c R) := by
  obtain ⟨iD, d1⟩ := h.kind
  rw [hk] at d1
  clear h
  rcases R with k | ⟨S', r'⟩
  all_goals (go_enter Tryz.func41, Tryz.ntmps41)
  · go_wp2_with (go_at_call 79; refine ht.mono ?_; rintro e w1 ⟨hb1, hr1⟩; obtain rfl : e = thrown k := hr1)
    exact ⟨rfl, hb1, rfl⟩
  · go_wp2_with (go_at_call 79; refine ht.mono ?_; rintro e w1 ⟨hb1, hr1⟩; have hr2 : e = .returned (.tuple #[]) ∧ DoAt B w1 d b S' c r' := hr1; clear hr1; obtain ⟨rfl, hd1⟩ := hr2; have HD := Lib.hid hd1; clear hd1)
    exact bodyPost_end (v := .tuple #[]) (by simp [results, go_sem]) rfl ⟨hb1, rfl, HD.out⟩
theorem did_link {S : PSt} {c : PCall} {S' : PSt} {r' : PRes} (hwf : S.wf) (hs : Small S) (hk : c.kind = 8) (hp : (parseM c.path).1 = 0) (hpl : (parseM c.path).2.length ≤ 1000000000) (hp2 : (parseM c.path2).1 = 0) (hpl2 : (parseM c.path2).2.length ≤ 1000000000) (he : doM S c (linkDo S c PRes.zero) = (S', r')) : Did S c S' r' :=
  did_of _ hwf he fun hm B ww d b hd hB => run_link B d b S c PRes.zero ww hd hk _ (link77 B d b S c PRes.zero ww hd hB (fine_of_may hwf (mayc_may hm).1) hs (by have := (mayc_may hm).2; omega) hp hpl hp2 hpl2)
theorem did_rename {S : PSt} {c : PCall} {S' : PSt} {r' : PRes} (hwf : S.wf) (hs : Small S) (hk : c.kind = 11) (hp : (parseM c.path).1 = 0) (hpl : (parseM c.path).2.length ≤ 1000000000) (hp2 : (parseM c.path2).1 = 0) (hpl2 : (parseM c.path2).2.length ≤ 1000000000) (hno : noThr S c = true) (he : doM S c (renameM S c PRes.zero) = (S', r')) : Did S c S' r' :=
  did_of _ hwf he fun hm B ww d b hd hB => run_rename B d b S c PRes.zero ww hd hk _ (rename79 B d b S c PRes.zero ww hd hB (fine_of_may hwf (mayc_may hm).1) hs (by have := (mayc_may hm).2; omega) hp hpl hp2 hpl2 hno)
end Go.Proofs.YtjkenolgkkknaaaGreatDoor
namespace Go.Proofs.YtjkenolgkkknaaaGreatDoor
open Go.RowKit
def byteAt (s : ByteArray) (p : Nat) : Int := if h : p < s.size then ((s[p]'h).toNat : Int) else 0
theorem byteAt_in {s : ByteArray} {p : Nat} (h : p < s.size) : byteAt s p = ((s[p]'h).toNat : Int) := by simp [byteAt, h]
theorem byteAt_bounds (s : ByteArray) (p : Nat) : 0 ≤ byteAt s p ∧ byteAt s p < 256 := by
  unfold byteAt
  split
  · rename_i h
    have : (s[p]'h).toNat < 256 := UInt8.toNat_lt _
    omega
  · omega
/-- A byte that goes on. -/
def nextR (s : ByteArray) (p : Nat) : Int := if p < s.size then (if byteAt s p < 128 then -1 else if 191 < byteAt s p then -1 else byteAt s p - 128) else -1
theorem next140 (s : ByteArray) (p : Nat) (w : World) :
    Calls Tryz.prog 140 #[.string s, .int .i64 p] w fun e w' => e = .returned (.int .i64 (nextR s p)) ∧ Below w.heap.size w w' := by
  generalize hR : nextR s p = R
  have HR := Lib.hid hR
  clear hR
  by_cases hp : p < s.size
  · have hpI : ¬ (s.size : Int) ≤ p := by omega
    have hw := byteAt_in hp
    have hb : 0 ≤ byteAt s p ∧ byteAt s p < 256 := byteAt_bounds s p
    have hre : (if byteAt s p < 128 then -1 else if 191 < byteAt s p then -1 else byteAt s p - 128) = R := by rw [← HR.out]; simp [nextR, hp]
    clear HR
    rw [hw] at hre hb
    clear hw
    by_cases h1 : ((s[p].toNat : Nat) : Int) < 128
    · rw [if_pos h1] at hre
      subst hre
      go_enter Tryz.func140, Tryz.ntmps140
      go_wp2_with fail
      exact bodyPost_ret (v := .int .i64 (-1)) (by simp [results, Tryz.results140, go_sem]) rfl ⟨rfl, bel _ _⟩
    · rw [if_neg h1] at hre
      by_cases h2 : (191 : Int) < ((s[p].toNat : Nat) : Int)
      · rw [if_pos h2] at hre
        subst hre
        go_enter Tryz.func140, Tryz.ntmps140
        go_wp2_with fail
        exact bodyPost_ret (v := .int .i64 (-1)) (by simp [results, Tryz.results140, go_sem]) rfl ⟨rfl, bel _ _⟩
      · rw [if_neg h2] at hre
        subst hre
        go_enter Tryz.func140, Tryz.ntmps140
        go_wp2_with fail
        refine bodyPost_ret (v := .int .i64 ((s[p].toNat : Nat) - 128)) (by simp [results, Tryz.results140, go_sem]) rfl ⟨rfl, bel _ _⟩
  · have hpI : (s.size : Int) ≤ p := by omega
    have hre : -1 = R := by rw [← HR.out]; simp [nextR, hp]
    subst hre
    go_enter Tryz.func140, Tryz.ntmps140
    go_wp2_with fail
    exact bodyPost_ret (v := .int .i64 (-1)) (by simp [results, Tryz.results140, go_sem]) rfl ⟨rfl, bel _ _⟩
/-- The rune at a place, and its bytes; 0: none. -/
def rune1B (c a b d : Int) : Int × Int :=
  if c < 128 then (c, 1)
  else if 194 ≤ c ∧ c ≤ 223 ∧ 0 ≤ a then ((c - 192) * 64 + a, 2)
  else if 224 ≤ c ∧ c ≤ 239 ∧ 0 ≤ a ∧ 0 ≤ b then
    (if 2048 ≤ (c - 224) * 4096 + a * 64 + b ∧ ((c - 224) * 4096 + a * 64 + b < 55296 ∨ 57343 < (c - 224) * 4096 + a * 64 + b) then ((c - 224) * 4096 + a * 64 + b, 3) else (65533, 0))
  else if 240 ≤ c ∧ c ≤ 244 ∧ 0 ≤ a ∧ 0 ≤ b ∧ 0 ≤ d then
    (if 65536 ≤ (c - 240) * 262144 + a * 4096 + b * 64 + d ∧ (c - 240) * 262144 + a * 4096 + b * 64 + d ≤ 1114111 then ((c - 240) * 262144 + a * 4096 + b * 64 + d, 4) else (65533, 0))
  else (65533, 0)
def rune1R (s : ByteArray) (p : Nat) : Int × Int := rune1B (byteAt s p) (nextR s (p + 1)) (nextR s (p + 2)) (nextR s (p + 3))
theorem nextR_bounds (s : ByteArray) (p : Nat) : -1 ≤ nextR s p ∧ nextR s p ≤ 63 := by
  have := byteAt_bounds s p
  unfold nextR
  split
  · split
    · omega
    · split <;> omega
  · omega
set_option maxRecDepth 100000 in
set_option maxHeartbeats 4000000 in
theorem rune93 (s : ByteArray) (p : Nat) (hp : p < s.size) (hs : s.size ≤ 1000000000000) (w : World) :
    Calls Tryz.prog 93 #[.string s, .int .i64 p] w fun e w' => e = .returned (.tuple #[.int .i64 (rune1R s p).1, .int .i64 (rune1R s p).2]) ∧ Below w.heap.size w w' := by
  obtain ⟨R, hR⟩ : ∃ R, rune1R s p = R := ⟨_, rfl⟩
  rw [hR]
  unfold rune1R at hR
  rw [byteAt_in hp] at hR
  have hn1 : ∀ ww, Calls Tryz.prog 140 #[.string s, .int .i64 ((p : Int) + 1)] ww fun e w' => e = .returned (.int .i64 (nextR s (p + 1))) ∧ Below ww.heap.size ww w' := fun ww => by simpa using next140 s (p + 1) ww
  have hn2 : ∀ ww, Calls Tryz.prog 140 #[.string s, .int .i64 ((p : Int) + 2)] ww fun e w' => e = .returned (.int .i64 (nextR s (p + 2))) ∧ Below ww.heap.size ww w' := fun ww => by simpa using next140 s (p + 2) ww
  have hn3 : ∀ ww, Calls Tryz.prog 140 #[.string s, .int .i64 ((p : Int) + 3)] ww fun e w' => e = .returned (.int .i64 (nextR s (p + 3))) ∧ Below ww.heap.size ww w' := fun ww => by simpa using next140 s (p + 3) ww
  have ba := nextR_bounds s (p + 1)
  have bb := nextR_bounds s (p + 2)
  have bd := nextR_bounds s (p + 3)
  generalize nextR s (p + 1) = a at hR hn1 ba
  generalize nextR s (p + 2) = b at hR hn2 bb
  generalize nextR s (p + 3) = d at hR hn3 bd
  have w1 : IntKind.i64.wrap ((p : Int) + 1) = (p : Int) + 1 := I64.wrap ⟨by omega, by omega⟩
  have w2 : IntKind.i64.wrap ((p : Int) + 2) = (p : Int) + 2 := I64.wrap ⟨by omega, by omega⟩
  have w3 : IntKind.i64.wrap ((p : Int) + 3) = (p : Int) + 3 := I64.wrap ⟨by omega, by omega⟩
  have hc : (s[p].toNat : Int) < 256 := by have := UInt8.toNat_lt s[p]; omega
  obtain ⟨c, ec⟩ : ∃ c : Int, (s[p].toNat : Int) = c := ⟨_, rfl⟩
  have hc0 : 0 ≤ c := by omega
  rw [ec] at hR hc
  have HR := Lib.hid hR
  clear hR
  go_enter Tryz.func93, Tryz.ntmps93
  go_upto_region 3 with (first | (go_at_call 140; with_reducible refine (hn1 _).mono ?_; rintro e w' ⟨rfl, hb⟩; obtain ⟨p, rfl⟩ := hb.rest; clear hb) | (go_at_call 140; with_reducible refine (hn2 _).mono ?_; rintro e w' ⟨rfl, hb⟩; obtain ⟨p, rfl⟩ := hb.rest; clear hb) | (go_at_call 140; with_reducible refine (hn3 _).mono ?_; rintro e w' ⟨rfl, hb⟩; obtain ⟨p, rfl⟩ := hb.rest; clear hb))
  have hcs : c < 128 ∨ (128 ≤ c ∧ c < 194) ∨ (194 ≤ c ∧ c < 224) ∨ (224 ≤ c ∧ c < 240) ∨ (240 ≤ c ∧ c < 245) ∨ 245 ≤ c := by omega
  clear ec hn1 hn2 hn3 w1 w2 w3
  rcases hcs with hcs | hcs | hcs | hcs | hcs | hcs
  · have f0 : c < 128 := by omega
    have f1 : ¬ 194 ≤ c := by omega
    have f2 : c ≤ 223 := by omega
    have f3 : ¬ 224 ≤ c := by omega
    have f4 : c ≤ 239 := by omega
    have f5 : ¬ 240 ≤ c := by omega
    have f6 : c ≤ 244 := by omega
    have hre : (c, (1 : Int)) = R := by rw [← HR.out]; unfold rune1B; simp (config := { zeta := true }) only [*]; simp [*]
    subst hre
    clear HR
    go_wp2_with fail
    exact bodyPost_ret (v := .tuple #[.int .i64 (c), .int .i64 1]) (by simp [results, Tryz.results93, go_sem]) rfl ⟨rfl, bel _ _⟩
  · have f0 : ¬ c < 128 := by omega
    have f1 : ¬ 194 ≤ c := by omega
    have f2 : c ≤ 223 := by omega
    have f3 : ¬ 224 ≤ c := by omega
    have f4 : c ≤ 239 := by omega
    have f5 : ¬ 240 ≤ c := by omega
    have f6 : c ≤ 244 := by omega
    have hre : (65533, (0 : Int)) = R := by rw [← HR.out]; unfold rune1B; simp (config := { zeta := true }) only [*]; simp [*]
    subst hre
    clear HR
    go_wp2_with fail
    exact bodyPost_ret (v := .tuple #[.int .i64 (65533), .int .i64 0]) (by simp [results, Tryz.results93, go_sem]) rfl ⟨rfl, bel _ _⟩
  · by_cases ha : 0 ≤ a
    · have f0 : ¬ c < 128 := by omega
      have f1 : 194 ≤ c := by omega
      have f2 : c ≤ 223 := by omega
      have f3 : ¬ 224 ≤ c := by omega
      have f4 : c ≤ 239 := by omega
      have f5 : ¬ 240 ≤ c := by omega
      have f6 : c ≤ 244 := by omega
      have f7 : 0 ≤ a := by omega
      have g0 : IntKind.i64.wrap (c - 192) = c - 192 := I64.wrap ⟨by omega, by omega⟩
      have g1 : IntKind.i64.wrap ((c - 192) * 64) = (c - 192) * 64 := I64.wrap ⟨by omega, by omega⟩
      have g2 : IntKind.i64.wrap ((c - 192) * 64 + a) = (c - 192) * 64 + a := I64.wrap ⟨by omega, by omega⟩
      have hre : ((c - 192) * 64 + a, (2 : Int)) = R := by rw [← HR.out]; unfold rune1B; simp (config := { zeta := true }) only [*]; simp [*]
      subst hre
      clear HR
      go_wp2_with fail
      exact bodyPost_ret (v := .tuple #[.int .i64 ((c - 192) * 64 + a), .int .i64 2]) (by simp [results, Tryz.results93, go_sem]) rfl ⟨rfl, bel _ _⟩
    · have f0 : ¬ c < 128 := by omega
      have f1 : 194 ≤ c := by omega
      have f2 : c ≤ 223 := by omega
      have f3 : ¬ 224 ≤ c := by omega
      have f4 : c ≤ 239 := by omega
      have f5 : ¬ 240 ≤ c := by omega
      have f6 : c ≤ 244 := by omega
      have f7 : ¬ 0 ≤ a := by omega
      have hre : (65533, (0 : Int)) = R := by rw [← HR.out]; unfold rune1B; simp (config := { zeta := true }) only [*]; simp [*]
      subst hre
      clear HR
      go_wp2_with fail
      exact bodyPost_ret (v := .tuple #[.int .i64 (65533), .int .i64 0]) (by simp [results, Tryz.results93, go_sem]) rfl ⟨rfl, bel _ _⟩
  · by_cases ha : 0 ≤ a
    · by_cases hb : 0 ≤ b
      · have hrs : (¬ 2048 ≤ (c - 224) * 4096 + a * 64 + b) ∨ (2048 ≤ (c - 224) * 4096 + a * 64 + b ∧ (c - 224) * 4096 + a * 64 + b < 55296) ∨ (55296 ≤ (c - 224) * 4096 + a * 64 + b ∧ (c - 224) * 4096 + a * 64 + b ≤ 57343) ∨ 57343 < (c - 224) * 4096 + a * 64 + b := by omega
        rcases hrs with hrs | hrs | hrs | hrs
        · have f0 : ¬ c < 128 := by omega
          have f1 : 194 ≤ c := by omega
          have f2 : ¬ c ≤ 223 := by omega
          have f3 : 224 ≤ c := by omega
          have f4 : c ≤ 239 := by omega
          have f5 : ¬ 240 ≤ c := by omega
          have f6 : c ≤ 244 := by omega
          have f7 : 0 ≤ a := by omega
          have f8 : 0 ≤ b := by omega
          have f9 : ¬ 2048 ≤ (c - 224) * 4096 + a * 64 + b := by omega
          have g0 : IntKind.i64.wrap (c - 224) = c - 224 := I64.wrap ⟨by omega, by omega⟩
          have g1 : IntKind.i64.wrap ((c - 224) * 4096) = (c - 224) * 4096 := I64.wrap ⟨by omega, by omega⟩
          have g2 : IntKind.i64.wrap (a * 64) = a * 64 := I64.wrap ⟨by omega, by omega⟩
          have g3 : IntKind.i64.wrap ((c - 224) * 4096 + a * 64) = (c - 224) * 4096 + a * 64 := I64.wrap ⟨by omega, by omega⟩
          have g4 : IntKind.i64.wrap ((c - 224) * 4096 + a * 64 + b) = (c - 224) * 4096 + a * 64 + b := I64.wrap ⟨by omega, by omega⟩
          have hre : (65533, (0 : Int)) = R := by rw [← HR.out]; unfold rune1B; simp (config := { zeta := true }) only [*]; simp [*]
          subst hre
          clear HR
          go_wp2_with fail
          exact bodyPost_ret (v := .tuple #[.int .i64 (65533), .int .i64 0]) (by simp [results, Tryz.results93, go_sem]) rfl ⟨rfl, bel _ _⟩
        · have f0 : ¬ c < 128 := by omega
          have f1 : 194 ≤ c := by omega
          have f2 : ¬ c ≤ 223 := by omega
          have f3 : 224 ≤ c := by omega
          have f4 : c ≤ 239 := by omega
          have f5 : ¬ 240 ≤ c := by omega
          have f6 : c ≤ 244 := by omega
          have f7 : 0 ≤ a := by omega
          have f8 : 0 ≤ b := by omega
          have f9 : 2048 ≤ (c - 224) * 4096 + a * 64 + b := by omega
          have f10 : (c - 224) * 4096 + a * 64 + b < 55296 := by omega
          have g0 : IntKind.i64.wrap (c - 224) = c - 224 := I64.wrap ⟨by omega, by omega⟩
          have g1 : IntKind.i64.wrap ((c - 224) * 4096) = (c - 224) * 4096 := I64.wrap ⟨by omega, by omega⟩
          have g2 : IntKind.i64.wrap (a * 64) = a * 64 := I64.wrap ⟨by omega, by omega⟩
          have g3 : IntKind.i64.wrap ((c - 224) * 4096 + a * 64) = (c - 224) * 4096 + a * 64 := I64.wrap ⟨by omega, by omega⟩
          have g4 : IntKind.i64.wrap ((c - 224) * 4096 + a * 64 + b) = (c - 224) * 4096 + a * 64 + b := I64.wrap ⟨by omega, by omega⟩
          have hre : ((c - 224) * 4096 + a * 64 + b, (3 : Int)) = R := by rw [← HR.out]; unfold rune1B; simp (config := { zeta := true }) only [*]; simp [*]
          subst hre
          clear HR
          go_wp2_with fail
          exact bodyPost_ret (v := .tuple #[.int .i64 ((c - 224) * 4096 + a * 64 + b), .int .i64 3]) (by simp [results, Tryz.results93, go_sem]) rfl ⟨rfl, bel _ _⟩
        · have f0 : ¬ c < 128 := by omega
          have f1 : 194 ≤ c := by omega
          have f2 : ¬ c ≤ 223 := by omega
          have f3 : 224 ≤ c := by omega
          have f4 : c ≤ 239 := by omega
          have f5 : ¬ 240 ≤ c := by omega
          have f6 : c ≤ 244 := by omega
          have f7 : 0 ≤ a := by omega
          have f8 : 0 ≤ b := by omega
          have f9 : 2048 ≤ (c - 224) * 4096 + a * 64 + b := by omega
          have f10 : ¬ (c - 224) * 4096 + a * 64 + b < 55296 := by omega
          have f11 : ¬ 57343 < (c - 224) * 4096 + a * 64 + b := by omega
          have g0 : IntKind.i64.wrap (c - 224) = c - 224 := I64.wrap ⟨by omega, by omega⟩
          have g1 : IntKind.i64.wrap ((c - 224) * 4096) = (c - 224) * 4096 := I64.wrap ⟨by omega, by omega⟩
          have g2 : IntKind.i64.wrap (a * 64) = a * 64 := I64.wrap ⟨by omega, by omega⟩
          have g3 : IntKind.i64.wrap ((c - 224) * 4096 + a * 64) = (c - 224) * 4096 + a * 64 := I64.wrap ⟨by omega, by omega⟩
          have g4 : IntKind.i64.wrap ((c - 224) * 4096 + a * 64 + b) = (c - 224) * 4096 + a * 64 + b := I64.wrap ⟨by omega, by omega⟩
          have hre : (65533, (0 : Int)) = R := by rw [← HR.out]; unfold rune1B; simp (config := { zeta := true }) only [*]; simp [*]
          subst hre
          clear HR
          go_wp2_with fail
          exact bodyPost_ret (v := .tuple #[.int .i64 (65533), .int .i64 0]) (by simp [results, Tryz.results93, go_sem]) rfl ⟨rfl, bel _ _⟩
        · have f0 : ¬ c < 128 := by omega
          have f1 : 194 ≤ c := by omega
          have f2 : ¬ c ≤ 223 := by omega
          have f3 : 224 ≤ c := by omega
          have f4 : c ≤ 239 := by omega
          have f5 : ¬ 240 ≤ c := by omega
          have f6 : c ≤ 244 := by omega
          have f7 : 0 ≤ a := by omega
          have f8 : 0 ≤ b := by omega
          have f9 : 2048 ≤ (c - 224) * 4096 + a * 64 + b := by omega
          have f10 : ¬ (c - 224) * 4096 + a * 64 + b < 55296 := by omega
          have f11 : 57343 < (c - 224) * 4096 + a * 64 + b := by omega
          have g0 : IntKind.i64.wrap (c - 224) = c - 224 := I64.wrap ⟨by omega, by omega⟩
          have g1 : IntKind.i64.wrap ((c - 224) * 4096) = (c - 224) * 4096 := I64.wrap ⟨by omega, by omega⟩
          have g2 : IntKind.i64.wrap (a * 64) = a * 64 := I64.wrap ⟨by omega, by omega⟩
          have g3 : IntKind.i64.wrap ((c - 224) * 4096 + a * 64) = (c - 224) * 4096 + a * 64 := I64.wrap ⟨by omega, by omega⟩
          have g4 : IntKind.i64.wrap ((c - 224) * 4096 + a * 64 + b) = (c - 224) * 4096 + a * 64 + b := I64.wrap ⟨by omega, by omega⟩
          have hre : ((c - 224) * 4096 + a * 64 + b, (3 : Int)) = R := by rw [← HR.out]; unfold rune1B; simp (config := { zeta := true }) only [*]; simp [*]
          subst hre
          clear HR
          go_wp2_with fail
          exact bodyPost_ret (v := .tuple #[.int .i64 ((c - 224) * 4096 + a * 64 + b), .int .i64 3]) (by simp [results, Tryz.results93, go_sem]) rfl ⟨rfl, bel _ _⟩
      · have f0 : ¬ c < 128 := by omega
        have f1 : 194 ≤ c := by omega
        have f2 : ¬ c ≤ 223 := by omega
        have f3 : 224 ≤ c := by omega
        have f4 : c ≤ 239 := by omega
        have f5 : ¬ 240 ≤ c := by omega
        have f6 : c ≤ 244 := by omega
        have f7 : 0 ≤ a := by omega
        have f8 : ¬ 0 ≤ b := by omega
        have hre : (65533, (0 : Int)) = R := by rw [← HR.out]; unfold rune1B; simp (config := { zeta := true }) only [*]; simp [*]
        subst hre
        clear HR
        go_wp2_with fail
        exact bodyPost_ret (v := .tuple #[.int .i64 (65533), .int .i64 0]) (by simp [results, Tryz.results93, go_sem]) rfl ⟨rfl, bel _ _⟩
    · have f0 : ¬ c < 128 := by omega
      have f1 : 194 ≤ c := by omega
      have f2 : ¬ c ≤ 223 := by omega
      have f3 : 224 ≤ c := by omega
      have f4 : c ≤ 239 := by omega
      have f5 : ¬ 240 ≤ c := by omega
      have f6 : c ≤ 244 := by omega
      have f7 : ¬ 0 ≤ a := by omega
      have hre : (65533, (0 : Int)) = R := by rw [← HR.out]; unfold rune1B; simp (config := { zeta := true }) only [*]; simp [*]
      subst hre
      clear HR
      go_wp2_with fail
      exact bodyPost_ret (v := .tuple #[.int .i64 (65533), .int .i64 0]) (by simp [results, Tryz.results93, go_sem]) rfl ⟨rfl, bel _ _⟩
  · by_cases ha : 0 ≤ a
    · by_cases hb : 0 ≤ b
      · by_cases hd : 0 ≤ d
        · have hrs : (¬ 65536 ≤ (c - 240) * 262144 + a * 4096 + b * 64 + d) ∨ (65536 ≤ (c - 240) * 262144 + a * 4096 + b * 64 + d ∧ (c - 240) * 262144 + a * 4096 + b * 64 + d ≤ 1114111) ∨ (65536 ≤ (c - 240) * 262144 + a * 4096 + b * 64 + d ∧ ¬ (c - 240) * 262144 + a * 4096 + b * 64 + d ≤ 1114111) := by omega
          rcases hrs with hrs | hrs | hrs
          · have f0 : ¬ c < 128 := by omega
            have f1 : 194 ≤ c := by omega
            have f2 : ¬ c ≤ 223 := by omega
            have f3 : 224 ≤ c := by omega
            have f4 : ¬ c ≤ 239 := by omega
            have f5 : 240 ≤ c := by omega
            have f6 : c ≤ 244 := by omega
            have f7 : 0 ≤ a := by omega
            have f8 : 0 ≤ b := by omega
            have f9 : 0 ≤ d := by omega
            have f10 : ¬ 65536 ≤ (c - 240) * 262144 + a * 4096 + b * 64 + d := by omega
            have g0 : IntKind.i64.wrap (c - 240) = c - 240 := I64.wrap ⟨by omega, by omega⟩
            have g1 : IntKind.i64.wrap ((c - 240) * 262144) = (c - 240) * 262144 := I64.wrap ⟨by omega, by omega⟩
            have g2 : IntKind.i64.wrap (a * 4096) = a * 4096 := I64.wrap ⟨by omega, by omega⟩
            have g3 : IntKind.i64.wrap (b * 64) = b * 64 := I64.wrap ⟨by omega, by omega⟩
            have g4 : IntKind.i64.wrap ((c - 240) * 262144 + a * 4096) = (c - 240) * 262144 + a * 4096 := I64.wrap ⟨by omega, by omega⟩
            have g5 : IntKind.i64.wrap ((c - 240) * 262144 + a * 4096 + b * 64) = (c - 240) * 262144 + a * 4096 + b * 64 := I64.wrap ⟨by omega, by omega⟩
            have g6 : IntKind.i64.wrap ((c - 240) * 262144 + a * 4096 + b * 64 + d) = (c - 240) * 262144 + a * 4096 + b * 64 + d := I64.wrap ⟨by omega, by omega⟩
            have hre : (65533, (0 : Int)) = R := by rw [← HR.out]; unfold rune1B; simp (config := { zeta := true }) only [*]; simp [*]
            subst hre
            clear HR
            go_wp2_with fail
            exact bodyPost_ret (v := .tuple #[.int .i64 (65533), .int .i64 0]) (by simp [results, Tryz.results93, go_sem]) rfl ⟨rfl, bel _ _⟩
          · have f0 : ¬ c < 128 := by omega
            have f1 : 194 ≤ c := by omega
            have f2 : ¬ c ≤ 223 := by omega
            have f3 : 224 ≤ c := by omega
            have f4 : ¬ c ≤ 239 := by omega
            have f5 : 240 ≤ c := by omega
            have f6 : c ≤ 244 := by omega
            have f7 : 0 ≤ a := by omega
            have f8 : 0 ≤ b := by omega
            have f9 : 0 ≤ d := by omega
            have f10 : 65536 ≤ (c - 240) * 262144 + a * 4096 + b * 64 + d := by omega
            have f11 : (c - 240) * 262144 + a * 4096 + b * 64 + d ≤ 1114111 := by omega
            have g0 : IntKind.i64.wrap (c - 240) = c - 240 := I64.wrap ⟨by omega, by omega⟩
            have g1 : IntKind.i64.wrap ((c - 240) * 262144) = (c - 240) * 262144 := I64.wrap ⟨by omega, by omega⟩
            have g2 : IntKind.i64.wrap (a * 4096) = a * 4096 := I64.wrap ⟨by omega, by omega⟩
            have g3 : IntKind.i64.wrap (b * 64) = b * 64 := I64.wrap ⟨by omega, by omega⟩
            have g4 : IntKind.i64.wrap ((c - 240) * 262144 + a * 4096) = (c - 240) * 262144 + a * 4096 := I64.wrap ⟨by omega, by omega⟩
            have g5 : IntKind.i64.wrap ((c - 240) * 262144 + a * 4096 + b * 64) = (c - 240) * 262144 + a * 4096 + b * 64 := I64.wrap ⟨by omega, by omega⟩
            have g6 : IntKind.i64.wrap ((c - 240) * 262144 + a * 4096 + b * 64 + d) = (c - 240) * 262144 + a * 4096 + b * 64 + d := I64.wrap ⟨by omega, by omega⟩
            have hre : ((c - 240) * 262144 + a * 4096 + b * 64 + d, (4 : Int)) = R := by rw [← HR.out]; unfold rune1B; simp (config := { zeta := true }) only [*]; simp [*]
            subst hre
            clear HR
            go_wp2_with fail
            exact bodyPost_ret (v := .tuple #[.int .i64 ((c - 240) * 262144 + a * 4096 + b * 64 + d), .int .i64 4]) (by simp [results, Tryz.results93, go_sem]) rfl ⟨rfl, bel _ _⟩
          · have f0 : ¬ c < 128 := by omega
            have f1 : 194 ≤ c := by omega
            have f2 : ¬ c ≤ 223 := by omega
            have f3 : 224 ≤ c := by omega
            have f4 : ¬ c ≤ 239 := by omega
            have f5 : 240 ≤ c := by omega
            have f6 : c ≤ 244 := by omega
            have f7 : 0 ≤ a := by omega
            have f8 : 0 ≤ b := by omega
            have f9 : 0 ≤ d := by omega
            have f10 : 65536 ≤ (c - 240) * 262144 + a * 4096 + b * 64 + d := by omega
            have f11 : ¬ (c - 240) * 262144 + a * 4096 + b * 64 + d ≤ 1114111 := by omega
            have g0 : IntKind.i64.wrap (c - 240) = c - 240 := I64.wrap ⟨by omega, by omega⟩
            have g1 : IntKind.i64.wrap ((c - 240) * 262144) = (c - 240) * 262144 := I64.wrap ⟨by omega, by omega⟩
            have g2 : IntKind.i64.wrap (a * 4096) = a * 4096 := I64.wrap ⟨by omega, by omega⟩
            have g3 : IntKind.i64.wrap (b * 64) = b * 64 := I64.wrap ⟨by omega, by omega⟩
            have g4 : IntKind.i64.wrap ((c - 240) * 262144 + a * 4096) = (c - 240) * 262144 + a * 4096 := I64.wrap ⟨by omega, by omega⟩
            have g5 : IntKind.i64.wrap ((c - 240) * 262144 + a * 4096 + b * 64) = (c - 240) * 262144 + a * 4096 + b * 64 := I64.wrap ⟨by omega, by omega⟩
            have g6 : IntKind.i64.wrap ((c - 240) * 262144 + a * 4096 + b * 64 + d) = (c - 240) * 262144 + a * 4096 + b * 64 + d := I64.wrap ⟨by omega, by omega⟩
            have hre : (65533, (0 : Int)) = R := by rw [← HR.out]; unfold rune1B; simp (config := { zeta := true }) only [*]; simp [*]
            subst hre
            clear HR
            go_wp2_with fail
            exact bodyPost_ret (v := .tuple #[.int .i64 (65533), .int .i64 0]) (by simp [results, Tryz.results93, go_sem]) rfl ⟨rfl, bel _ _⟩
        · have f0 : ¬ c < 128 := by omega
          have f1 : 194 ≤ c := by omega
          have f2 : ¬ c ≤ 223 := by omega
          have f3 : 224 ≤ c := by omega
          have f4 : ¬ c ≤ 239 := by omega
          have f5 : 240 ≤ c := by omega
          have f6 : c ≤ 244 := by omega
          have f7 : 0 ≤ a := by omega
          have f8 : 0 ≤ b := by omega
          have f9 : ¬ 0 ≤ d := by omega
          have hre : (65533, (0 : Int)) = R := by rw [← HR.out]; unfold rune1B; simp (config := { zeta := true }) only [*]; simp [*]
          subst hre
          clear HR
          go_wp2_with fail
          exact bodyPost_ret (v := .tuple #[.int .i64 (65533), .int .i64 0]) (by simp [results, Tryz.results93, go_sem]) rfl ⟨rfl, bel _ _⟩
      · have f0 : ¬ c < 128 := by omega
        have f1 : 194 ≤ c := by omega
        have f2 : ¬ c ≤ 223 := by omega
        have f3 : 224 ≤ c := by omega
        have f4 : ¬ c ≤ 239 := by omega
        have f5 : 240 ≤ c := by omega
        have f6 : c ≤ 244 := by omega
        have f7 : 0 ≤ a := by omega
        have f8 : ¬ 0 ≤ b := by omega
        have hre : (65533, (0 : Int)) = R := by rw [← HR.out]; unfold rune1B; simp (config := { zeta := true }) only [*]; simp [*]
        subst hre
        clear HR
        go_wp2_with fail
        exact bodyPost_ret (v := .tuple #[.int .i64 (65533), .int .i64 0]) (by simp [results, Tryz.results93, go_sem]) rfl ⟨rfl, bel _ _⟩
    · have f0 : ¬ c < 128 := by omega
      have f1 : 194 ≤ c := by omega
      have f2 : ¬ c ≤ 223 := by omega
      have f3 : 224 ≤ c := by omega
      have f4 : ¬ c ≤ 239 := by omega
      have f5 : 240 ≤ c := by omega
      have f6 : c ≤ 244 := by omega
      have f7 : ¬ 0 ≤ a := by omega
      have hre : (65533, (0 : Int)) = R := by rw [← HR.out]; unfold rune1B; simp (config := { zeta := true }) only [*]; simp [*]
      subst hre
      clear HR
      go_wp2_with fail
      exact bodyPost_ret (v := .tuple #[.int .i64 (65533), .int .i64 0]) (by simp [results, Tryz.results93, go_sem]) rfl ⟨rfl, bel _ _⟩
  · have f0 : ¬ c < 128 := by omega
    have f1 : 194 ≤ c := by omega
    have f2 : ¬ c ≤ 223 := by omega
    have f3 : 224 ≤ c := by omega
    have f4 : ¬ c ≤ 239 := by omega
    have f5 : 240 ≤ c := by omega
    have f6 : ¬ c ≤ 244 := by omega
    have hre : (65533, (0 : Int)) = R := by rw [← HR.out]; unfold rune1B; simp (config := { zeta := true }) only [*]; simp [*]
    subst hre
    clear HR
    go_wp2_with fail
    exact bodyPost_ret (v := .tuple #[.int .i64 (65533), .int .i64 0]) (by simp [results, Tryz.results93, go_sem]) rfl ⟨rfl, bel _ _⟩
end Go.Proofs.YtjkenolgkkknaaaGreatDoor
