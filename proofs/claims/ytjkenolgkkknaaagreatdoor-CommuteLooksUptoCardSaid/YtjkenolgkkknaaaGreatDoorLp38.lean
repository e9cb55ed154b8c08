/- Part of the proof that the calls that look alone commute. Conditions: none. -/
import Derived.Test.YtjkenolgkkknaaaGreatDoorLp37
set_option linter.unusedVariables false
set_option linter.unusedSimpArgs false
set_option maxRecDepth 100000
set_option maxHeartbeats 8000000
/- view.paths of package commute at Create, Mkdir and Stat. Conditions: none. -/
set_option linter.unusedVariables false
set_option linter.unusedSimpArgs false
namespace Go.Proofs.YtjkenolgkkknaaaGreatDoor
open Go.RowKit
/-- A view that is read. -/
def VwAt (w : World) (k p : Nat) (c : PCall) (fine : Bool) (L T : List (Int × Int)) (M : List Int) (bytes counts gone : Int) : Prop :=
  ∃ lv tv mv, Blk w k (vwCells p ⟨c, fine, tv, bytes, counts, gone⟩ lv mv) 62 ∧ w.ownsRow k 91 2 lv L.length (L.map prCells).flatten ∧ w.ownsRow k 91 2 tv T.length (T.map prCells).flatten ∧ w.ownsRow k 3 1 mv M.length (M.map (Value.int .i64))
theorem VwAt.below {w w' : World} {k p : Nat} {c : PCall} {fine : Bool} {L T : List (Int × Int)} {M : List Int} {bytes counts gone : Int} (h : VwAt w k p c fine L T M bytes counts gone) (hb : Below w.heap.size w w') : VwAt w' k p c fine L T M bytes counts gone := by
  obtain ⟨lv, tv, mv, h1, h2, h3, h4⟩ := h
  have hk : Keep (fun _ => False) w w' := Keep.of_below hb _
  exact ⟨lv, tv, mv, h1.below hb h1.lt.lt, hk.own h2 (fun _ _ => id), hk.own h3 (fun _ _ => id), hk.own h4 (fun _ _ => id)⟩
theorem pairs_at {B : Nat} {v : Value} {T : List (Int × Int)} {w : World} (h : w.ownsRow B 91 2 v T.length (T.map prCells).flatten) : RowAt w 2 v (T.map prCells) :=
  (OwnP.of_own (by rw [List.length_map]; exact h) (by decide) (fun cs hc => by
    obtain ⟨n, _, rfl⟩ := List.mem_map.1 hc
    rfl)).row
theorem ints_flat (M : List Int) : (M.map intCells).flatten = M.map (Value.int .i64) := by
  induction M with
  | nil => rfl
  | cons a r ih =>
    simp only [List.map_cons, List.flatten_cons, ih]
    rfl
theorem ints_at {B : Nat} {v : Value} {M : List Int} {w : World} (h : w.ownsRow B 3 1 v M.length (M.map (Value.int .i64))) : RowAt w 1 v (M.map intCells) :=
  (OwnP.of_own (by rw [List.length_map, ints_flat]; exact h) (by decide) (fun cs hc => by
    obtain ⟨n, _, rfl⟩ := List.mem_map.1 hc
    rfl)).row
theorem VwOwn.exSet {B : Nat} {w : World} {k p b3 : Nat} {x y : Value} {X : VX} {L : List (Int × Int)} {M : List Int} {lv mv : Value} (h : VwOwn B w k p b3 #[x, y] X L M lv mv) (a b : Value) :
    VwOwn B ((w.setCell ⟨b3, 0, none⟩ a).setCell ⟨b3, 1, none⟩ b) k p b3 #[a, b] X L M lv mv := by
  have hkp : Keep (fun i => i = b3) w ((w.setCell ⟨b3, 0, none⟩ a).setCell ⟨b3, 1, none⟩ b) :=
    Keep.setCell (S := fun i => i = b3) (p := ⟨b3, 1, none⟩) (Keep.setCell (S := fun i => i = b3) (p := ⟨b3, 0, none⟩) (Keep.refl _ w) (.inl rfl) _) (.inl rfl) _
  have hb3k : b3 ≠ k := h.ex.ne_ h.blk (by decide)
  refine ⟨h.hB, ?_, h.ne3, hkp.blk h.blk (fun e => hb3k e.symm), hkp.own h.lo (fun g hg e => h.ne3 (by rw [hg, e])), hkp.own h.mo (fun g hg e => ?_)⟩
  · have := (h.ex.set_ 0 a).set_ 1 b
    simpa using this
  · subst e
    exact own_ne_blk h.mo h.ex (by decide) hg
/-- A row of pairs is laid into the view's turns. -/
theorem VwOwn.turns {w w1 : World} {k p b3 : Nat} {c3 : Array Value} {c : PCall} {fine : Bool} {by_ co go : Int} {L T : List (Int × Int)} {M : List Int} {lv mv v' : Value} (h : VwOwn k w k p b3 c3 ⟨c, fine, .slice none 0 0, by_, co, go⟩ L M lv mv) (hg : w.grownBy w1 none) (hown : w1.ownsRow k 91 2 v' T.length (T.map prCells).flatten) :
    VwAt (w1.setCell ⟨k, 11, none⟩ v') k p c fine L T M by_ co go := by
  have hk := (Keep.refl (fun _ => False) w).grown hg (fun g hg => by cases hg)
  have h1 := h.keep hk id (fun _ _ => id) (fun _ _ => id) id
  refine ⟨lv, v', mv, ?_, own_set h1.lo h1.blk (by decide) 11 v', own_set hown h1.blk (by decide) 11 v', own_set h1.mo h1.blk (by decide) 11 v'⟩
  have := h1.blk.set_ 11 v'
  simpa [vwCells] using this
/-- A view as it is begun. -/
def VwNew (w : World) (k p : Nat) (c : PCall) (fine : Bool) : Prop := Blk w k (vwCells p ⟨c, fine, .slice none 0 0, 0, 0, 0⟩ (.slice none 0 0) (.slice none 0 0)) 62
theorem VwNew.own {w : World} {k p : Nat} {c : PCall} {fine : Bool} (h : VwNew w k p c fine) (b3 : Nat) (c3 : Array Value) (h3 : Blk w b3 c3 91) : VwOwn k w k p b3 c3 ⟨c, fine, .slice none 0 0, 0, 0, 0⟩ [] [] (.slice none 0 0) (.slice none 0 0) :=
  ⟨Nat.le_refl _, h3, by simp [Value.ownBlock], h, World.ownsRow_nil w k 91 2, World.ownsRow_nil w k 3 1⟩
set_option maxRecDepth 100000 in
set_option maxHeartbeats 8000000 in
theorem paths_create (k p : Nat) (S : PSt) (c : PCall) (fine : Bool) (w : World) (h : VwNew w k p c fine) (hL : Laid k (fun w => SP w p S) w) (hwf : S.wf) (hlk : linkedB S = true) (hk : c.kind = 0 ∨ c.kind = 1) (hp : (parseM c.path).1 = 0) (hnl : (parseM c.path).2.length ≤ 1000000000) :
    Calls Tryz.prog 44 #[.pointer (some ⟨k, 0, none⟩)] w fun e w' => let R := vwalkF S (parseM c.path).2 (0, 0) 1 [] [1]
      e = .returned (.tuple #[]) ∧ VwAt w' k p c fine R.L [R.last] R.M 0 0 0 ∧ Below k w w' := by
  obtain ⟨i9x, hi9, h90, h91, h92⟩ := info_parts info91
  have iK := h.lt
  have hkw : k ≤ w.heap.size := by have := iK.lt; omega
  have c1 : w.cell? ⟨k, 1, none⟩ = some (.int .i64 c.kind) := h.cell 1
  have c6 : w.cell? ⟨k, 6, none⟩ = some (.string c.path) := h.cell 6
  have hwalk : ∀ ww b3, Below w.heap.size w ww → Blk ww b3 #[.int .i64 0, .int .i64 0] 91 → Calls Tryz.prog 89 #[.pointer (some ⟨k, 0, none⟩), .string c.path] ww _ := fun ww b3 hb h3 =>
    walk89 k k p b3 _ S _ [] [] c.path _ _ ww (VwNew.own (h.below hb iK.lt) b3 _ h3) (hL.below (hb.mono hkw)) (Nat.le_trans hkw hb.size) hwf hlk hp hnl (by simp) (by simp)
  simp only [List.nil_append] at hwalk
  generalize vwalkF S (parseM c.path).2 (0, 0) 1 [] [1] = R at hwalk ⊢
  obtain ⟨⟨l1, l2⟩, rn, RL, RM⟩ := R
  unfold pairAt at hwalk
  simp only at hwalk ⊢
  have H := Lib.hid h
  clear h hL hwf hlk hp hnl
  rcases hk with hk | hk
  · rw [hk] at c1
    go_enter Tryz.func44, Tryz.ntmps44
    go_upto_region 4 with (go_at_call 89; refine (hwalk _ w.heap.size (bel w _) (Blk.new _ _ _)).mono ?_; rintro e w1 ⟨rfl, ⟨lv1, mv1, hv1⟩, hb1⟩; have e0 : w1.cell? ⟨w.heap.size, 0, none⟩ = some (.int .i64 0) := hv1.ex.cell 0; have e1 : w1.cell? ⟨w.heap.size, 1, none⟩ = some (.int .i64 0) := hv1.ex.cell 1; have f0 := hv1.ex.frozen 0; have f1 := hv1.ex.frozen 1; have i3 := hv1.ex.lt; have HV1 := Lib.hid (And.intro hv1 hb1); clear hv1 hb1)
    refine abs_world (F := fun wA => VwOwn k wA k p w.heap.size #[.int .i64 l1, .int .i64 l2] ⟨c, fine, .slice none 0 0, 0, 0, 0⟩ RL RM lv1 mv1 ∧ Below k w wA) ⟨HV1.out.1.exSet _ _, ((((bel w (w.alloc (Obj.cells #[.int .i64 0, .int .i64 0] 91))).mono hkw).trans HV1.out.2).setCell (p := ⟨w.heap.size, 0, none⟩) hkw _).setCell (p := ⟨w.heap.size, 1, none⟩) hkw _⟩ ?_
    clear e0 e1 f0 f1 i3 HV1 c1
    rintro wA ⟨hVA, hbA⟩
    have a1 : wA.cell? ⟨k, 1, none⟩ = some (.int .i64 c.kind) := hVA.blk.cell 1
    rw [hk] at a1
    have a11 : wA.cell? ⟨k, 11, none⟩ = some (.slice none 0 0) := hVA.blk.cell 11
    have q0 : wA.cell? ⟨w.heap.size, 0, none⟩ = some (.int .i64 l1) := hVA.ex.cell 0
    have q1 : wA.cell? ⟨w.heap.size, 1, none⟩ = some (.int .i64 l2) := hVA.ex.cell 1
    have iKA := hVA.blk.lt
    have i3A := hVA.ex.lt
    have hkA : k ≤ wA.heap.size := by have := iKA.lt; omega
    have HA := Lib.hid (And.intro hVA hbA)
    clear hVA hbA
    go_upto_region 7 with fail
    refine wp_region_eff [6, 7, 10] true (fun w' => w'.cell? ⟨k, 11, none⟩ = some (.slice none 0 0) ∧ w'.cell? ⟨w.heap.size, 0, none⟩ = some (.int .i64 l1) ∧ w'.cell? ⟨w.heap.size, 1, none⟩ = some (.int .i64 l2)) (by kernel_rfl) (by kernel_rfl) ?_ ?_
    · (try dsimp only); (repeat' apply And.intro) <;> go_simp
    repeat
      refine wpL_look rfl rfl ?_
      apply Exists.intro
      refine ⟨?_, ?_⟩
      focus
        rintro w' ⟨s0, s1, s2⟩
        go_simp
        first | done | rfl
      simp only [Act.put, List.setIfInBounds_toArray, List.set_cons_zero, List.set_cons_succ]
    refine wpL_do rfl rfl ?_
    apply Exists.intro
    apply Exists.intro
    refine ⟨?_, ?_, ?_⟩
    focus
      go_simp
      exact ⟨rfl, rfl⟩
    focus
      refine .inl ?_
      (try dsimp only); (repeat' apply And.intro) <;> go_simp
    simp only [Act.put, List.setIfInBounds_toArray, List.set_cons_zero, List.set_cons_succ]
    refine wpL_act rfl rfl ?_
    refine eff_append (.tmp 51) (.tmp 53) 60 ?e00 k 91 i9x (.agg #[.int .i64 0, .int .i64 0]) 2 16 Tryz.underlying60 hi9 h90 h91 h92 ?e9 ?e10 (.slice none 0 0) 0 [] ?e1 ?e2 ⟨wA.heap.size, 0, none⟩ 1 1 [.int .i64 l1, .int .i64 l2] ?e3 ?e4 ?news ?e5 ?e6 ?e7 ?e8 ?_
    case e00 => rfl
    case e9 => rfl
    case e10 => decide
    case e1 => rfl
    case e3 => rfl
    case e4 => rfl
    case e2 => exact World.ownsRow_nil _ k 91 2
    case e5 => intro u hu; simp at hu; rcases hu with rfl | rfl <;> rfl
    case e6 => unfold maxLen; omega
    case e7 => omega
    case e8 => simp; omega
    case news => exact news_new wA.drew [.int .i64 l1, .int .i64 l2] 91 wA.heap.size
    intro v' w2 hown2 hgrow hloc
    obtain ⟨a', cp', rfl⟩ := own_form hown2
    have hVA2 := HA.out.1.below (bel wA (wA.drew.alloc (Obj.cells #[.int .i64 l1, .int .i64 l2] 91)))
    have hfin := hVA2.turns (T := [(l1, l2)]) hgrow hown2
    have hbk2 : Blk w2 k _ 62 := hVA2.grown_blk (v := .slice none 0 0) hgrow (by simp [Value.ownBlock])
    have hx2 : Blk w2 w.heap.size #[.int .i64 l1, .int .i64 l2] 91 := (hgrow.block _ (by have := i3A.lt; simp; omega) (by simp [Value.ownBlock])).trans hVA2.ex
    have b11 : w2.cell? ⟨k, 11, none⟩ = some (.slice none 0 0) := hbk2.cell 11
    have f11 : w2.frozen? ⟨k, 11, none⟩ = false := hbk2.frozen 11
    have r0 : w2.cell? ⟨w.heap.size, 0, none⟩ = some (.int .i64 l1) := hx2.cell 0
    have r1 : w2.cell? ⟨w.heap.size, 1, none⟩ = some (.int .i64 l2) := hx2.cell 1
    have iK2 := hbk2.lt
    have hb2 : Below k w (w2.setCell ⟨k, 11, none⟩ (.slice a' (0 + 1) cp')) := HA.out.2.trans (((bel wA (wA.drew.alloc (Obj.cells #[.int .i64 l1, .int .i64 l2] 91))).mono hkA).trans (turned_below (v := .slice none 0 0) hgrow (by simp; omega) (Nat.le_refl _) (fun g hg => by simp [Value.ownBlock] at hg)))
    have HF := Lib.hid (And.intro hfin hb2)
    clear hown2 hgrow hloc hVA2 hfin hb2 hbk2 hx2
    refine ⟨.inl ?_, ?_⟩
    focus
      (try dsimp only); (repeat' apply And.intro) <;> go_simp
    simp only [Act.put, List.setIfInBounds_toArray, List.set_cons_zero, List.set_cons_succ]
    repeat
      refine wpL_look rfl rfl ?_
      apply Exists.intro
      refine ⟨?_, ?_⟩
      focus
        rintro w' ⟨s0, s1, s2⟩
        go_simp
        first | done | rfl
      simp only [Act.put, List.setIfInBounds_toArray, List.set_cons_zero, List.set_cons_succ]
    refine wpL_skip rfl rfl ?_
    refine ⟨w2.setCell ⟨k, 11, none⟩ (.slice a' (0 + 1) cp'), ?_, .inr ⟨rfl, rfl⟩, ?_⟩
    focus
      go_simp
    simp only [Act.put, List.setIfInBounds_toArray, List.set_cons_zero, List.set_cons_succ]
    refine wpL_end ?_
    clear a1 a11 q0 q1 iKA i3A b11 f11 r0 r1 HA
    go_wp2_with fail
    exact bodyPost_end (v := .tuple #[]) (by simp [results, go_sem]) rfl ⟨rfl, HF.out⟩
  · rw [hk] at c1
    go_enter Tryz.func44, Tryz.ntmps44
    go_upto_region 4 with (go_at_call 89; refine (hwalk _ w.heap.size (bel w _) (Blk.new _ _ _)).mono ?_; rintro e w1 ⟨rfl, ⟨lv1, mv1, hv1⟩, hb1⟩; have e0 : w1.cell? ⟨w.heap.size, 0, none⟩ = some (.int .i64 0) := hv1.ex.cell 0; have e1 : w1.cell? ⟨w.heap.size, 1, none⟩ = some (.int .i64 0) := hv1.ex.cell 1; have f0 := hv1.ex.frozen 0; have f1 := hv1.ex.frozen 1; have i3 := hv1.ex.lt; have HV1 := Lib.hid (And.intro hv1 hb1); clear hv1 hb1)
    refine abs_world (F := fun wA => VwOwn k wA k p w.heap.size #[.int .i64 l1, .int .i64 l2] ⟨c, fine, .slice none 0 0, 0, 0, 0⟩ RL RM lv1 mv1 ∧ Below k w wA) ⟨HV1.out.1.exSet _ _, ((((bel w (w.alloc (Obj.cells #[.int .i64 0, .int .i64 0] 91))).mono hkw).trans HV1.out.2).setCell (p := ⟨w.heap.size, 0, none⟩) hkw _).setCell (p := ⟨w.heap.size, 1, none⟩) hkw _⟩ ?_
    clear e0 e1 f0 f1 i3 HV1 c1
    rintro wA ⟨hVA, hbA⟩
    have a1 : wA.cell? ⟨k, 1, none⟩ = some (.int .i64 c.kind) := hVA.blk.cell 1
    rw [hk] at a1
    have a11 : wA.cell? ⟨k, 11, none⟩ = some (.slice none 0 0) := hVA.blk.cell 11
    have q0 : wA.cell? ⟨w.heap.size, 0, none⟩ = some (.int .i64 l1) := hVA.ex.cell 0
    have q1 : wA.cell? ⟨w.heap.size, 1, none⟩ = some (.int .i64 l2) := hVA.ex.cell 1
    have iKA := hVA.blk.lt
    have i3A := hVA.ex.lt
    have hkA : k ≤ wA.heap.size := by have := iKA.lt; omega
    have HA := Lib.hid (And.intro hVA hbA)
    clear hVA hbA
    go_upto_region 7 with fail
    refine wp_region_eff [6, 7, 10] true (fun w' => w'.cell? ⟨k, 11, none⟩ = some (.slice none 0 0) ∧ w'.cell? ⟨w.heap.size, 0, none⟩ = some (.int .i64 l1) ∧ w'.cell? ⟨w.heap.size, 1, none⟩ = some (.int .i64 l2)) (by kernel_rfl) (by kernel_rfl) ?_ ?_
    · (try dsimp only); (repeat' apply And.intro) <;> go_simp
    repeat
      refine wpL_look rfl rfl ?_
      apply Exists.intro
      refine ⟨?_, ?_⟩
      focus
        rintro w' ⟨s0, s1, s2⟩
        go_simp
        first | done | rfl
      simp only [Act.put, List.setIfInBounds_toArray, List.set_cons_zero, List.set_cons_succ]
    refine wpL_do rfl rfl ?_
    apply Exists.intro
    apply Exists.intro
    refine ⟨?_, ?_, ?_⟩
    focus
      go_simp
      exact ⟨rfl, rfl⟩
    focus
      refine .inl ?_
      (try dsimp only); (repeat' apply And.intro) <;> go_simp
    simp only [Act.put, List.setIfInBounds_toArray, List.set_cons_zero, List.set_cons_succ]
    refine wpL_act rfl rfl ?_
    refine eff_append (.tmp 51) (.tmp 53) 60 ?e00 k 91 i9x (.agg #[.int .i64 0, .int .i64 0]) 2 16 Tryz.underlying60 hi9 h90 h91 h92 ?e9 ?e10 (.slice none 0 0) 0 [] ?e1 ?e2 ⟨wA.heap.size, 0, none⟩ 1 1 [.int .i64 l1, .int .i64 l2] ?e3 ?e4 ?news ?e5 ?e6 ?e7 ?e8 ?_
    case e00 => rfl
    case e9 => rfl
    case e10 => decide
    case e1 => rfl
    case e3 => rfl
    case e4 => rfl
    case e2 => exact World.ownsRow_nil _ k 91 2
    case e5 => intro u hu; simp at hu; rcases hu with rfl | rfl <;> rfl
    case e6 => unfold maxLen; omega
    case e7 => omega
    case e8 => simp; omega
    case news => exact news_new wA.drew [.int .i64 l1, .int .i64 l2] 91 wA.heap.size
    intro v' w2 hown2 hgrow hloc
    obtain ⟨a', cp', rfl⟩ := own_form hown2
    have hVA2 := HA.out.1.below (bel wA (wA.drew.alloc (Obj.cells #[.int .i64 l1, .int .i64 l2] 91)))
    have hfin := hVA2.turns (T := [(l1, l2)]) hgrow hown2
    have hbk2 : Blk w2 k _ 62 := hVA2.grown_blk (v := .slice none 0 0) hgrow (by simp [Value.ownBlock])
    have hx2 : Blk w2 w.heap.size #[.int .i64 l1, .int .i64 l2] 91 := (hgrow.block _ (by have := i3A.lt; simp; omega) (by simp [Value.ownBlock])).trans hVA2.ex
    have b11 : w2.cell? ⟨k, 11, none⟩ = some (.slice none 0 0) := hbk2.cell 11
    have f11 : w2.frozen? ⟨k, 11, none⟩ = false := hbk2.frozen 11
    have r0 : w2.cell? ⟨w.heap.size, 0, none⟩ = some (.int .i64 l1) := hx2.cell 0
    have r1 : w2.cell? ⟨w.heap.size, 1, none⟩ = some (.int .i64 l2) := hx2.cell 1
    have iK2 := hbk2.lt
    have hb2 : Below k w (w2.setCell ⟨k, 11, none⟩ (.slice a' (0 + 1) cp')) := HA.out.2.trans (((bel wA (wA.drew.alloc (Obj.cells #[.int .i64 l1, .int .i64 l2] 91))).mono hkA).trans (turned_below (v := .slice none 0 0) hgrow (by simp; omega) (Nat.le_refl _) (fun g hg => by simp [Value.ownBlock] at hg)))
    have HF := Lib.hid (And.intro hfin hb2)
    clear hown2 hgrow hloc hVA2 hfin hb2 hbk2 hx2
    refine ⟨.inl ?_, ?_⟩
    focus
      (try dsimp only); (repeat' apply And.intro) <;> go_simp
    simp only [Act.put, List.setIfInBounds_toArray, List.set_cons_zero, List.set_cons_succ]
    repeat
      refine wpL_look rfl rfl ?_
      apply Exists.intro
      refine ⟨?_, ?_⟩
      focus
        rintro w' ⟨s0, s1, s2⟩
        go_simp
        first | done | rfl
      simp only [Act.put, List.setIfInBounds_toArray, List.set_cons_zero, List.set_cons_succ]
    refine wpL_skip rfl rfl ?_
    refine ⟨w2.setCell ⟨k, 11, none⟩ (.slice a' (0 + 1) cp'), ?_, .inr ⟨rfl, rfl⟩, ?_⟩
    focus
      go_simp
    simp only [Act.put, List.setIfInBounds_toArray, List.set_cons_zero, List.set_cons_succ]
    refine wpL_end ?_
    clear a1 a11 q0 q1 iKA i3A b11 f11 r0 r1 HA
    go_wp2_with fail
    exact bodyPost_end (v := .tuple #[]) (by simp [results, go_sem]) rfl ⟨rfl, HF.out⟩
theorem VwOwn.at_ {w : World} {k p b3 : Nat} {c3 : Array Value} {c : PCall} {fine : Bool} {by_ co go : Int} {L : List (Int × Int)} {M : List Int} {lv mv : Value} (h : VwOwn k w k p b3 c3 ⟨c, fine, .slice none 0 0, by_, co, go⟩ L M lv mv) : VwAt w k p c fine L [] M by_ co go :=
  ⟨lv, _, mv, h.blk, h.lo, World.ownsRow_nil w k 91 2, h.mo⟩
/-- A view that did nothing has no turns. -/
theorem VwAt.cut {w : World} {k p : Nat} {c : PCall} {fine : Bool} {L T : List (Int × Int)} {M : List Int} {by_ co go : Int} (h : VwAt w k p c fine L T M by_ co go) :
    VwAt (((w.setCell ⟨k, 11, none⟩ (.slice none 0 0)).setCell ⟨k, 14, none⟩ (.int .i64 0)).setCell ⟨k, 15, none⟩ (.int .i64 0)) k p c fine L [] M by_ 0 0 := by
  obtain ⟨lv, tv, mv, h1, h2, h3, h4⟩ := h
  have k1 := h1.set_ 11 (.slice none 0 0)
  have k2 := k1.set_ 14 (.int .i64 0)
  have k3 := k2.set_ 15 (.int .i64 0)
  refine ⟨lv, .slice none 0 0, mv, ?_, own_set (own_set (own_set h2 h1 (by decide) _ _) k1 (by decide) _ _) k2 (by decide) _ _, World.ownsRow_nil _ k 91 2, own_set (own_set (own_set h4 h1 (by decide) _ _) k1 (by decide) _ _) k2 (by decide) _ _⟩
  simpa [vwCells] using k3
theorem VwAt.rows {w : World} {k p : Nat} {c : PCall} {fine : Bool} {L T : List (Int × Int)} {M : List Int} {by_ co go : Int} (h : VwAt w k p c fine L T M by_ co go) :
    ∃ lv tv mv, Blk w k (vwCells p ⟨c, fine, tv, by_, co, go⟩ lv mv) 62 ∧ RowAt w 2 lv (L.map prCells) ∧ RowAt w 2 tv (T.map prCells) ∧ RowAt w 1 mv (M.map intCells) := by
  obtain ⟨lv, tv, mv, h1, h2, h3, h4⟩ := h
  exact ⟨lv, tv, mv, h1, pairs_at h2, pairs_at h3, ints_at h4⟩
end Go.Proofs.YtjkenolgkkknaaaGreatDoor
