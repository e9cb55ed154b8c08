/- view.paths of package commute at Create, Mkdir and Stat. Conditions: none. A call's view. Conditions: none. -/
import Derived.Test.YtjkenolgkkknaaaGreatDoorVwA
set_option linter.unusedVariables false
set_option linter.unusedSimpArgs false
namespace Go.Proofs.YtjkenolgkkknaaaGreatDoor
open Go.RowKit
/-- A view that is read. -/
def VwAt (w : World) (k p : Nat) (c : PCall) (fine : Bool) (L T : List (Int × Int)) (M : List Int) (bytes counts gone : Int) : Prop :=
  ∃ lv tv mv, Blk w k (vwCells p ⟨c, fine, tv, bytes, counts, gone⟩ lv mv) 62 ∧ w.ownsRow k 91 2 lv L.length (L.map prCells).flatten ∧ w.ownsRow k 91 2 tv T.length (T.map prCells).flatten ∧ w.ownsRow k 3 1 mv M.length (M.map (Value.int .i64))
theorem VwAt.below {w w' : World} {k p : Nat} {c : PCall} {fine : Bool} {L T : List (Int × Int)} {M : List Int} {bytes counts gone : Int} (h : VwAt w k p c fine L T M bytes counts gone) (hb : Below w.heap.size w w') : VwAt w' k p c fine L T M bytes counts gone := by
  obtain ⟨lv, tv, mv, h1, h2, h3, h4⟩ := h
  have hk : Keep (fun _ => False) w w' := Keep.of_below hb _
  exact ⟨lv, tv, mv, h1.below hb h1.lt.lt, hk.own h2 (fun _ _ => id), hk.own h3 (fun _ _ => id), hk.own h4 (fun _ _ => id)⟩
theorem pairs_at {B : Nat} {v : Value} {T : List (Int × Int)} {w : World} (h : w.ownsRow B 91 2 v T.length (T.map prCells).flatten) : RowAt w 2 v (T.map prCells) :=
  (OwnP.of_own (by rw [List.length_map]; exact h) (by decide) (fun cs hc => by
    obtain ⟨n, _, rfl⟩ := List.mem_map.1 hc
    rfl)).row
theorem ints_flat (M : List Int) : (M.map intCells).flatten = M.map (Value.int .i64) := by
  induction M with
  | nil => rfl
  | cons a r ih =>
    simp only [List.map_cons, List.flatten_cons, ih]
    rfl
theorem ints_at {B : Nat} {v : Value} {M : List Int} {w : World} (h : w.ownsRow B 3 1 v M.length (M.map (Value.int .i64))) : RowAt w 1 v (M.map intCells) :=
  (OwnP.of_own (by rw [List.length_map, ints_flat]; exact h) (by decide) (fun cs hc => by
    obtain ⟨n, _, rfl⟩ := List.mem_map.1 hc
    rfl)).row
theorem VwOwn.exSet {B : Nat} {w : World} {k p b3 : Nat} {x y : Value} {X : VX} {L : List (Int × Int)} {M : List Int} {lv mv : Value} (h : VwOwn B w k p b3 #[x, y] X L M lv mv) (a b : Value) :
    VwOwn B ((w.setCell ⟨b3, 0, none⟩ a).setCell ⟨b3, 1, none⟩ b) k p b3 #[a, b] X L M lv mv := by
  have hkp : Keep (fun i => i = b3) w ((w.setCell ⟨b3, 0, none⟩ a).setCell ⟨b3, 1, none⟩ b) :=
    Keep.setCell (S := fun i => i = b3) (p := ⟨b3, 1, none⟩) (Keep.setCell (S := fun i => i = b3) (p := ⟨b3, 0, none⟩) (Keep.refl _ w) (.inl rfl) _) (.inl rfl) _
  have hb3k : b3 ≠ k := h.ex.ne_ h.blk (by decide)
  refine ⟨h.hB, ?_, h.ne3, hkp.blk h.blk (fun e => hb3k e.symm), hkp.own h.lo (fun g hg e => h.ne3 (by rw [hg, e])), hkp.own h.mo (fun g hg e => ?_)⟩
  · have := (h.ex.set_ 0 a).set_ 1 b
    simpa using this
  · subst e
    exact own_ne_blk h.mo h.ex (by decide) hg
/-- A row of pairs is laid into the view's turns. -/
theorem VwOwn.turns {w w1 : World} {k p b3 : Nat} {c3 : Array Value} {c : PCall} {fine : Bool} {by_ co go : Int} {L T : List (Int × Int)} {M : List Int} {lv mv v' : Value} (h : VwOwn k w k p b3 c3 ⟨c, fine, .slice none 0 0, by_, co, go⟩ L M lv mv) (hg : w.grownBy w1 none) (hown : w1.ownsRow k 91 2 v' T.length (T.map prCells).flatten) :
    VwAt (w1.setCell ⟨k, 11, none⟩ v') k p c fine L T M by_ co go := by
  have hk := (Keep.refl (fun _ => False) w).grown hg (fun g hg => by cases hg)
  have h1 := h.keep hk id (fun _ _ => id) (fun _ _ => id) id
  refine ⟨lv, v', mv, ?_, own_set h1.lo h1.blk (by decide) 11 v', own_set hown h1.blk (by decide) 11 v', own_set h1.mo h1.blk (by decide) 11 v'⟩
  have := h1.blk.set_ 11 v'
  simpa [vwCells] using this
/-- A view as it is begun. -/
def VwNew (w : World) (k p : Nat) (c : PCall) (fine : Bool) : Prop := Blk w k (vwCells p ⟨c, fine, .slice none 0 0, 0, 0, 0⟩ (.slice none 0 0) (.slice none 0 0)) 62
theorem VwNew.own {w : World} {k p : Nat} {c : PCall} {fine : Bool} (h : VwNew w k p c fine) (b3 : Nat) (c3 : Array Value) (h3 : Blk w b3 c3 91) : VwOwn k w k p b3 c3 ⟨c, fine, .slice none 0 0, 0, 0, 0⟩ [] [] (.slice none 0 0) (.slice none 0 0) :=
  ⟨Nat.le_refl _, h3, by simp [Value.ownBlock], h, World.ownsRow_nil w k 91 2, World.ownsRow_nil w k 3 1⟩
set_option maxRecDepth 100000 in
set_option maxHeartbeats 8000000 in
theorem paths_create (k p : Nat) (S : PSt) (c : PCall) (fine : Bool) (w : World) (h : VwNew w k p c fine) (hL : Laid k (fun w => SP w p S) w) (hwf : S.wf) (hlk : linkedB S = true) (hk : c.kind = 0 ∨ c.kind = 1) (hp : (parseM c.path).1 = 0) (hnl : (parseM c.path).2.length ≤ 1000000000) :
    Calls Tryz.prog 44 #[.pointer (some ⟨k, 0, none⟩)] w fun e w' => let R := vwalkF S (parseM c.path).2 (0, 0) 1 [] [1]
      e = .returned (.tuple #[]) ∧ VwAt w' k p c fine R.L [R.last] R.M 0 0 0 ∧ Below k w w' := by
  obtain ⟨i9x, hi9, h90, h91, h92⟩ := info_parts info91
  have iK := h.lt
  have hkw : k ≤ w.heap.size := by have := iK.lt; omega
  have c1 : w.cell? ⟨k, 1, none⟩ = some (.int .i64 c.kind) := h.cell 1
  have c6 : w.cell? ⟨k, 6, none⟩ = some (.string c.path) := h.cell 6
  have hwalk : ∀ ww b3, Below w.heap.size w ww → Blk ww b3 #[.int .i64 0, .int .i64 0] 91 → Calls Tryz.prog 89 #[.pointer (some ⟨k, 0, none⟩), .string c.path] ww _ := fun ww b3 hb h3 =>
    walk89 k k p b3 _ S _ [] [] c.path _ _ ww (VwNew.own (h.below hb iK.lt) b3 _ h3) (hL.below (hb.mono hkw)) (Nat.le_trans hkw hb.size) hwf hlk hp hnl (by simp) (by simp)
  simp only [List.nil_append] at hwalk
  generalize vwalkF S (parseM c.path).2 (0, 0) 1 [] [1] = R at hwalk ⊢
  obtain ⟨⟨l1, l2⟩, rn, RL, RM⟩ := R
  unfold pairAt at hwalk
  simp only at hwalk ⊢
  have H := Lib.hid h
  clear h hL hwf hlk hp hnl
  rcases hk with hk | hk
  · rw [hk] at c1
    go_enter Tryz.func44, Tryz.ntmps44
    go_upto_region 4 with (go_at_call 89; refine (hwalk _ w.heap.size (bel w _) (Blk.new _ _ _)).mono ?_; rintro e w1 ⟨rfl, ⟨lv1, mv1, hv1⟩, hb1⟩; have e0 : w1.cell? ⟨w.heap.size, 0, none⟩ = some (.int .i64 0) := hv1.ex.cell 0; have e1 : w1.cell? ⟨w.heap.size, 1, none⟩ = some (.int .i64 0) := hv1.ex.cell 1; have f0 := hv1.ex.frozen 0; have f1 := hv1.ex.frozen 1; have i3 := hv1.ex.lt; have HV1 := Lib.hid (And.intro hv1 hb1); clear hv1 hb1)
    refine abs_world (F := fun wA => VwOwn k wA k p w.heap.size #[.int .i64 l1, .int .i64 l2] ⟨c, fine, .slice none 0 0, 0, 0, 0⟩ RL RM lv1 mv1 ∧ Below k w wA) ⟨HV1.out.1.exSet _ _, ((((bel w (w.alloc (Obj.cells #[.int .i64 0, .int .i64 0] 91))).mono hkw).trans HV1.out.2).setCell (p := ⟨w.heap.size, 0, none⟩) hkw _).setCell (p := ⟨w.heap.size, 1, none⟩) hkw _⟩ ?_
    clear e0 e1 f0 f1 i3 HV1 c1
    rintro wA ⟨hVA, hbA⟩
    have a1 : wA.cell? ⟨k, 1, none⟩ = some (.int .i64 c.kind) := hVA.blk.cell 1
    rw [hk] at a1
    have a11 : wA.cell? ⟨k, 11, none⟩ = some (.slice none 0 0) := hVA.blk.cell 11
    have q0 : wA.cell? ⟨w.heap.size, 0, none⟩ = some (.int .i64 l1) := hVA.ex.cell 0
    have q1 : wA.cell? ⟨w.heap.size, 1, none⟩ = some (.int .i64 l2) := hVA.ex.cell 1
    have iKA := hVA.blk.lt
    have i3A := hVA.ex.lt
    have hkA : k ≤ wA.heap.size := by have := iKA.lt; omega
    have HA := Lib.hid (And.intro hVA hbA)
    clear hVA hbA
    go_upto_region 7 with fail
    refine wp_region_eff [6, 7, 10] true (fun w' => w'.cell? ⟨k, 11, none⟩ = some (.slice none 0 0) ∧ w'.cell? ⟨w.heap.size, 0, none⟩ = some (.int .i64 l1) ∧ w'.cell? ⟨w.heap.size, 1, none⟩ = some (.int .i64 l2)) (by kernel_rfl) (by kernel_rfl) ?_ ?_
    · (try dsimp only); (repeat' apply And.intro) <;> go_simp
    repeat
      refine wpL_look rfl rfl ?_
      apply Exists.intro
      refine ⟨?_, ?_⟩
      focus
        rintro w' ⟨s0, s1, s2⟩
        go_simp
        first | done | rfl
      simp only [Act.put, List.setIfInBounds_toArray, List.set_cons_zero, List.set_cons_succ]
    refine wpL_do rfl rfl ?_
    apply Exists.intro
    apply Exists.intro
    refine ⟨?_, ?_, ?_⟩
    focus
      go_simp
      exact ⟨rfl, rfl⟩
    focus
      refine .inl ?_
      (try dsimp only); (repeat' apply And.intro) <;> go_simp
    simp only [Act.put, List.setIfInBounds_toArray, List.set_cons_zero, List.set_cons_succ]
    refine wpL_act rfl rfl ?_
    refine eff_append (.tmp 51) (.tmp 53) 60 ?e00 k 91 i9x (.agg #[.int .i64 0, .int .i64 0]) 2 16 Tryz.underlying60 hi9 h90 h91 h92 ?e9 ?e10 (.slice none 0 0) 0 [] ?e1 ?e2 ⟨wA.heap.size, 0, none⟩ 1 1 [.int .i64 l1, .int .i64 l2] ?e3 ?e4 ?news ?e5 ?e6 ?e7 ?e8 ?_
    case e00 => rfl
    case e9 => rfl
    case e10 => decide
    case e1 => rfl
    case e3 => rfl
    case e4 => rfl
    case e2 => exact World.ownsRow_nil _ k 91 2
    case e5 => intro u hu; simp at hu; rcases hu with rfl | rfl <;> rfl
    case e6 => unfold maxLen; omega
    case e7 => omega
    case e8 => simp; omega
    case news => exact news_new wA.drew [.int .i64 l1, .int .i64 l2] 91 wA.heap.size
    intro v' w2 hown2 hgrow hloc
    obtain ⟨a', cp', rfl⟩ := own_form hown2
    have hVA2 := HA.out.1.below (bel wA (wA.drew.alloc (Obj.cells #[.int .i64 l1, .int .i64 l2] 91)))
    have hfin := hVA2.turns (T := [(l1, l2)]) hgrow hown2
    have hbk2 : Blk w2 k _ 62 := hVA2.grown_blk (v := .slice none 0 0) hgrow (by simp [Value.ownBlock])
    have hx2 : Blk w2 w.heap.size #[.int .i64 l1, .int .i64 l2] 91 := (hgrow.block _ (by have := i3A.lt; simp; omega) (by simp [Value.ownBlock])).trans hVA2.ex
    have b11 : w2.cell? ⟨k, 11, none⟩ = some (.slice none 0 0) := hbk2.cell 11
    have f11 : w2.frozen? ⟨k, 11, none⟩ = false := hbk2.frozen 11
    have r0 : w2.cell? ⟨w.heap.size, 0, none⟩ = some (.int .i64 l1) := hx2.cell 0
    have r1 : w2.cell? ⟨w.heap.size, 1, none⟩ = some (.int .i64 l2) := hx2.cell 1
    have iK2 := hbk2.lt
    have hb2 : Below k w (w2.setCell ⟨k, 11, none⟩ (.slice a' (0 + 1) cp')) := HA.out.2.trans (((bel wA (wA.drew.alloc (Obj.cells #[.int .i64 l1, .int .i64 l2] 91))).mono hkA).trans (turned_below (v := .slice none 0 0) hgrow (by simp; omega) (Nat.le_refl _) (fun g hg => by simp [Value.ownBlock] at hg)))
    have HF := Lib.hid (And.intro hfin hb2)
    clear hown2 hgrow hloc hVA2 hfin hb2 hbk2 hx2
    refine ⟨.inl ?_, ?_⟩
    focus
      (try dsimp only); (repeat' apply And.intro) <;> go_simp
    simp only [Act.put, List.setIfInBounds_toArray, List.set_cons_zero, List.set_cons_succ]
    repeat
      refine wpL_look rfl rfl ?_
      apply Exists.intro
      refine ⟨?_, ?_⟩
      focus
        rintro w' ⟨s0, s1, s2⟩
        go_simp
        first | done | rfl
      simp only [Act.put, List.setIfInBounds_toArray, List.set_cons_zero, List.set_cons_succ]
    refine wpL_skip rfl rfl ?_
    refine ⟨w2.setCell ⟨k, 11, none⟩ (.slice a' (0 + 1) cp'), ?_, .inr ⟨rfl, rfl⟩, ?_⟩
    focus
      go_simp
    simp only [Act.put, List.setIfInBounds_toArray, List.set_cons_zero, List.set_cons_succ]
    refine wpL_end ?_
    clear a1 a11 q0 q1 iKA i3A b11 f11 r0 r1 HA
    go_wp2_with fail
    exact bodyPost_end (v := .tuple #[]) (by simp [results, go_sem]) rfl ⟨rfl, HF.out⟩
  · rw [hk] at c1
    go_enter Tryz.func44, Tryz.ntmps44
    go_upto_region 4 with (go_at_call 89; refine (hwalk _ w.heap.size (bel w _) (Blk.new _ _ _)).mono ?_; rintro e w1 ⟨rfl, ⟨lv1, mv1, hv1⟩, hb1⟩; have e0 : w1.cell? ⟨w.heap.size, 0, none⟩ = some (.int .i64 0) := hv1.ex.cell 0; have e1 : w1.cell? ⟨w.heap.size, 1, none⟩ = some (.int .i64 0) := hv1.ex.cell 1; have f0 := hv1.ex.frozen 0; have f1 := hv1.ex.frozen 1; have i3 := hv1.ex.lt; have HV1 := Lib.hid (And.intro hv1 hb1); clear hv1 hb1)
    refine abs_world (F := fun wA => VwOwn k wA k p w.heap.size #[.int .i64 l1, .int .i64 l2] ⟨c, fine, .slice none 0 0, 0, 0, 0⟩ RL RM lv1 mv1 ∧ Below k w wA) ⟨HV1.out.1.exSet _ _, ((((bel w (w.alloc (Obj.cells #[.int .i64 0, .int .i64 0] 91))).mono hkw).trans HV1.out.2).setCell (p := ⟨w.heap.size, 0, none⟩) hkw _).setCell (p := ⟨w.heap.size, 1, none⟩) hkw _⟩ ?_
    clear e0 e1 f0 f1 i3 HV1 c1
    rintro wA ⟨hVA, hbA⟩
    have a1 : wA.cell? ⟨k, 1, none⟩ = some (.int .i64 c.kind) := hVA.blk.cell 1
    rw [hk] at a1
    have a11 : wA.cell? ⟨k, 11, none⟩ = some (.slice none 0 0) := hVA.blk.cell 11
    have q0 : wA.cell? ⟨w.heap.size, 0, none⟩ = some (.int .i64 l1) := hVA.ex.cell 0
    have q1 : wA.cell? ⟨w.heap.size, 1, none⟩ = some (.int .i64 l2) := hVA.ex.cell 1
    have iKA := hVA.blk.lt
    have i3A := hVA.ex.lt
    have hkA : k ≤ wA.heap.size := by have := iKA.lt; omega
    have HA := Lib.hid (And.intro hVA hbA)
    clear hVA hbA
    go_upto_region 7 with fail
    refine wp_region_eff [6, 7, 10] true (fun w' => w'.cell? ⟨k, 11, none⟩ = some (.slice none 0 0) ∧ w'.cell? ⟨w.heap.size, 0, none⟩ = some (.int .i64 l1) ∧ w'.cell? ⟨w.heap.size, 1, none⟩ = some (.int .i64 l2)) (by kernel_rfl) (by kernel_rfl) ?_ ?_
    · (try dsimp only); (repeat' apply And.intro) <;> go_simp
    repeat
      refine wpL_look rfl rfl ?_
      apply Exists.intro
      refine ⟨?_, ?_⟩
      focus
        rintro w' ⟨s0, s1, s2⟩
        go_simp
        first | done | rfl
      simp only [Act.put, List.setIfInBounds_toArray, List.set_cons_zero, List.set_cons_succ]
    refine wpL_do rfl rfl ?_
    apply Exists.intro
    apply Exists.intro
    refine ⟨?_, ?_, ?_⟩
    focus
      go_simp
      exact ⟨rfl, rfl⟩
    focus
      refine .inl ?_
      (try dsimp only); (repeat' apply And.intro) <;> go_simp
    simp only [Act.put, List.setIfInBounds_toArray, List.set_cons_zero, List.set_cons_succ]
    refine wpL_act rfl rfl ?_
    refine eff_append (.tmp 51) (.tmp 53) 60 ?e00 k 91 i9x (.agg #[.int .i64 0, .int .i64 0]) 2 16 Tryz.underlying60 hi9 h90 h91 h92 ?e9 ?e10 (.slice none 0 0) 0 [] ?e1 ?e2 ⟨wA.heap.size, 0, none⟩ 1 1 [.int .i64 l1, .int .i64 l2] ?e3 ?e4 ?news ?e5 ?e6 ?e7 ?e8 ?_
    case e00 => rfl
    case e9 => rfl
    case e10 => decide
    case e1 => rfl
    case e3 => rfl
    case e4 => rfl
    case e2 => exact World.ownsRow_nil _ k 91 2
    case e5 => intro u hu; simp at hu; rcases hu with rfl | rfl <;> rfl
    case e6 => unfold maxLen; omega
    case e7 => omega
    case e8 => simp; omega
    case news => exact news_new wA.drew [.int .i64 l1, .int .i64 l2] 91 wA.heap.size
    intro v' w2 hown2 hgrow hloc
    obtain ⟨a', cp', rfl⟩ := own_form hown2
    have hVA2 := HA.out.1.below (bel wA (wA.drew.alloc (Obj.cells #[.int .i64 l1, .int .i64 l2] 91)))
    have hfin := hVA2.turns (T := [(l1, l2)]) hgrow hown2
    have hbk2 : Blk w2 k _ 62 := hVA2.grown_blk (v := .slice none 0 0) hgrow (by simp [Value.ownBlock])
    have hx2 : Blk w2 w.heap.size #[.int .i64 l1, .int .i64 l2] 91 := (hgrow.block _ (by have := i3A.lt; simp; omega) (by simp [Value.ownBlock])).trans hVA2.ex
    have b11 : w2.cell? ⟨k, 11, none⟩ = some (.slice none 0 0) := hbk2.cell 11
    have f11 : w2.frozen? ⟨k, 11, none⟩ = false := hbk2.frozen 11
    have r0 : w2.cell? ⟨w.heap.size, 0, none⟩ = some (.int .i64 l1) := hx2.cell 0
    have r1 : w2.cell? ⟨w.heap.size, 1, none⟩ = some (.int .i64 l2) := hx2.cell 1
    have iK2 := hbk2.lt
    have hb2 : Below k w (w2.setCell ⟨k, 11, none⟩ (.slice a' (0 + 1) cp')) := HA.out.2.trans (((bel wA (wA.drew.alloc (Obj.cells #[.int .i64 l1, .int .i64 l2] 91))).mono hkA).trans (turned_below (v := .slice none 0 0) hgrow (by simp; omega) (Nat.le_refl _) (fun g hg => by simp [Value.ownBlock] at hg)))
    have HF := Lib.hid (And.intro hfin hb2)
    clear hown2 hgrow hloc hVA2 hfin hb2 hbk2 hx2
    refine ⟨.inl ?_, ?_⟩
    focus
      (try dsimp only); (repeat' apply And.intro) <;> go_simp
    simp only [Act.put, List.setIfInBounds_toArray, List.set_cons_zero, List.set_cons_succ]
    repeat
      refine wpL_look rfl rfl ?_
      apply Exists.intro
      refine ⟨?_, ?_⟩
      focus
        rintro w' ⟨s0, s1, s2⟩
        go_simp
        first | done | rfl
      simp only [Act.put, List.setIfInBounds_toArray, List.set_cons_zero, List.set_cons_succ]
    refine wpL_skip rfl rfl ?_
    refine ⟨w2.setCell ⟨k, 11, none⟩ (.slice a' (0 + 1) cp'), ?_, .inr ⟨rfl, rfl⟩, ?_⟩
    focus
      go_simp
    simp only [Act.put, List.setIfInBounds_toArray, List.set_cons_zero, List.set_cons_succ]
    refine wpL_end ?_
    clear a1 a11 q0 q1 iKA i3A b11 f11 r0 r1 HA
    go_wp2_with fail
    exact bodyPost_end (v := .tuple #[]) (by simp [results, go_sem]) rfl ⟨rfl, HF.out⟩
def statBy (S : PSt) (n : Int) : Int := if 0 ≤ idxM (isNum n) S.ins then (match S.ins[(idxM (isNum n) S.ins).toNat]? with | some x => if x.dir = true then 0 else n | none => 0) else 0
theorem none_row (w : World) (k : Nat) : RowAt w k (.slice none 0 0) [] := ⟨none, 0, rfl, by simp, fun h => absurd h (by simp)⟩
theorem VwOwn.at_ {w : World} {k p b3 : Nat} {c3 : Array Value} {c : PCall} {fine : Bool} {by_ co go : Int} {L : List (Int × Int)} {M : List Int} {lv mv : Value} (h : VwOwn k w k p b3 c3 ⟨c, fine, .slice none 0 0, by_, co, go⟩ L M lv mv) : VwAt w k p c fine L [] M by_ co go :=
  ⟨lv, _, mv, h.blk, h.lo, World.ownsRow_nil w k 91 2, h.mo⟩
theorem VwOwn.bytes_at {w : World} {k p b3 : Nat} {c3 : Array Value} {c : PCall} {fine : Bool} {by_ co go : Int} {L : List (Int × Int)} {M : List Int} {lv mv : Value} (h : VwOwn k w k p b3 c3 ⟨c, fine, .slice none 0 0, by_, co, go⟩ L M lv mv) (n : Int) : VwAt (w.setCell ⟨k, 13, none⟩ (.int .i64 n)) k p c fine L [] M n co go := by
  refine ⟨lv, _, mv, ?_, own_set h.lo h.blk (by decide) 13 _, World.ownsRow_nil _ k 91 2, own_set h.mo h.blk (by decide) 13 _⟩
  have := h.blk.set_ 13 (.int .i64 n)
  simpa [vwCells] using this
set_option maxRecDepth 100000 in
set_option maxHeartbeats 8000000 in
theorem paths_stat (k p : Nat) (S : PSt) (c : PCall) (fine : Bool) (w : World) (h : VwNew w k p c fine) (hL : Laid k (fun w => SP w p S) w) (hwf : S.wf) (hlk : linkedB S = true) (hpos : 0 < S.ins.length) (hk : c.kind = 13) (hp : (parseM c.path).1 = 0) (hnl : (parseM c.path).2.length ≤ 1000000000) :
    Calls Tryz.prog 44 #[.pointer (some ⟨k, 0, none⟩)] w fun e w' => let R := vwalkF S (parseM c.path).2 (0, 0) 1 [] [1]
      e = .returned (.tuple #[]) ∧ VwAt w' k p c fine R.L [] R.M (statBy S R.num) 0 0 ∧ Below k w w' := by
  have iK := h.lt
  have hkw : k ≤ w.heap.size := by have := iK.lt; omega
  have c1 : w.cell? ⟨k, 1, none⟩ = some (.int .i64 c.kind) := h.cell 1
  have c6 : w.cell? ⟨k, 6, none⟩ = some (.string c.path) := h.cell 6
  have hwalk : ∀ ww b3, Below w.heap.size w ww → Blk ww b3 #[.int .i64 0, .int .i64 0] 91 → Calls Tryz.prog 89 #[.pointer (some ⟨k, 0, none⟩), .string c.path] ww _ := fun ww b3 hb h3 =>
    walk89 k k p b3 _ S _ [] [] c.path _ _ ww (VwNew.own (h.below hb iK.lt) b3 _ h3) (hL.below (hb.mono hkw)) (Nat.le_trans hkw hb.size) hwf hlk hp hnl (by simp) (by simp)
  simp only [List.nil_append] at hwalk
  generalize vwalkF S (parseM c.path).2 (0, 0) 1 [] [1] = R at hwalk ⊢
  obtain ⟨⟨l1, l2⟩, rn, RL, RM⟩ := R
  unfold pairAt at hwalk
  simp only at hwalk ⊢
  obtain ⟨w0, hsp, hB0, hb0⟩ := hL
  have hino : ∀ ww, Below k w ww → BlockLt k ww → ww.cell? ⟨k, 0, none⟩ = some (.pointer (some ⟨p, 0, none⟩)) → Calls Tryz.prog 48 #[.pointer (some ⟨k, 0, none⟩), .int .i64 rn] ww _ := fun ww hb ik hk0 => inode48 k p S rn ww ik hk0 (hsp.below (hb0.trans (hb.mono hB0)) (Nat.le_refl _)) hwf.1 hpos
  obtain ⟨hl0, iv, ov, mv0, g0, g1, g2, hr⟩ := hsp
  obtain ⟨ai, capi, rfl, hati⟩ := hr.ins_at2
  unfold statBy
  have hib := idxM_bounds (isNum rn) S.ins
  generalize idxM (isNum rn) S.ins = K at hino hib ⊢
  generalize hby : (if 0 ≤ K then (match S.ins[K.toNat]? with | some x => if x.dir = true then 0 else rn | none => 0) else 0) = byv
  have HBY := Lib.hid hby
  clear hby
  have H := Lib.hid h
  have HI := Lib.hid hati
  have HG := Lib.hid g0
  clear h hwf hlk hp hnl hr hati g0 g1 g2
  rw [hk] at c1
  go_enter Tryz.func44, Tryz.ntmps44
  go_upto_region 4 with (go_at_call 89; refine (hwalk _ w.heap.size (bel w _) (Blk.new _ _ _)).mono ?_; rintro e w1 ⟨rfl, ⟨lv1, mv1, hv1⟩, hb1⟩; have e0 : w1.cell? ⟨w.heap.size, 0, none⟩ = some (.int .i64 0) := hv1.ex.cell 0; have e1 : w1.cell? ⟨w.heap.size, 1, none⟩ = some (.int .i64 0) := hv1.ex.cell 1; have f0 := hv1.ex.frozen 0; have f1 := hv1.ex.frozen 1; have i3 := hv1.ex.lt; have HV1 := Lib.hid (And.intro hv1 hb1); clear hv1 hb1)
  refine abs_world (F := fun wA => VwOwn k wA k p w.heap.size #[.int .i64 l1, .int .i64 l2] ⟨c, fine, .slice none 0 0, 0, 0, 0⟩ RL RM lv1 mv1 ∧ Below k w wA) ⟨HV1.out.1.exSet _ _, ((((bel w (w.alloc (Obj.cells #[.int .i64 0, .int .i64 0] 91))).mono hkw).trans HV1.out.2).setCell (p := ⟨w.heap.size, 0, none⟩) hkw _).setCell (p := ⟨w.heap.size, 1, none⟩) hkw _⟩ ?_
  clear e0 e1 f0 f1 i3 HV1 c1
  rintro wA ⟨hVA, hbA⟩
  have a1 : wA.cell? ⟨k, 1, none⟩ = some (.int .i64 c.kind) := hVA.blk.cell 1
  rw [hk] at a1
  have a0 : wA.cell? ⟨k, 0, none⟩ = some (.pointer (some ⟨p, 0, none⟩)) := hVA.blk.cell 0
  have iKA := hVA.blk.lt
  have hkA : k ≤ wA.heap.size := by have := iKA.lt; omega
  have hcall := hino wA hbA iKA a0
  have hsA : wA.cell? ⟨p, 0, none⟩ = some (.slice ai S.ins.length capi) := ((hb0.trans (hbA.mono hB0)).cell (p := ⟨p, 0, none⟩) hl0).trans HG.out
  have HA := Lib.hid (And.intro hVA hbA)
  clear hVA hbA hino
  by_cases hK0 : 0 ≤ K
  · obtain ⟨j, rfl⟩ : ∃ j : Nat, K = j := ⟨K.toNat, by omega⟩
    obtain ⟨x, hx⟩ : ∃ x, S.ins[j]? = some x := ⟨_, List.getElem?_eq_getElem (by omega)⟩
    obtain ⟨bi, off, ev, rfl, iG0, ho1, hev, hcl⟩ := HI.out j x hx
    obtain ⟨iG, y0, y1, y2, y3⟩ := hcl wA (hb0.trans (HA.out.2.mono hB0))
    have hby := HBY.out
    rw [if_pos hK0, Int.toNat_natCast, hx] at hby
    simp only at hby
    have hcall2 : Calls Tryz.prog 48 #[.pointer (some ⟨k, 0, none⟩), .int .i64 rn] wA fun e w' => e = .returned (.pointer (some ⟨bi, off + j * 4, none⟩)) ∧ Below wA.heap.size wA w' := by
      refine hcall.mono ?_
      rintro e w' ⟨⟨bi', off', cap', h1, rfl⟩, h2⟩
      rw [hsA] at h1
      simp only [Option.some.injEq, Value.slice.injEq, Addr.mk.injEq] at h1
      obtain ⟨⟨rfl, rfl, -⟩, -, rfl⟩ := h1
      refine ⟨?_, h2⟩
      unfold placeAt
      rw [if_pos hK0, Int.toNat_natCast]
    obtain ⟨xn, xd, xe, xdat⟩ := x
    simp only at y0 y1 hby
    clear hcall hcl hev hx y2 y3
    rcases xd with _ | _
    · simp only [Bool.false_eq_true, if_false] at hby
      subst hby
      go_upto_region 28 with (go_at_call 48; refine hcall2.mono ?_; rintro e w' ⟨rfl, hb⟩; obtain ⟨pj, rfl⟩ := hb.rest; clear hb)
      refine abs_world (F := fun wB => VwOwn k wB k p w.heap.size #[.int .i64 l1, .int .i64 l2] ⟨c, fine, .slice none 0 0, 0, 0, 0⟩ RL RM lv1 mv1 ∧ Below k w wB) ⟨HA.out.1.below (bel wA _), HA.out.2.trans ((bel wA _).mono hkA)⟩ ?_
      clear a1 a0 iKA hsA y0 y1 hcall2
      rintro wB ⟨hVB, hbB⟩
      have b13 : wB.cell? ⟨k, 13, none⟩ = some (.int .i64 0) := hVB.blk.cell 13
      have f13 := hVB.blk.frozen 13
      have iKB := hVB.blk.lt
      have hfin := hVB.bytes_at rn
      have HF := Lib.hid (And.intro hfin (hbB.setCell (p := ⟨k, 13, none⟩) (Nat.le_refl _) (.int .i64 rn)))
      clear hVB hbB hfin
      go_wp2_with fail
      exact bodyPost_end (v := .tuple #[]) (by simp [results, go_sem]) rfl ⟨rfl, HF.out⟩
    · simp only [if_true] at hby
      subst hby
      go_wp2_with (go_at_call 48; refine hcall2.mono ?_; rintro e w' ⟨rfl, hb⟩; obtain ⟨pj, rfl⟩ := hb.rest; clear hb)
      exact bodyPost_end (v := .tuple #[]) (by simp [results, go_sem]) rfl ⟨rfl, (HA.out.1.below (bel wA _)).at_, HA.out.2.trans ((bel wA _).mono hkA)⟩
  · have hby := HBY.out
    rw [if_neg hK0] at hby
    subst hby
    have hcall2 : Calls Tryz.prog 48 #[.pointer (some ⟨k, 0, none⟩), .int .i64 rn] wA fun e w' => e = .returned (.pointer none) ∧ Below wA.heap.size wA w' := by
      refine hcall.mono ?_
      rintro e w' ⟨⟨bi', off', cap', h1, rfl⟩, h2⟩
      refine ⟨?_, h2⟩
      unfold placeAt
      rw [if_neg hK0]
    clear hcall
    go_wp2_with (go_at_call 48; refine hcall2.mono ?_; rintro e w' ⟨rfl, hb⟩; obtain ⟨pj, rfl⟩ := hb.rest; clear hb)
    exact bodyPost_end (v := .tuple #[]) (by simp [results, go_sem]) rfl ⟨rfl, (HA.out.1.below (bel wA _)).at_, HA.out.2.trans ((bel wA _).mono hkA)⟩
/-- A view that did nothing has no turns. -/
theorem VwAt.cut {w : World} {k p : Nat} {c : PCall} {fine : Bool} {L T : List (Int × Int)} {M : List Int} {by_ co go : Int} (h : VwAt w k p c fine L T M by_ co go) :
    VwAt (((w.setCell ⟨k, 11, none⟩ (.slice none 0 0)).setCell ⟨k, 14, none⟩ (.int .i64 0)).setCell ⟨k, 15, none⟩ (.int .i64 0)) k p c fine L [] M by_ 0 0 := by
  obtain ⟨lv, tv, mv, h1, h2, h3, h4⟩ := h
  have k1 := h1.set_ 11 (.slice none 0 0)
  have k2 := k1.set_ 14 (.int .i64 0)
  have k3 := k2.set_ 15 (.int .i64 0)
  refine ⟨lv, .slice none 0 0, mv, ?_, own_set (own_set (own_set h2 h1 (by decide) _ _) k1 (by decide) _ _) k2 (by decide) _ _, World.ownsRow_nil _ k 91 2, own_set (own_set (own_set h4 h1 (by decide) _ _) k1 (by decide) _ _) k2 (by decide) _ _⟩
  simpa [vwCells] using k3
theorem VwAt.rows {w : World} {k p : Nat} {c : PCall} {fine : Bool} {L T : List (Int × Int)} {M : List Int} {by_ co go : Int} (h : VwAt w k p c fine L T M by_ co go) :
    ∃ lv tv mv, Blk w k (vwCells p ⟨c, fine, tv, by_, co, go⟩ lv mv) 62 ∧ RowAt w 2 lv (L.map prCells) ∧ RowAt w 2 tv (T.map prCells) ∧ RowAt w 1 mv (M.map intCells) := by
  obtain ⟨lv, tv, mv, h1, h2, h3, h4⟩ := h
  exact ⟨lv, tv, mv, h1, pairs_at h2, pairs_at h3, ints_at h4⟩
end Go.Proofs.YtjkenolgkkknaaaGreatDoor
namespace Go.Proofs.YtjkenolgkkknaaaGreatDoor
open Go.RowKit
theorem of46 (c : PCall) (x : PDesc) (bx : Nat) (w : World) (ib : BlockLt bx w) (h1 : w.cell? ⟨bx, 1, none⟩ = some (.int .i64 c.core)) (h2 : w.cell? ⟨bx, 2, none⟩ = some (.int .i64 c.fd)) :
    Calls Tryz.prog 46 #[.agg #[.int .i64 x.core, .int .i64 x.fd, .int .i64 x.num], .pointer (some ⟨bx, 0, none⟩)] w fun e w' => e = .returned (.bool (isFd c x)) ∧ Below w.heap.size w w' := by
  unfold isFd
  generalize hb1 : (x.core == c.core) = b1
  rcases b1 with _ | _
  · go_enter Tryz.func46, Tryz.ntmps46
    go_wp2_with fail
    go_ret
    exact ⟨by first | rfl | simp_all, bel _ _⟩
  · go_enter Tryz.func46, Tryz.ntmps46
    go_wp2_with fail
    go_ret
    exact ⟨by first | rfl | simp_all, bel _ _⟩
set_option maxRecDepth 100000 in
theorem index45v (zs : List PDesc) (v : Value) (l0 : Value) (p : PDesc → Bool) (w : World) (h : RowAt w 3 v (zs.map PDesc.cells)) (hlen : zs.length ≤ 1000000000)
    (hg : ∀ (z : PDesc) (ww : World), z ∈ zs → Below w.heap.size w ww → Calls Tryz.prog 46 #[.agg #[.int .i64 z.core, .int .i64 z.fd, .int .i64 z.num], l0] ww fun e w' => e = .returned (.bool (p z)) ∧ Below ww.heap.size ww w') :
    Calls Tryz.prog 45 #[v, .func (.func 46) #[] #[l0]] w fun e w' => e = .returned (.int .i64 (idxM p zs)) ∧ Below w.heap.size w w' := by
  obtain ⟨a, cap, rfl, hat⟩ := h.at_
  rw [List.length_map]
  have HA := Lib.hid hat
  clear hat h
  unfold idxM
  obtain ⟨R, hR⟩ : ∃ R, idxFrom p zs 0 = R := ⟨_, rfl⟩
  rw [hR]
  have HR := Lib.hid hR
  clear hR
  go_enter Tryz.func45, Tryz.ntmps45
  go_wp2_with fail
  go_loopw [8] (fun i wr => ∃ (q : Nat), i = .int .i64 q ∧ q ≤ zs.length ∧ idxFrom p (zs.drop q) q = R ∧ Below w.heap.size w wr) (fun i _ => (zs.length - intOf i).toNat)
  case atStart => exact ⟨0, rfl, by omega, HR.out, bel _ _⟩
  case round =>
    obtain ⟨q, rfl, hq, hre, hb⟩ := hrel
    have iB : Bel w wr := ⟨hb⟩
    by_cases hlt : q < zs.length
    · obtain ⟨z, hz⟩ : ∃ z, zs[q]? = some z := ⟨_, List.getElem?_eq_getElem hlt⟩
      obtain ⟨b, off, rfl, iG0, iG, hc⟩ := HA.out wr hb q (PDesc.cells z) (by rw [List.getElem?_map, hz]; rfl)
      have c0 := hc 0 _ rfl
      have c1 := hc 1 _ rfl
      have c2 := hc 2 _ rfl
      rw [idxFrom_drop p zs q z hz] at hre
      have hcall : ∀ ww, Below w.heap.size w ww → Calls Tryz.prog 46 #[.agg #[.int .i64 z.core, .int .i64 z.fd, .int .i64 z.num], l0] ww fun e w' => e = .returned (.bool (p z)) ∧ Below ww.heap.size ww w' := fun ww hww => hg z ww (List.mem_of_getElem? hz) hww
      have HZ := Lib.hid (And.intro hz hre)
      clear hc hz hre hg
      rw [Nat.add_zero] at c0
      generalize hpz : p z = t at hcall HZ
      rcases t with _ | _
      · go_wp2_with (go_at_call 46; refine (hcall _ (bel _ _)).mono ?_; rintro e w' ⟨rfl, hb⟩; obtain ⟨p, rfl⟩ := hb.rest; clear hb)
        go_roundw
        case rel => exact ⟨q + 1, by go_num, by omega, by have := HZ.out.2; simpa using this, bel _ _⟩
        case measure => simp [intOf]; omega
      · have hv : R = q := by have := HZ.out.2; simpa using this.symm
        subst hv
        go_wp2_with (go_at_call 46; refine (hcall _ (bel _ _)).mono ?_; rintro e w' ⟨rfl, hb⟩; obtain ⟨p, rfl⟩ := hb.rest; clear hb)
        exact bodyPost_ret (v := .int .i64 q) (by simp [results, Tryz.results45, go_sem]) rfl ⟨rfl, bel _ _⟩
    · rw [idxFrom_end p zs q hlt] at hre
      subst hre
      clear hg
      go_wp2_with fail
      exact bodyPost_ret (v := .int .i64 (-1)) (by simp [results, Tryz.results45, go_sem]) rfl ⟨rfl, bel _ _⟩
/-- A call's own cells, in a row. -/
def callAr (c : PCall) : Array Value := #[.int .i64 c.kind, .int .i64 c.core, .int .i64 c.fd, .int .i64 c.off, .int .i64 c.num, .string c.path, .string c.path2, .string c.data]
def cutL (fine : Bool) (T : List (Int × Int)) : List (Int × Int) := match fine with | true => T | false => []
def cutI (fine : Bool) (n : Int) : Int := match fine with | true => n | false => 0
set_option maxRecDepth 100000 in
set_option maxHeartbeats 8000000 in
theorem of23 (p : Nat) (S S' : PSt) (c : PCall) (r : PRes) (L T : List (Int × Int)) (M : List Int) (by_ co go : Int) (w : World) (h : SP w p S) (hwf : S.wf) (D : Did S c S' r) (hk : c.kind < 3 ∨ 7 < c.kind)
    (hpaths : ∀ ww k fine, VwNew ww k p c fine → Laid k (fun w => SP w p S) ww → Calls Tryz.prog 44 #[.pointer (some ⟨k, 0, none⟩)] ww fun e w' => e = .returned (.tuple #[]) ∧ VwAt w' k p c fine L T M by_ co go ∧ Below k ww w') :
    Calls Tryz.prog 23 #[.pointer (some ⟨p, 0, none⟩), .agg (callAr c)] w fun e w' => ∃ k, e = .returned (.pointer (some ⟨k, 0, none⟩)) ∧ VwAt w' k p c (r.code == 0) L (cutL (r.code == 0) T) M by_ (cutI (r.code == 0) co) (cutI (r.code == 0) go) ∧ Below w.heap.size w w' := by
  obtain ⟨hl, iv, ov, mv, c0, c1, c2, hr⟩ := h
  have hio : iv.oneCell' = true := by obtain ⟨_, _, _, h3, _⟩ := hr; exact h3.one
  have hoo := hr.1.one
  have hmo := hr.2.1.one
  have iP : BlockLt p w := ⟨hl⟩
  have h3 : ¬ c.kind = 3 := by omega
  have h4 : ¬ c.kind = 4 := by omega
  have h5 : ¬ c.kind = 5 := by omega
  have h6 : ¬ c.kind = 6 := by omega
  have h7 : ¬ c.kind = 7 := by omega
  have hop := hwf.2.1
  have HS := Lib.hid hr
  have HSP := Lib.hid (⟨hl, iv, ov, mv, c0, c1, c2, hr⟩ : SP w p S)
  have HP := Lib.hid hpaths
  clear hr hpaths hk
  unfold callAr
  go_enter Tryz.func23, Tryz.ntmps23
  go_upto_region 1 with fail
  go_cut [6] (fun v6 wx => ∃ b6 nv, v6 = .pointer (some ⟨b6, 0, none⟩) ∧ Below (w.alloc (Obj.cells #[.int .i64 c.kind, .int .i64 c.core, .int .i64 c.fd, .int .i64 c.off, .int .i64 c.num, .string c.path, .string c.path2, .string c.data] 29)).heap.size (w.alloc (Obj.cells #[.int .i64 c.kind, .int .i64 c.core, .int .i64 c.fd, .int .i64 c.off, .int .i64 c.num, .string c.path, .string c.path2, .string c.data] 29)) wx ∧ Blk wx b6 #[.int .i64 r.code, .int .i64 r.fd, .int .i64 r.num, .bool r.dir, .string r.data, nv] 46)
  case first =>
    go_region_held3 (fun w' => w'.cell? ⟨p, 0, none⟩ = some iv ∧ w'.cell? ⟨p, 1, none⟩ = some ov ∧ w'.cell? ⟨p, 2, none⟩ = some mv ∧ w'.cell? ⟨w.heap.size, 0, none⟩ = some (.int .i64 c.kind) ∧ w'.cell? ⟨w.heap.size, 1, none⟩ = some (.int .i64 c.core) ∧ w'.cell? ⟨w.heap.size, 2, none⟩ = some (.int .i64 c.fd) ∧ w'.cell? ⟨w.heap.size, 3, none⟩ = some (.int .i64 c.off) ∧ w'.cell? ⟨w.heap.size, 4, none⟩ = some (.int .i64 c.num) ∧ w'.cell? ⟨w.heap.size, 5, none⟩ = some (.string c.path) ∧ w'.cell? ⟨w.heap.size, 6, none⟩ = some (.string c.path2) ∧ w'.cell? ⟨w.heap.size, 7, none⟩ = some (.string c.data))
      (first | (try dsimp only) <;> (repeat' apply And.intro) <;> go_simp)
      (first | (go_at_call 20; refine (D _ _ _ _ (HS.out.below (bel w _) (Nat.le_refl _))).mono ?_; rintro e wa ⟨hb, iv1, ov1, mv1, nv1, rfl, hs1, hn1⟩; obtain ⟨pa, rfl⟩ := hb.rest; clear hb; obtain ⟨a11, a12, a13, a14, a15, a16, a17, a18, a19, rfl, rfl, rfl⟩ := hs1.forms; obtain ⟨n11, n12, n13, rfl⟩ := hn1.form; clear hs1 hn1))
    all_goals go_wp2_with fail
    all_goals go_meet
    all_goals (refine ⟨_, .slice n11 n12 n13, rfl, bel (w.alloc (Obj.cells #[.int .i64 c.kind, .int .i64 c.core, .int .i64 c.fd, .int .i64 c.off, .int .i64 c.num, .string c.path, .string c.path2, .string c.data] 29)) _, ?_⟩)
    all_goals (repeat (first | exact Blk.new_i _ _ _ _ | refine Blk.alloc ?_ _ | refine Blk.junk ?_ _ | refine Blk.drew ?_))
  case rest =>
    obtain ⟨b6, nv, rfl, hb6, h6⟩ := hcut
    have hbw : Below w.heap.size w wc := (bel w (w.alloc (Obj.cells #[.int .i64 c.kind, .int .i64 c.core, .int .i64 c.fd, .int .i64 c.off, .int .i64 c.num, .string c.path, .string c.path2, .string c.data] 29))).trans (hb6.mono (by simp))
    have d0 : wc.cell? ⟨b6, 0, none⟩ = some (.int .i64 r.code) := h6.cell 0
    have i6 := h6.lt
    have hbxc : Blk wc w.heap.size #[.int .i64 c.kind, .int .i64 c.core, .int .i64 c.fd, .int .i64 c.off, .int .i64 c.num, .string c.path, .string c.path2, .string c.data] 29 := (Blk.new w #[.int .i64 c.kind, .int .i64 c.core, .int .i64 c.fd, .int .i64 c.off, .int .i64 c.num, .string c.path, .string c.path2, .string c.data] 29).below hb6 (by simp)
    have y0 : wc.cell? ⟨w.heap.size, 0, none⟩ = some (.int .i64 c.kind) := hbxc.cell 0
    have y1 : wc.cell? ⟨w.heap.size, 1, none⟩ = some (.int .i64 c.core) := hbxc.cell 1
    have y2 : wc.cell? ⟨w.heap.size, 2, none⟩ = some (.int .i64 c.fd) := hbxc.cell 2
    have y3 : wc.cell? ⟨w.heap.size, 3, none⟩ = some (.int .i64 c.off) := hbxc.cell 3
    have y4 : wc.cell? ⟨w.heap.size, 4, none⟩ = some (.int .i64 c.num) := hbxc.cell 4
    have y5 : wc.cell? ⟨w.heap.size, 5, none⟩ = some (.string c.path) := hbxc.cell 5
    have y6 : wc.cell? ⟨w.heap.size, 6, none⟩ = some (.string c.path2) := hbxc.cell 6
    have y7 : wc.cell? ⟨w.heap.size, 7, none⟩ = some (.string c.data) := hbxc.cell 7
    have iXc := hbxc.lt
    clear hbxc h6
    rcases hfb : (r.code == 0) with _ | _
    · have HRW := Lib.hid hfb
      go_upto_region 3 with fail
      refine abs_world (F := fun wA => VwNew wA wc.heap.size p c false ∧ Below wc.heap.size wc wA) ⟨Blk.new _ _ _, bel _ _⟩ ?_
      clear d0
      rintro wA ⟨hN, hbA⟩
      have hcall := HP.out wA wc.heap.size false hN ⟨w, HSP.out, Nat.le_trans (by simp) hb6.size, hbw.trans (hbA.mono hbw.size)⟩
      have HA := Lib.hid hbA
      clear hN hbA hfb
      go_upto_region 4 with (go_at_call 44; refine hcall.mono ?_; rintro e w3 ⟨rfl, hv3, hb3⟩; have HV3 := Lib.hid (And.intro hv3 hb3); clear hv3 hb3)
      clear hcall
      refine abs_world (F := fun wB => VwAt wB wc.heap.size p c false L T M by_ co go ∧ Below wc.heap.size wc wB) ⟨HV3.out.1, HA.out.trans HV3.out.2⟩ ?_
      clear HV3 HA
      rintro wB ⟨hvB, hbB⟩
      have hB0 : Below (w.alloc (Obj.cells #[.int .i64 c.kind, .int .i64 c.core, .int .i64 c.fd, .int .i64 c.off, .int .i64 c.num, .string c.path, .string c.path2, .string c.data] 29)).heap.size (w.alloc (Obj.cells #[.int .i64 c.kind, .int .i64 c.core, .int .i64 c.fd, .int .i64 c.off, .int .i64 c.num, .string c.path, .string c.path2, .string c.data] 29)) wB := hb6.trans (hbB.mono hb6.size)
      have hBw : Below w.heap.size w wB := hbw.trans (hbB.mono hbw.size)
      have hbxB : Blk wB w.heap.size #[.int .i64 c.kind, .int .i64 c.core, .int .i64 c.fd, .int .i64 c.off, .int .i64 c.num, .string c.path, .string c.path2, .string c.data] 29 := (Blk.new w #[.int .i64 c.kind, .int .i64 c.core, .int .i64 c.fd, .int .i64 c.off, .int .i64 c.num, .string c.path, .string c.path2, .string c.data] 29).below hB0 (by simp)
      have x0 : wB.cell? ⟨w.heap.size, 0, none⟩ = some (.int .i64 c.kind) := hbxB.cell 0
      have x1 : wB.cell? ⟨w.heap.size, 1, none⟩ = some (.int .i64 c.core) := hbxB.cell 1
      have x2 : wB.cell? ⟨w.heap.size, 2, none⟩ = some (.int .i64 c.fd) := hbxB.cell 2
      have iXB := hbxB.lt
      have iPB : BlockLt p wB := ⟨by have := hBw.size; omega⟩
      have p1 : wB.cell? ⟨p, 1, none⟩ = some ov := (hBw.cell (p := ⟨p, 1, none⟩) hl).trans c1
      have hrow : RowAt wB 3 ov (S.op.map PDesc.cells) := HS.out.1.below hBw (Nat.le_refl _)
      have hidx : ∀ ww, Below wB.heap.size wB ww → Calls Tryz.prog 45 #[ov, .func (.func 46) #[] #[.pointer (some ⟨w.heap.size, 0, none⟩)]] ww _ := fun ww hb =>
        index45v S.op ov (.pointer (some ⟨w.heap.size, 0, none⟩)) (isFd c) ww (hrow.below hb (Nat.le_refl _)) hop (fun z wz _ hz => of46 c z w.heap.size wz ⟨by have := iXB.lt; have := hb.size; have := hz.size; omega⟩ ((hz.cell (p := ⟨w.heap.size, 1, none⟩) (by have := iXB.lt; have := hb.size; show w.heap.size < ww.heap.size; omega)).trans ((hb.cell (p := ⟨w.heap.size, 1, none⟩) iXB.lt).trans x1)) ((hz.cell (p := ⟨w.heap.size, 2, none⟩) (by have := iXB.lt; have := hb.size; show w.heap.size < ww.heap.size; omega)).trans ((hb.cell (p := ⟨w.heap.size, 2, none⟩) iXB.lt).trans x2)))
      generalize idxM (isFd c) S.op = I at hidx
      have hvb : wB.cell? ⟨wc.heap.size, 9, none⟩ = some (.bool false) := by obtain ⟨_, _, _, h, _⟩ := hvB; exact h.cell 9
      have iVB : BlockLt wc.heap.size wB := by obtain ⟨_, _, _, h, _⟩ := hvB; exact h.lt
      have HB := Lib.hid (And.intro hvB (And.intro hBw hBw.size))
      clear hvB hbB hB0 hBw hbxB hrow
      by_cases hI : 0 ≤ I
      · go_upto_region 16 with (go_at_call 45; refine (hidx _ (bel wB _)).mono ?_; rintro e w' ⟨rfl, hb⟩; obtain ⟨pj, rfl⟩ := hb.rest; clear hb)
        refine abs_world (F := fun wD => VwAt wD wc.heap.size p c false L T M by_ co go ∧ Below w.heap.size w wD) ⟨HB.out.1.below (bel wB _), HB.out.2.1.trans ((bel wB _).mono HB.out.2.2)⟩ ?_
        clear x0 x1 x2 iXB iPB p1 hidx hvb iVB
        rintro wD ⟨hvD, hbD⟩
        obtain ⟨lv, tv, mv', g1, g2, g3, g4⟩ := id hvD
        have d11 : wD.cell? ⟨wc.heap.size, 11, none⟩ = some tv := g1.cell 11
        have d14 : wD.cell? ⟨wc.heap.size, 14, none⟩ = some (.int .i64 co) := g1.cell 14
        have d15 : wD.cell? ⟨wc.heap.size, 15, none⟩ = some (.int .i64 go) := g1.cell 15
        have f11 := g1.frozen 11
        have f14 := g1.frozen 14
        have f15 := g1.frozen 15
        have iD := g1.lt
        have hcut := hvD.cut
        have hbc : Below w.heap.size w (((wD.setCell ⟨wc.heap.size, 11, none⟩ (.slice none 0 0)).setCell ⟨wc.heap.size, 14, none⟩ (.int .i64 0)).setCell ⟨wc.heap.size, 15, none⟩ (.int .i64 0)) := ((hbD.setCell (p := ⟨wc.heap.size, 11, none⟩) hbw.size _).setCell (p := ⟨wc.heap.size, 14, none⟩) hbw.size _).setCell (p := ⟨wc.heap.size, 15, none⟩) hbw.size _
        have HD := Lib.hid (And.intro hcut hbc)
        clear hvD hbD hcut hbc g1 g2 g3 g4
        go_wp2_with fail
        exact bodyPost_ret (v := .pointer (some ⟨wc.heap.size, 0, none⟩)) (by simp [results, Tryz.results23, go_sem]) rfl ⟨_, rfl, by rw [HRW.out]; exact HD.out.1, HD.out.2⟩
      · go_upto_region 16 with (go_at_call 45; refine (hidx _ (bel wB _)).mono ?_; rintro e w' ⟨rfl, hb⟩; obtain ⟨pj, rfl⟩ := hb.rest; clear hb)
        refine abs_world (F := fun wD => VwAt wD wc.heap.size p c false L T M by_ co go ∧ Below w.heap.size w wD) ⟨HB.out.1.below (bel wB _), HB.out.2.1.trans ((bel wB _).mono HB.out.2.2)⟩ ?_
        clear x0 x1 x2 iXB iPB p1 hidx hvb iVB
        rintro wD ⟨hvD, hbD⟩
        obtain ⟨lv, tv, mv', g1, g2, g3, g4⟩ := id hvD
        have d11 : wD.cell? ⟨wc.heap.size, 11, none⟩ = some tv := g1.cell 11
        have d14 : wD.cell? ⟨wc.heap.size, 14, none⟩ = some (.int .i64 co) := g1.cell 14
        have d15 : wD.cell? ⟨wc.heap.size, 15, none⟩ = some (.int .i64 go) := g1.cell 15
        have f11 := g1.frozen 11
        have f14 := g1.frozen 14
        have f15 := g1.frozen 15
        have iD := g1.lt
        have hcut := hvD.cut
        have hbc : Below w.heap.size w (((wD.setCell ⟨wc.heap.size, 11, none⟩ (.slice none 0 0)).setCell ⟨wc.heap.size, 14, none⟩ (.int .i64 0)).setCell ⟨wc.heap.size, 15, none⟩ (.int .i64 0)) := ((hbD.setCell (p := ⟨wc.heap.size, 11, none⟩) hbw.size _).setCell (p := ⟨wc.heap.size, 14, none⟩) hbw.size _).setCell (p := ⟨wc.heap.size, 15, none⟩) hbw.size _
        have HD := Lib.hid (And.intro hcut hbc)
        clear hvD hbD hcut hbc g1 g2 g3 g4
        go_wp2_with fail
        exact bodyPost_ret (v := .pointer (some ⟨wc.heap.size, 0, none⟩)) (by simp [results, Tryz.results23, go_sem]) rfl ⟨_, rfl, by rw [HRW.out]; exact HD.out.1, HD.out.2⟩
    · have HRW := Lib.hid hfb
      go_upto_region 3 with fail
      refine abs_world (F := fun wA => VwNew wA wc.heap.size p c true ∧ Below wc.heap.size wc wA) ⟨Blk.new _ _ _, bel _ _⟩ ?_
      clear d0
      rintro wA ⟨hN, hbA⟩
      have hcall := HP.out wA wc.heap.size true hN ⟨w, HSP.out, Nat.le_trans (by simp) hb6.size, hbw.trans (hbA.mono hbw.size)⟩
      have HA := Lib.hid hbA
      clear hN hbA hfb
      go_upto_region 4 with (go_at_call 44; refine hcall.mono ?_; rintro e w3 ⟨rfl, hv3, hb3⟩; have HV3 := Lib.hid (And.intro hv3 hb3); clear hv3 hb3)
      clear hcall
      refine abs_world (F := fun wB => VwAt wB wc.heap.size p c true L T M by_ co go ∧ Below wc.heap.size wc wB) ⟨HV3.out.1, HA.out.trans HV3.out.2⟩ ?_
      clear HV3 HA
      rintro wB ⟨hvB, hbB⟩
      have hB0 : Below (w.alloc (Obj.cells #[.int .i64 c.kind, .int .i64 c.core, .int .i64 c.fd, .int .i64 c.off, .int .i64 c.num, .string c.path, .string c.path2, .string c.data] 29)).heap.size (w.alloc (Obj.cells #[.int .i64 c.kind, .int .i64 c.core, .int .i64 c.fd, .int .i64 c.off, .int .i64 c.num, .string c.path, .string c.path2, .string c.data] 29)) wB := hb6.trans (hbB.mono hb6.size)
      have hBw : Below w.heap.size w wB := hbw.trans (hbB.mono hbw.size)
      have hbxB : Blk wB w.heap.size #[.int .i64 c.kind, .int .i64 c.core, .int .i64 c.fd, .int .i64 c.off, .int .i64 c.num, .string c.path, .string c.path2, .string c.data] 29 := (Blk.new w #[.int .i64 c.kind, .int .i64 c.core, .int .i64 c.fd, .int .i64 c.off, .int .i64 c.num, .string c.path, .string c.path2, .string c.data] 29).below hB0 (by simp)
      have x0 : wB.cell? ⟨w.heap.size, 0, none⟩ = some (.int .i64 c.kind) := hbxB.cell 0
      have x1 : wB.cell? ⟨w.heap.size, 1, none⟩ = some (.int .i64 c.core) := hbxB.cell 1
      have x2 : wB.cell? ⟨w.heap.size, 2, none⟩ = some (.int .i64 c.fd) := hbxB.cell 2
      have iXB := hbxB.lt
      have iPB : BlockLt p wB := ⟨by have := hBw.size; omega⟩
      have p1 : wB.cell? ⟨p, 1, none⟩ = some ov := (hBw.cell (p := ⟨p, 1, none⟩) hl).trans c1
      have hrow : RowAt wB 3 ov (S.op.map PDesc.cells) := HS.out.1.below hBw (Nat.le_refl _)
      have hidx : ∀ ww, Below wB.heap.size wB ww → Calls Tryz.prog 45 #[ov, .func (.func 46) #[] #[.pointer (some ⟨w.heap.size, 0, none⟩)]] ww _ := fun ww hb =>
        index45v S.op ov (.pointer (some ⟨w.heap.size, 0, none⟩)) (isFd c) ww (hrow.below hb (Nat.le_refl _)) hop (fun z wz _ hz => of46 c z w.heap.size wz ⟨by have := iXB.lt; have := hb.size; have := hz.size; omega⟩ ((hz.cell (p := ⟨w.heap.size, 1, none⟩) (by have := iXB.lt; have := hb.size; show w.heap.size < ww.heap.size; omega)).trans ((hb.cell (p := ⟨w.heap.size, 1, none⟩) iXB.lt).trans x1)) ((hz.cell (p := ⟨w.heap.size, 2, none⟩) (by have := iXB.lt; have := hb.size; show w.heap.size < ww.heap.size; omega)).trans ((hb.cell (p := ⟨w.heap.size, 2, none⟩) iXB.lt).trans x2)))
      generalize idxM (isFd c) S.op = I at hidx
      have hvb : wB.cell? ⟨wc.heap.size, 9, none⟩ = some (.bool true) := by obtain ⟨_, _, _, h, _⟩ := hvB; exact h.cell 9
      have iVB : BlockLt wc.heap.size wB := by obtain ⟨_, _, _, h, _⟩ := hvB; exact h.lt
      have HB := Lib.hid (And.intro hvB (And.intro hBw hBw.size))
      clear hvB hbB hB0 hBw hbxB hrow
      by_cases hI : 0 ≤ I
      · go_wp2_with (go_at_call 45; refine (hidx _ (bel wB _)).mono ?_; rintro e w' ⟨rfl, hb⟩; obtain ⟨pj, rfl⟩ := hb.rest; clear hb)
        exact bodyPost_ret (v := .pointer (some ⟨wc.heap.size, 0, none⟩)) (by simp [results, Tryz.results23, go_sem]) rfl ⟨_, rfl, by rw [HRW.out]; exact HB.out.1.below (bel wB _), HB.out.2.1.trans ((bel wB _).mono HB.out.2.2)⟩
      · go_wp2_with (go_at_call 45; refine (hidx _ (bel wB _)).mono ?_; rintro e w' ⟨rfl, hb⟩; obtain ⟨pj, rfl⟩ := hb.rest; clear hb)
        exact bodyPost_ret (v := .pointer (some ⟨wc.heap.size, 0, none⟩)) (by simp [results, Tryz.results23, go_sem]) rfl ⟨_, rfl, by rw [HRW.out]; exact HB.out.1.below (bel wB _), HB.out.2.1.trans ((bel wB _).mono HB.out.2.2)⟩
end Go.Proofs.YtjkenolgkkknaaaGreatDoor
