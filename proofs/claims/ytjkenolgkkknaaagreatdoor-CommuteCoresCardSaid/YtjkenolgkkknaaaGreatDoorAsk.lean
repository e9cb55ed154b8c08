/- commute.asked. Conditions: none. -/
import Derived.Test.YtjkenolgkkknaaaGreatDoorDoer
set_option linter.unusedVariables false
set_option linter.unusedSimpArgs false
namespace Go.Proofs.YtjkenolgkkknaaaGreatDoor
open Go.RowKit
/-- A pointer to a call: its block, from the first cell on. -/
def CP (w : World) (k : Nat) (c : PCall) : Prop := k < w.heap.size ∧ ∀ (t : Nat) (u : Value), c.cells[t]? = some u → w.cell? ⟨k, t, none⟩ = some u
theorem CP.below {w w' : World} {k B : Nat} {c : PCall} (h : CP w k c) (hb : Below B w w') (hB : w.heap.size ≤ B) : CP w' k c := by
  have hs := hb.size
  have hl := h.1
  exact ⟨by omega, fun t u hu => (hb.cell (p := ⟨k, t, none⟩) (by show k < B; omega)).trans (h.2 t u hu)⟩
def kindB (S : PSt) (c : PCall) : Bool := decide (0 ≤ c.kind) && decide (c.kind ≤ 16) && decide (0 ≤ c.core) && decide (c.core < S.made.length)
set_option maxRecDepth 100000 in
theorem kind36 (bx b k : Nat) (S : PSt) (c : PCall) (w : World) (h : SP w b S) (hk : CP w k c) (ib : BlockLt bx w) (hx : w.cell? ⟨bx, 0, none⟩ = some (.pointer (some ⟨b, 0, none⟩))) :
    Calls Tryz.prog 36 #[.pointer (some ⟨k, 0, none⟩), .pointer (some ⟨bx, 0, none⟩)] w fun e w' => e = .returned (.bool (kindB S c)) ∧ Below w.heap.size w w' := by
  have iK : BlockLt k w := ⟨hk.1⟩
  have k0 := hk.2 0 _ rfl
  have k1 := hk.2 1 _ rfl
  obtain ⟨hl, iv, ov, mv, c0, c1, c2, hr⟩ := h
  have iL : BlockLt b w := ⟨hl⟩
  obtain ⟨am, cm, rfl, -⟩ := hr.2.1
  rw [List.length_map] at c2
  unfold kindB
  clear hr hk
  by_cases g1 : 0 ≤ c.kind
  · have b1 : decide (0 ≤ c.kind) = true := decide_eq_true g1
    by_cases g2 : c.kind ≤ 16
    · have b2 : decide (c.kind ≤ 16) = true := decide_eq_true g2
      by_cases g3 : 0 ≤ c.core
      · have b3 : decide (0 ≤ c.core) = true := decide_eq_true g3
        by_cases g4 : c.core < S.made.length
        · have b4 : decide (c.core < (S.made.length : Int)) = true := decide_eq_true g4
          simp only [b1, b2, b3, b4, Bool.true_and]
          go_enter Tryz.func36, Tryz.ntmps36
          go_wp2_with fail
          refine wp_region_quiet_rest (by kernel_rfl) (by kernel_rfl) ?_
          repeat
            first
              | go_big_quiet_skip
              | (go_big_quiet_want; go_big_quiet_op; first | go_big_quiet_on | (apply Exists.intro; refine ⟨fun _ => ?_, ?_⟩; (focus (fail)); go_big_quiet_on))
          refine wpQuiet_nil ?_
          intro w1 hw1
          obtain ⟨p, hw1⟩ := hw1
          subst hw1
          go_wp2_with fail
          go_ret
          exact ⟨rfl, bel _ _⟩
        · have b4 : decide (c.core < (S.made.length : Int)) = false := decide_eq_false g4
          simp only [b1, b2, b3, b4, Bool.true_and]
          go_enter Tryz.func36, Tryz.ntmps36
          go_wp2_with fail
          refine wp_region_quiet_rest (by kernel_rfl) (by kernel_rfl) ?_
          repeat
            first
              | go_big_quiet_skip
              | (go_big_quiet_want; go_big_quiet_op; first | go_big_quiet_on | (apply Exists.intro; refine ⟨fun _ => ?_, ?_⟩; (focus (fail)); go_big_quiet_on))
          refine wpQuiet_nil ?_
          intro w1 hw1
          obtain ⟨p, hw1⟩ := hw1
          subst hw1
          go_wp2_with fail
          go_ret
          exact ⟨rfl, bel _ _⟩
      · have b3 : decide (0 ≤ c.core) = false := decide_eq_false g3
        simp only [b1, b2, b3, Bool.true_and, Bool.false_and]
        go_enter Tryz.func36, Tryz.ntmps36
        go_wp2_with fail
        refine wp_region_quiet_rest (by kernel_rfl) (by kernel_rfl) ?_
        repeat
          first
            | go_big_quiet_skip
            | (go_big_quiet_want; go_big_quiet_op; first | go_big_quiet_on | (apply Exists.intro; refine ⟨fun _ => ?_, ?_⟩; (focus (fail)); go_big_quiet_on))
        refine wpQuiet_nil ?_
        intro w1 hw1
        obtain ⟨p, hw1⟩ := hw1
        subst hw1
        go_wp2_with fail
        go_ret
        exact ⟨rfl, bel _ _⟩
    · have b2 : decide (c.kind ≤ 16) = false := decide_eq_false g2
      simp only [b1, b2, Bool.true_and, Bool.false_and]
      go_enter Tryz.func36, Tryz.ntmps36
      go_wp2_with fail
      refine wp_region_quiet_rest (by kernel_rfl) (by kernel_rfl) ?_
      repeat
        first
          | go_big_quiet_skip
          | (go_big_quiet_want; go_big_quiet_op; first | go_big_quiet_on | (apply Exists.intro; refine ⟨fun _ => ?_, ?_⟩; (focus (fail)); go_big_quiet_on))
      refine wpQuiet_nil ?_
      intro w1 hw1
      obtain ⟨p, hw1⟩ := hw1
      subst hw1
      go_wp2_with fail
      go_ret
      exact ⟨rfl, bel _ _⟩
  · have b1 : decide (0 ≤ c.kind) = false := decide_eq_false g1
    simp only [b1, Bool.false_and]
    go_enter Tryz.func36, Tryz.ntmps36
    go_wp2_with fail
    refine wp_region_quiet_rest (by kernel_rfl) (by kernel_rfl) ?_
    repeat
      first
        | go_big_quiet_skip
        | (go_big_quiet_want; go_big_quiet_op; first | go_big_quiet_on | (apply Exists.intro; refine ⟨fun _ => ?_, ?_⟩; (focus (fail)); go_big_quiet_on))
    refine wpQuiet_nil ?_
    intro w1 hw1
    obtain ⟨p, hw1⟩ := hw1
    subst hw1
    go_wp2_with fail
    go_ret
    exact ⟨rfl, bel _ _⟩
def askedM (S : PSt) (a b : PCall) : Bool := mayM S && kindB S a && kindB S b && (a.core != b.core)
set_option maxRecDepth 100000 in
set_option maxHeartbeats 2000000 in
theorem asked19 (b ka kb : Nat) (S : PSt) (x y : PCall) (w : World) (h : SP w b S) (hwf : S.wf) (hx : CP w ka x) (hy : CP w kb y) :
    Calls Tryz.prog 19 #[.pointer (some ⟨b, 0, none⟩), .pointer (some ⟨ka, 0, none⟩), .pointer (some ⟨kb, 0, none⟩)] w fun e w' => e = .returned (.bool (askedM S x y)) ∧ Below w.heap.size w w' := by
  have hmf : ∀ (fn : Fn) (first cap : Array Value) (w : World), (Instr.makeFunc fn first cap).run Tryz.prog w = .ok (.func fn first cap) w := fun _ _ _ _ => rfl
  have iA : BlockLt ka w := ⟨hx.1⟩
  have iY : BlockLt kb w := ⟨hy.1⟩
  have a1 := hx.2 1 _ rfl
  have y1 := hy.2 1 _ rfl
  have HS := Lib.hid (And.intro h (And.intro hx hy))
  have hk : ∀ ww bx, Below w.heap.size w ww → BlockLt bx ww → ww.cell? ⟨bx, 0, none⟩ = some (.pointer (some ⟨b, 0, none⟩)) → Calls Tryz.prog 36 #[.pointer (some ⟨ka, 0, none⟩), .pointer (some ⟨bx, 0, none⟩)] ww _ := fun ww bx hb ib hc => kind36 bx b ka S x ww (h.below hb (Nat.le_refl _)) (hx.below hb (Nat.le_refl _)) ib hc
  have hk2 : ∀ ww bx, Below w.heap.size w ww → BlockLt bx ww → ww.cell? ⟨bx, 0, none⟩ = some (.pointer (some ⟨b, 0, none⟩)) → Calls Tryz.prog 36 #[.pointer (some ⟨kb, 0, none⟩), .pointer (some ⟨bx, 0, none⟩)] ww _ := fun ww bx hb ib hc => kind36 bx b kb S y ww (h.below hb (Nat.le_refl _)) (hy.below hb (Nat.le_refl _)) ib hc
  obtain ⟨hl, iv, ov, mv, c0, c1, c2, hr⟩ := h
  have iL : BlockLt b w := ⟨hl⟩
  have hmay : ∀ ww, Below w.heap.size w ww → Calls Tryz.prog 37 #[.agg #[iv, ov, mv]] ww _ := fun ww hb => may37 iv ov mv S ww (hr.below hb (Nat.le_refl _)) hwf
  have hio : iv.oneCell' = true := by obtain ⟨_, _, _, h3, _⟩ := hr; exact h3.one
  have hoo := hr.1.one
  have hmo := hr.2.1.one
  unfold askedM
  generalize mayM S = m1 at hmay ⊢
  generalize kindB S x = m2 at hk ⊢
  generalize kindB S y = m3 at hk2 ⊢
  generalize hne : (x.core != y.core) = m4
  clear hr hwf hx hy
  rcases m1 with _ | _
  · simp only [Bool.false_and]
    go_enter Tryz.func19, Tryz.ntmps19
    go_wp2_with fail
    refine wp_region_quiet_rest (by kernel_rfl) (by kernel_rfl) ?_
    repeat
      first
        | go_big_quiet_skip
        | (go_big_quiet_want; go_big_quiet_op; first | go_big_quiet_on | (apply Exists.intro; refine ⟨fun _ => ?_, ?_⟩; (focus ((with_reducible refine calls_in (hmay _ (bel _ _)) (fun w' hb => ?_); first | exact hb.rest | exact rest1 hb | exact rest2 hb))); go_big_quiet_on))
    refine wpQuiet_nil ?_
    intro w1 hw1
    obtain ⟨p, hw1⟩ := hw1
    subst hw1
    go_wp2_with fail
    go_ret
    exact ⟨rfl, bel _ _⟩
  rcases m2 with _ | _
  · simp only [Bool.true_and, Bool.false_and]
    go_enter Tryz.func19, Tryz.ntmps19
    go_wp2_with fail
    refine wp_region_quiet_rest (by kernel_rfl) (by kernel_rfl) ?_
    repeat
      first
        | go_big_quiet_skip
        | (go_big_quiet_want; go_big_quiet_op; first | go_big_quiet_on | (apply Exists.intro; refine ⟨fun _ => ?_, ?_⟩; (focus (first | (with_reducible refine calls_in (hmay _ (bel _ _)) (fun w' hb => ?_); first | exact hb.rest | exact rest1 hb | exact rest2 hb) | (with_reducible refine calls_in (hk _ _ (bel _ _) inferInstance (by go_simp)) (fun w' hb => ?_); first | exact hb.rest | exact rest1 hb | exact rest2 hb))); go_big_quiet_on))
    refine wpQuiet_nil ?_
    intro w1 hw1
    obtain ⟨p, hw1⟩ := hw1
    subst hw1
    go_wp2_with fail
    go_ret
    exact ⟨rfl, bel _ _⟩
  rcases m3 with _ | _
  · simp only [Bool.true_and, Bool.false_and]
    go_enter Tryz.func19, Tryz.ntmps19
    go_wp2_with fail
    refine wp_region_quiet_rest (by kernel_rfl) (by kernel_rfl) ?_
    repeat
      first
        | go_big_quiet_skip
        | (go_big_quiet_want; go_big_quiet_op; first | go_big_quiet_on | (apply Exists.intro; refine ⟨fun _ => ?_, ?_⟩; (focus (first | (with_reducible refine calls_in (hmay _ (bel _ _)) (fun w' hb => ?_); first | exact hb.rest | exact rest1 hb | exact rest2 hb) | (with_reducible refine calls_in (hk _ _ (bel _ _) inferInstance (by go_simp)) (fun w' hb => ?_); first | exact hb.rest | exact rest1 hb | exact rest2 hb) | (with_reducible refine calls_in (hk2 _ _ (bel _ _) inferInstance (by go_simp)) (fun w' hb => ?_); first | exact hb.rest | exact rest1 hb | exact rest2 hb))); go_big_quiet_on))
    refine wpQuiet_nil ?_
    intro w1 hw1
    obtain ⟨p, hw1⟩ := hw1
    subst hw1
    go_wp2_with fail
    go_ret
    exact ⟨rfl, bel _ _⟩
  simp only [Bool.true_and]
  go_enter Tryz.func19, Tryz.ntmps19
  go_wp2_with fail
  refine wp_region_quiet_rest (by kernel_rfl) (by kernel_rfl) ?_
  repeat
    first
      | go_big_quiet_skip
      | (go_big_quiet_want; go_big_quiet_op; first | go_big_quiet_on | (apply Exists.intro; refine ⟨fun _ => ?_, ?_⟩; (focus (first | (with_reducible refine calls_in (hmay _ (bel _ _)) (fun w' hb => ?_); first | exact hb.rest | exact rest1 hb | exact rest2 hb) | (with_reducible refine calls_in (hk _ _ (bel _ _) inferInstance (by go_simp)) (fun w' hb => ?_); first | exact hb.rest | exact rest1 hb | exact rest2 hb) | (with_reducible refine calls_in (hk2 _ _ (bel _ _) inferInstance (by go_simp)) (fun w' hb => ?_); first | exact hb.rest | exact rest1 hb | exact rest2 hb))); go_big_quiet_on))
  refine wpQuiet_nil ?_
  intro w1 hw1
  obtain ⟨p, hw1⟩ := hw1
  subst hw1
  go_wp2_with fail
  go_ret
  exact ⟨by first | rfl | simp_all, bel _ _⟩
end Go.Proofs.YtjkenolgkkknaaaGreatDoor
