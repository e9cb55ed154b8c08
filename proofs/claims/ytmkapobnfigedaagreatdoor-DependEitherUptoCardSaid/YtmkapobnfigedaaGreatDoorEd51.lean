/- The law that touching is so either way. Conditions: none. -/
import Derived.Test.YtmkapobnfigedaaGreatDoorEd50
set_option linter.unusedVariables false
set_option linter.unusedSimpArgs false
namespace Go.Proofs.YtmkapobnfigedaaGreatDoor
open Go.RowKit
set_option maxRecDepth 100000 in
set_option maxHeartbeats 8000000 in
theorem either9 (us bs : List PKey) (va vb : Value) (w : World) (ha : RowAt w 2 va (us.map PKey.cells)) (hb : RowAt w 2 vb (bs.map PKey.cells)) (hal : us.length ≤ 1048576) (hbl : bs.length ≤ 1048576) :
    Calls Tryz.prog 9 #[va, vb] w fun e w' => e = .returned (.bool true) ∧ Below w.heap.size w w' := by
  have hawk := awake20 w
  go_enter Tryz.func9, Tryz.ntmps9
  go_upto_region 3 with (go_at_call 20; refine hawk.mono ?_; rintro e w1 ⟨rfl, hb1⟩)
  have ha1 := ha.below hb1 (Nat.le_refl _)
  have hb1' := hb.below hb1 (Nat.le_refl _)
  have ho1 : OwnP w1.heap.size (w1.alloc (.cells #[] 61)) 61 2 (.slice (some ⟨w1.heap.size, 0, none⟩) 0 0) (([] : List PKey).map PKey.cells) := .inr ⟨_, 0, #[], rfl, Nat.le_refl _, Blk.new _ _ _, Nat.le_refl _, by decide, rfl, fun q cs hq => by simp at hq⟩
  have HO := Lib.hid (And.intro ho1 (And.intro ha1 (And.intro hb1' hb1)))
  have va1 := ha.one
  have vb1 := hb.one
  clear ho1 ha1 hb1' hb1 hawk
  go_upto_region 4 with (at_builtin; refine app61 rfl _ _ rfl w1.heap.size (.slice (some ⟨w1.heap.size, 0, none⟩) 0 0) va [] us rfl rfl HO.out.1 (HO.out.2.1.below (bel w1 _) (Nat.le_refl _)) (by simp; omega) (by simp) ?_)
  intro v2 w2 hG2
  have hb12 : Below w1.heap.size w1 w2 := (bel w1 (w1.alloc (.cells #[] 61))).trans (hG2.2.1.below (by simp) (fun i hi hg => by
    have : w1.heap.size = i := by simpa [Value.ownBlock] using hg
    omega))
  obtain ⟨ho2, -, -⟩ := hG2
  obtain ⟨av2, nv2, cv2, rfl⟩ : ∃ a n c, v2 = .slice a n c := by obtain ⟨a, c, h, -⟩ := ho2.row; exact ⟨a, _, c, h⟩
  have H2 := Lib.hid (And.intro ho2 (And.intro hb12 (HO.out.2.2.1.below hb12 (Nat.le_refl _))))
  have hs2 := hb12.size
  clear ho2 hb12
  go_upto_region 5 with (at_builtin; refine app61 rfl _ _ rfl w1.heap.size (.slice av2 nv2 cv2) vb us bs rfl rfl H2.out.1 H2.out.2.2 (by omega) hs2 ?_)
  intro v3 w3 hG3
  have hb13 : Below w1.heap.size w1 w3 := H2.out.2.1.trans (hG3.2.1.below hs2 (fun i hi hg => by
    have := H2.out.1.ge hg
    omega))
  obtain ⟨ho3, -, -⟩ := hG3
  have hr3 : RowAt w3 2 v3 ((us ++ bs).map PKey.cells) := by
    rw [List.map_append]
    have := ho3.row
    first | exact this | (rw [List.map_append] at this; exact this)
  obtain ⟨av3, nv3, cv3, rfl⟩ : ∃ a n c, v3 = .slice a n c := by obtain ⟨a, c, h, -⟩ := hr3; exact ⟨a, _, c, h⟩
  obtain ⟨aa, na, ca, rfl⟩ : ∃ a n c, va = .slice a n c := by obtain ⟨a, c, h, -⟩ := ha; exact ⟨a, _, c, h⟩
  obtain ⟨ab, nb, cb, rfl⟩ : ∃ a n c, vb = .slice a n c := by obtain ⟨a, c, h, -⟩ := hb; exact ⟨a, _, c, h⟩
  have ra3 := HO.out.2.1.below hb13 (Nat.le_refl _)
  have rb3 := HO.out.2.2.1.below hb13 (Nat.le_refl _)
  have hw3 : Below w.heap.size w w3 := HO.out.2.2.2.trans (hb13.mono HO.out.2.2.2.size)
  have tab : ∀ ww, Below w3.heap.size w3 ww → Calls Tryz.prog 17 #[.slice aa na ca, .slice ab nb cb] ww fun e w' => e = .returned (.bool (touchM us bs)) ∧ Below ww.heap.size ww w' := fun ww hb => touch17 us bs _ _ ww (ra3.below hb (Nat.le_refl _)) (rb3.below hb (Nat.le_refl _))
  have tba : ∀ ww, Below w3.heap.size w3 ww → Calls Tryz.prog 17 #[.slice ab nb cb, .slice aa na ca] ww fun e w' => e = .returned (.bool (touchM us bs)) ∧ Below ww.heap.size ww w' := fun ww hb => by
    rw [touchM_symm]
    exact touch17 bs us _ _ ww (rb3.below hb (Nat.le_refl _)) (ra3.below hb (Nat.le_refl _))
  have tan : ∀ ww, Below w3.heap.size w3 ww → Calls Tryz.prog 17 #[.slice aa na ca, .slice none 0 0] ww fun e w' => e = .returned (.bool false) ∧ Below ww.heap.size ww w' := fun ww hb => by
    have := touch17 us [] _ _ ww (ra3.below hb (Nat.le_refl _)) (OwnP.row (B := 0) (e := 61) (.inl ⟨rfl, rfl⟩))
    rw [touchM_nil] at this
    exact this
  have tall : touchM us bs = true → ∀ ww, Below w3.heap.size w3 ww → Calls Tryz.prog 17 #[.slice aa na ca, .slice av3 nv3 cv3] ww fun e w' => e = .returned (.bool true) ∧ Below ww.heap.size ww w' := fun ht ww hb => by
    have := touch17 us (us ++ bs) _ _ ww (ra3.below hb (Nat.le_refl _)) (hr3.below hb (Nat.le_refl _))
    rw [touchM_append us bs ht] at this
    exact this
  generalize touchM us bs = t at *
  have HW := Lib.hid hw3
  clear hw3 ra3 rb3 hr3 ho3 hb13 H2 HO ha hb va1 vb1 hs2
  rcases t with _ | _
  · clear tall
    go_wp2_with (first | (go_at_call 17; with_reducible refine (tab _ (bel _ _)).mono ?_; rintro e w' ⟨rfl, hb⟩; obtain ⟨p, rfl⟩ := hb.rest; clear hb) | (go_at_call 17; with_reducible refine (tba _ (bel _ _)).mono ?_; rintro e w' ⟨rfl, hb⟩; obtain ⟨p, rfl⟩ := hb.rest; clear hb) | (go_at_call 17; with_reducible refine (tan _ (bel _ _)).mono ?_; rintro e w' ⟨rfl, hb⟩; obtain ⟨p, rfl⟩ := hb.rest; clear hb) | (go_at_call 35; refine (num35 _ _).mono ?_; rintro e w' ⟨rfl, hb⟩; obtain ⟨p, rfl⟩ := hb.rest; clear hb))
    go_ret
    exact ⟨rfl, HW.out.trans ((bel w3 _).mono HW.out.size)⟩
  · have tall2 := tall rfl
    clear tall
    go_wp2_with (first | (go_at_call 17; with_reducible refine (tab _ (bel _ _)).mono ?_; rintro e w' ⟨rfl, hb⟩; obtain ⟨p, rfl⟩ := hb.rest; clear hb) | (go_at_call 17; with_reducible refine (tba _ (bel _ _)).mono ?_; rintro e w' ⟨rfl, hb⟩; obtain ⟨p, rfl⟩ := hb.rest; clear hb) | (go_at_call 17; with_reducible refine (tan _ (bel _ _)).mono ?_; rintro e w' ⟨rfl, hb⟩; obtain ⟨p, rfl⟩ := hb.rest; clear hb) | (go_at_call 17; with_reducible refine (tall2 _ (bel _ _)).mono ?_; rintro e w' ⟨rfl, hb⟩; obtain ⟨p, rfl⟩ := hb.rest; clear hb) | (go_at_call 35; refine (num35 _ _).mono ?_; rintro e w' ⟨rfl, hb⟩; obtain ⟨p, rfl⟩ := hb.rest; clear hb))
    go_ret
    exact ⟨rfl, HW.out.trans ((bel w3 _).mono HW.out.size)⟩
end Go.Proofs.YtmkapobnfigedaaGreatDoor
