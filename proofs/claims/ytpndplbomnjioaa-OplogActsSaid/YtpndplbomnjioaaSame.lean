/- SameRecords over two rows of the same records answers true. Conditions: none. -/
import Derived.Test.YtpndplbomnjioaaMLaw
set_option linter.unusedVariables false
namespace Go.Proofs.Ytpndplbomnjioaa
open Go.RowKit
/-- The ten cells of a record that a row holds. -/
theorem own_rec {w : World} {v : Value} {n : Nat} {rs : List Rec} (h : w.ownsRow 0 45 10 v n (recs rs)) {k : Nat} (hk : k < n) :
    ∃ (g cap : Nat) (r : Rec), v = .slice (some ⟨g, 0, none⟩) n cap ∧ g < w.heap.size ∧ rs[k]? = some r ∧ ∀ q, q < 10 → ∀ x, r.cells[q]? = some x → w.cell? ⟨g, k * 10 + q, none⟩ = some x := by
  have hl := h.1
  rw [recs_len] at hl
  obtain ⟨g, cap, rfl, glt, gc, hcell⟩ := own_cells h (by omega)
  obtain ⟨r, hr⟩ : ∃ r, rs[k]? = some r := ⟨_, List.getElem?_eq_getElem (by omega)⟩
  exact ⟨g, cap, r, rfl, glt, hr, fun q hq x hx => hcell (k * 10 + q) x (by omega) ((recs_at _ _ _ hr q hq).trans hx)⟩
set_option maxRecDepth 100000 in
set_option maxHeartbeats 1000000 in
theorem same25 (w : World) (a a' : Option Addr) (n cp cp' : Nat) (rs : List Rec) (hn : n ≤ 1000000) (h : w.ownsRow 0 45 10 (.slice a n cp) n (recs rs)) (h' : w.ownsRow 0 45 10 (.slice a' n cp') n (recs rs)) :
    Calls Try.prog 25 #[.slice a n cp, .slice a' n cp'] w fun e w' => e = .returned (.bool true) ∧ Below w.heap.size w w' := by
  have HO := Lib.hid (And.intro h h')
  clear h h'
  go_enter Try.func25, Try.ntmps25
  go_wp2_with fail
  go_loopw [5] (fun i wr => ∃ k : Nat, i = .int .i64 k ∧ k ≤ n ∧ Below w.heap.size w wr) (fun i _ => n - (intOf i).toNat)
  case atStart => exact ⟨0, rfl, by omega, bel _ _⟩
  case round =>
    obtain ⟨k, rfl, hk, hb⟩ := hrel
    have iB : Bel w wr := ⟨hb⟩
    by_cases hlt : k < n
    · obtain ⟨g, cap, r, e, glt, hr, hc⟩ := own_rec HO.out.1 hlt
      obtain ⟨g2, cap2, r2, e2, glt2, hr2, hc2⟩ := own_rec HO.out.2 hlt
      injection e with e1 _ e3
      subst e1
      subst e3
      injection e2 with e1 _ e3
      subst e1
      subst e3
      obtain rfl : r = r2 := Option.some.inj (hr.symm.trans hr2)
      have iG : BlockLt g wr := ⟨Nat.lt_of_lt_of_le glt hb.size⟩
      have iG2 : BlockLt g2 wr := ⟨Nat.lt_of_lt_of_le glt2 hb.size⟩
      have c1 : ∀ q, q < 10 → ∀ x, r.cells[q]? = some x → wr.cell? ⟨g, k * 10 + q, none⟩ = some x := fun q hq x hx => (hb.cell (p := ⟨g, _, none⟩) glt).trans (hc q hq x hx)
      have c2 : ∀ q, q < 10 → ∀ x, r.cells[q]? = some x → wr.cell? ⟨g2, k * 10 + q, none⟩ = some x := fun q hq x hx => (hb.cell (p := ⟨g2, _, none⟩) glt2).trans (hc2 q hq x hx)
      have x0 := c1 0 (by omega) _ rfl
      have x1 := c1 1 (by omega) _ rfl
      have x2 := c1 2 (by omega) _ rfl
      have x3 := c1 3 (by omega) _ rfl
      have x4 := c1 4 (by omega) _ rfl
      have x5 := c1 5 (by omega) _ rfl
      have x6 := c1 6 (by omega) _ rfl
      have x7 := c1 7 (by omega) _ rfl
      have x8 := c1 8 (by omega) _ rfl
      have x9 := c1 9 (by omega) _ rfl
      have y0 := c2 0 (by omega) _ rfl
      have y1 := c2 1 (by omega) _ rfl
      have y2 := c2 2 (by omega) _ rfl
      have y3 := c2 3 (by omega) _ rfl
      have y4 := c2 4 (by omega) _ rfl
      have y5 := c2 5 (by omega) _ rfl
      have y6 := c2 6 (by omega) _ rfl
      have y7 := c2 7 (by omega) _ rfl
      have y8 := c2 8 (by omega) _ rfl
      have y9 := c2 9 (by omega) _ rfl
      simp only [Nat.add_zero] at x0 y0
      clear hc hc2 c1 c2
      go_wp2_with fail
      refine wp_region_quiet_rest (by kernel_rfl) (by kernel_rfl) (WQ.out ?_)
      repeat
        refine WQ_step (fun K hK => ?_)
        go_simp
        refine hK _ ?_
        clear hK K
      refine WQ_nil ?_
      intro w1 hw1
      obtain ⟨p, hw1⟩ := hw1
      subst hw1
      go_wp2_with fail
      go_roundw
      case rel => exact ⟨k + 1, by go_num, by omega, bel _ _⟩
      case measure => simp [intOf]; omega
    · go_wp2_with fail
      go_ret
      exact ⟨rfl, bel _ _⟩
end Go.Proofs.Ytpndplbomnjioaa
