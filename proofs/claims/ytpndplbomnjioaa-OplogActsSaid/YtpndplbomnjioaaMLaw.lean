/- What the merge of rows is, as plain Lean: its length; each step takes a head that none is less than. Conditions: none. -/
import Derived.Test.YtpndplbomnjioaaAwake
set_option linter.unusedVariables false
namespace Go.Proofs.Ytpndplbomnjioaa
theorem lessB_irrefl (c k : Int) : lessB c k c k = false := by rw [← Bool.not_eq_true, lessB_t]; omega
theorem lessB_trans {a b c d e f : Int} (h1 : lessB a b c d = true) (h2 : lessB c d e f = true) : lessB a b e f = true := by
  rw [lessB_t] at *; omega
theorem least_le (ms h : Nat → Nat) (st : Nat → Nat → Int × Int) : ∀ k l, leastTo ms h st k = some l → ∀ j, j < k → h j < ms j → lessB (st j (h j)).1 (st j (h j)).2 (st l (h l)).1 (st l (h l)).2 = false
  | 0, l, e, j, hj, _ => by omega
  | k + 1, l, e, j, hj, hm => by
    unfold leastTo at e
    split at e
    · rename_i hn
      split at e
      · injection e with e
        subst e
        by_cases hjk : j = k
        · subst hjk; exact lessB_irrefl _ _
        · have := leastTo_none ms h st k hn j (by omega)
          omega
      · cases e
    · rename_i l' hl'
      have ih := least_le ms h st k l' hl'
      split at e
      · rename_i hc
        injection e with e
        subst e
        by_cases hjk : j = k
        · subst hjk; exact lessB_irrefl _ _
        · rw [← Bool.not_eq_true]
          intro hx
          have := ih j (by omega) hm
          rw [lessB_trans hx hc.2] at this
          cases this
      · rename_i hc
        injection e with e
        subst e
        by_cases hjk : j = k
        · subst hjk
          rw [← Bool.not_eq_true]
          exact fun hx => hc ⟨hm, hx⟩
        · exact ih j (by omega) hm
theorem least_some (ms h : Nat → Nat) (st : Nat → Nat → Int × Int) (n : Nat) (hs : sumTo h n < sumTo ms n) : ∃ l, leastTo ms h st n = some l := by
  rcases hl : leastTo ms h st n with _ | l
  · exfalso
    have := sumTo_le n (leastTo_none ms h st n hl)
    omega
  · exact ⟨l, rfl⟩
theorem upd_le {ms h : Nat → Nat} {n l : Nat} (hle : ∀ j, j < n → h j ≤ ms j) (hl : h l < ms l) : ∀ j, j < n → upd h l (h l + 1) j ≤ ms j := by
  intro j hj
  unfold upd
  split
  · rename_i e; subst e; exact hl
  · exact hle j hj
theorem merge_len (ms : Nat → Nat) (st : Nat → Nat → Int × Int) (n : Nat) : ∀ (f : Nat) (h : Nat → Nat), (∀ j, j < n → h j ≤ ms j) → sumTo h n + f = sumTo ms n → (mergeFrom ms st n f h).length = f
  | 0, h, _, _ => rfl
  | f + 1, h, hle, hs => by
    obtain ⟨l, hl⟩ := least_some ms h st n (by omega)
    obtain ⟨h1, h2⟩ := leastTo_lt ms h st n l hl
    have ih := merge_len ms st n f (upd h l (h l + 1)) (upd_le hle h2) (by rw [sumTo_upd, if_pos h1]; omega)
    simp [mergeFrom, hl, ih]
/-- The walk along a merge: at each step the heads, and what is still to come. -/
theorem merge_step (ms h : Nat → Nat) (st : Nat → Nat → Int × Int) (n f : Nat) (hs : sumTo h n < sumTo ms n) : ∃ l, l < n ∧ h l < ms l ∧ leastTo ms h st n = some l ∧ mergeFrom ms st n (f + 1) h = (l, h l) :: mergeFrom ms st n f (upd h l (h l + 1)) := by
  obtain ⟨l, hl⟩ := least_some ms h st n hs
  obtain ⟨h1, h2⟩ := leastTo_lt ms h st n l hl
  exact ⟨l, h1, h2, hl, by simp [mergeFrom, hl]⟩
theorem pickOf_cons {rs : Nat → List Rec} {l i : Nat} {t : List (Nat × Nat)} {r : Rec} (hr : (rs l)[i]? = some r) : pickOf rs ((l, i) :: t) = r :: pickOf rs t := by
  simp [pickOf, hr]
theorem pick_len {rs : Nat → List Rec} {n : Nat} : ∀ (f : Nat) (h : Nat → Nat), (∀ j, j < n → h j ≤ (rs j).length) → sumTo h n + f = sumTo (lenOf rs) n → (pickOf rs (mergeFrom (lenOf rs) (stOf rs) n f h)).length = f
  | 0, h, _, _ => rfl
  | f + 1, h, hle, hs => by
    obtain ⟨l, h1, h2, h3, h4⟩ := merge_step (lenOf rs) h (stOf rs) n f (by omega)
    obtain ⟨r, hr⟩ : ∃ r, (rs l)[h l]? = some r := ⟨_, List.getElem?_eq_getElem h2⟩
    have ih := pick_len f (upd h l (h l + 1)) (upd_le hle h2) (by rw [sumTo_upd, if_pos h1]; omega)
    rw [h4, pickOf_cons hr]
    simp [ih]
end Go.Proofs.Ytpndplbomnjioaa
