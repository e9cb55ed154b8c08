/- The merge of what Drop keeps is what is kept of the merge, as plain Lean. Conditions: none. -/
import Derived.Test.YtpndplbomnjioaaDrop3
set_option linter.unusedVariables false
namespace Go.Proofs.Ytpndplbomnjioaa
theorem leastTo_congr {ms ms' h h' : Nat → Nat} {st st' : Nat → Nat → Int × Int} : ∀ k, (∀ j, j < k → (h j < ms j ↔ h' j < ms' j)) → (∀ j, j < k → h j < ms j → st j (h j) = st' j (h' j)) → leastTo ms h st k = leastTo ms' h' st' k
  | 0, _, _ => rfl
  | k + 1, e1, e2 => by
    have ih := leastTo_congr (ms := ms) (ms' := ms') (h := h) (h' := h') (st := st) (st' := st') k (fun j hj => e1 j (by omega)) (fun j hj => e2 j (by omega))
    unfold leastTo
    rw [← ih]
    have hk := e1 k (by omega)
    rcases hl : leastTo ms h st k with _ | l
    · simp only []
      by_cases hm : h k < ms k
      · rw [if_pos hm, if_pos (hk.1 hm)]
      · rw [if_neg hm, if_neg (fun e => hm (hk.2 e))]
    · obtain ⟨h1, h2⟩ := leastTo_lt ms h st k l hl
      simp only []
      by_cases hm : h k < ms k
      · have hm' := hk.1 hm
        rw [e2 k (by omega) hm, e2 l (by omega) h2]
        simp [hm, hm']
      · have hm' : ¬ h' k < ms' k := fun e => hm (hk.2 e)
        simp [hm, hm']
/-- A row whose gone records stand ahead: what is kept is its end. -/
theorem drop_of_sorted (f : Rec → Bool) : ∀ l : List Rec, (∀ (q q' : Nat) (r r' : Rec), q < q' → l[q]? = some r → l[q']? = some r' → f r' = true → f r = true) → ∃ d, d ≤ l.length ∧ (l.filter fun r => !f r) = l.drop d ∧ ∀ (q : Nat) (r : Rec), l[q]? = some r → (f r = true ↔ q < d)
  | [], _ => ⟨0, by simp, rfl, by simp⟩
  | r0 :: l, h => by
    rcases hf : f r0 with _ | _
    · have hall : ∀ (q : Nat) (r : Rec), (r0 :: l)[q]? = some r → f r = false := by
        intro q r hq
        cases q with
        | zero => (obtain rfl : r0 = r := by simpa using hq); exact hf
        | succ q =>
          rcases hr : f r with _ | _
          · rfl
          · have := h 0 (q + 1) r0 r (by omega) rfl hq hr
            rw [hf] at this; cases this
      refine ⟨0, by simp, ?_, fun q r hq => by rw [hall q r hq]; simp⟩
      rw [List.drop_zero, List.filter_eq_self]
      intro r hr
      obtain ⟨q, hq⟩ := List.getElem?_of_mem hr
      rw [hall q r hq]; rfl
    · obtain ⟨d, h1, h2, h3⟩ := drop_of_sorted f l (fun q q' r r' hqq hq hq' => h (q + 1) (q' + 1) r r' (by omega) (by simpa using hq) (by simpa using hq'))
      refine ⟨d + 1, by simp; omega, by simp [hf, h2], fun q r hq => ?_⟩
      cases q with
      | zero => (obtain rfl : r0 = r := by simpa using hq); simp [hf]
      | succ q => rw [h3 q r (by simpa using hq)]; omega
theorem kept_from {uc uk : Int} {rs : Nat → List Rec} {n : Nat} {d : Nat → Nat} (hd : ∀ j, j < n → d j ≤ (rs j).length ∧ kept uc uk rs j = (rs j).drop (d j) ∧ ∀ (q : Nat) (r : Rec), (rs j)[q]? = some r → (gone uc uk r = true ↔ q < d j)) :
    ∀ (f : Nat) (h : Nat → Nat), (∀ j, j < n → h j ≤ (rs j).length) → sumTo h n + f = sumTo (lenOf rs) n →
      ∀ f', sumTo (fun j => h j - d j) n + f' = sumTo (lenOf (kept uc uk rs)) n →
      (pickOf rs (mergeFrom (lenOf rs) (stOf rs) n f h)).filter (fun r => !gone uc uk r) = pickOf (kept uc uk rs) (mergeFrom (lenOf (kept uc uk rs)) (stOf (kept uc uk rs)) n f' (fun j => h j - d j))
  | 0, h, hle, hs, f', hs' => by
    have heq : ∀ k, k ≤ n → sumTo h k = sumTo (lenOf rs) k → True := fun _ _ _ => trivial
    have hall : ∀ j, j < n → h j = (rs j).length := by
      intro j hj
      rcases Nat.lt_or_ge (h j) (rs j).length with hlt | hge
      · have := sumTo_lt n hle hj hlt
        have e : sumTo (lenOf rs) n = sumTo (fun j => (rs j).length) n := rfl
        omega
      · have := hle j hj; omega
    have hk : sumTo (fun j => h j - d j) n = sumTo (lenOf (kept uc uk rs)) n := by
      have h1 : sumTo (fun j => h j - d j) n ≤ sumTo (lenOf (kept uc uk rs)) n := sumTo_le n (fun j hj => by
        unfold lenOf
        rw [(hd j hj).2.1, List.length_drop, hall j hj]; omega)
      have h2 : sumTo (lenOf (kept uc uk rs)) n ≤ sumTo (fun j => h j - d j) n := sumTo_le n (fun j hj => by
        unfold lenOf
        rw [(hd j hj).2.1, List.length_drop, hall j hj]; omega)
      omega
    obtain rfl : f' = 0 := by omega
    rfl
  | f + 1, h, hle, hs, f', hs' => by
    obtain ⟨l, h1, h2, h3, h4⟩ := merge_step (lenOf rs) h (stOf rs) n f (by omega)
    obtain ⟨r, hr⟩ : ∃ r, (rs l)[h l]? = some r := ⟨_, List.getElem?_eq_getElem h2⟩
    have hle' := upd_le (ms := lenOf rs) hle h2
    have hsum' : sumTo (upd h l (h l + 1)) n + f = sumTo (lenOf rs) n := by rw [sumTo_upd, if_pos h1]; omega
    rw [h4, pickOf_cons hr]
    obtain ⟨d1, d2, d3⟩ := hd l h1
    rcases hg : gone uc uk r with _ | _
    · -- it stays
      have hdl : d l ≤ h l := by
        have := d3 (h l) r hr
        rw [hg] at this
        simp at this
        exact this
      have hdj : ∀ j, j < n → d j ≤ h j := by
        intro j hj
        rcases Nat.lt_or_ge (h j) (d j) with hlt | hge
        · exfalso
          obtain ⟨c1, c2, c3⟩ := hd j hj
          obtain ⟨rj, hrj⟩ : ∃ rj, (rs j)[h j]? = some rj := ⟨_, List.getElem?_eq_getElem (by omega)⟩
          have hgj := (c3 (h j) rj hrj).2 hlt
          have hno := least_le (lenOf rs) h (stOf rs) n l h3 j hj (by show h j < (rs j).length; omega)
          have e1 : stOf rs j (h j) = (rj.c, rj.k) := by unfold stOf; rw [hrj]
          have e2 : stOf rs l (h l) = (r.c, r.k) := by unfold stOf; rw [hr]
          rw [e1, e2, ← Bool.not_eq_true, lessB_t] at hno
          unfold gone at hgj hg
          have g1 : lessB uc uk rj.c rj.k = false := by simpa using hgj
          have g2 : lessB uc uk r.c r.k = true := by simpa using hg
          rw [← Bool.not_eq_true, lessB_t] at g1
          rw [lessB_t] at g2
          simp only at hno
          omega
        · exact hge
      have hlen : ∀ j, j < n → lenOf (kept uc uk rs) j = (rs j).length - d j := fun j hj => by
        unfold lenOf; rw [(hd j hj).2.1, List.length_drop]
      have hget : ∀ j, j < n → (kept uc uk rs j)[h j - d j]? = (rs j)[h j]? := fun j hj => by
        rw [(hd j hj).2.1, List.getElem?_drop]
        congr 1
        have := hdj j hj
        omega
      have hlo : leastTo (lenOf (kept uc uk rs)) (fun j => h j - d j) (stOf (kept uc uk rs)) n = some l := by
        rw [← h3]
        symm
        refine leastTo_congr n (fun j hj => ?_) (fun j hj hm => ?_)
        · rw [hlen j hj]
          have := hdj j hj
          have := (hd j hj).1
          show h j < (rs j).length ↔ _
          omega
        · unfold stOf
          rw [hget j hj]
      obtain ⟨f'', rfl⟩ : ∃ f'', f' = f'' + 1 := by
        have hlt : sumTo (fun j => h j - d j) n < sumTo (lenOf (kept uc uk rs)) n := sumTo_lt n (fun j hj => by
          rw [hlen j hj]
          have := hle j hj
          omega) h1 (by
          rw [hlen l h1]
          have : h l < (rs l).length := h2
          omega)
        exact ⟨f' - 1, by omega⟩
      have hupd : (fun j => upd h l (h l + 1) j - d j) = upd (fun j => h j - d j) l (h l - d l + 1) := by
        funext j
        unfold upd
        by_cases e : j = l
        · subst e; simp; omega
        · simp [e]
      have ih := kept_from hd f (upd h l (h l + 1)) hle' hsum' f'' (by rw [hupd, sumTo_upd (f := fun j => h j - d j), if_pos h1]; omega)
      rw [hupd] at ih
      have hstep : mergeFrom (lenOf (kept uc uk rs)) (stOf (kept uc uk rs)) n (f'' + 1) (fun j => h j - d j) = (l, h l - d l) :: mergeFrom (lenOf (kept uc uk rs)) (stOf (kept uc uk rs)) n f'' (upd (fun j => h j - d j) l (h l - d l + 1)) := by
        simp [mergeFrom, hlo]
      rw [hstep, pickOf_cons ((hget l h1).trans hr), List.filter_cons_of_pos (by simp [hg]), ih]
    · have hlt := (d3 (h l) r hr).1 hg
      have hupd : (fun j => upd h l (h l + 1) j - d j) = fun j => h j - d j := by
        funext j
        unfold upd
        by_cases e : j = l
        · subst e; simp; omega
        · simp [e]
      have ih := kept_from hd f (upd h l (h l + 1)) hle' hsum' f' (by rw [hupd]; exact hs')
      rw [hupd] at ih
      rw [List.filter_cons_of_neg (by simp [hg]), ih]
/-- Rows that rise: the merge of what is kept. -/
theorem kept_merge {uc uk : Int} {rs : Nat → List Rec} {n : Nat} (inc : ∀ j, j < n → ∀ (q q' : Nat) (r r' : Rec), q < q' → (rs j)[q]? = some r → (rs j)[q']? = some r' → r.c < r'.c) :
    (pickOf rs (mergeAll rs n)).filter (fun r => !gone uc uk r) = pickOf (kept uc uk rs) (mergeAll (kept uc uk rs) n) := by
  have hex : ∀ j, ∃ d, j < n → d ≤ (rs j).length ∧ kept uc uk rs j = (rs j).drop d ∧ ∀ (q : Nat) (r : Rec), (rs j)[q]? = some r → (gone uc uk r = true ↔ q < d) := by
    intro j
    by_cases hj : j < n
    · obtain ⟨d, h⟩ := drop_of_sorted (gone uc uk) (rs j) (fun q q' r r' hqq hq hq' hg => by
        have := inc j hj q q' r r' hqq hq hq'
        unfold gone at hg ⊢
        have g1 : lessB uc uk r'.c r'.k = false := by simpa using hg
        rw [← Bool.not_eq_true, lessB_t] at g1
        have g2 : lessB uc uk r.c r.k = false := by rw [← Bool.not_eq_true, lessB_t]; omega
        simp [g2])
      exact ⟨d, fun _ => h⟩
    · exact ⟨0, fun h => absurd h hj⟩
  obtain ⟨d, hd⟩ : ∃ d : Nat → Nat, ∀ j, j < n → d j ≤ (rs j).length ∧ kept uc uk rs j = (rs j).drop (d j) ∧ ∀ (q : Nat) (r : Rec), (rs j)[q]? = some r → (gone uc uk r = true ↔ q < d j) := ⟨fun j => Classical.choose (hex j), fun j => Classical.choose_spec (hex j)⟩
  have h0 : (fun j => 0 - d j) = fun _ => 0 := by funext j; omega
  have := kept_from hd (sumTo (lenOf rs) n) (fun _ => 0) (fun j hj => by omega) (by rw [sumTo_zero]; omega) (sumTo (lenOf (kept uc uk rs)) n) (by rw [h0, sumTo_zero]; omega)
  rw [h0] at this
  exact this
end Go.Proofs.Ytpndplbomnjioaa
