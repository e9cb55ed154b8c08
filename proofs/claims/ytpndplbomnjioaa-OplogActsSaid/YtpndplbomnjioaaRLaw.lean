/- The merge of rows is the one list that is in order and holds each row in its row; an insertion keeps that. Plain Lean. Conditions: none. -/
import Derived.Test.YtpndplbomnjioaaDLaw
set_option linter.unusedVariables false
namespace Go.Proofs.Ytpndplbomnjioaa
def isK (j : Nat) (r : Rec) : Bool := decide (r.k = (j : Int))
/-- In order, and each row in its row. -/
structure SortOf (out : List Rec) (rows : Nat → List Rec) (n : Nat) : Prop where
  sorted : out.Pairwise (fun a b => lessB b.c b.k a.c a.k = false)
  rows : ∀ j, j < n → out.filter (isK j) = rows j
  mem : ∀ r ∈ out, ∃ j, j < n ∧ r.k = j
theorem not_less {a b c d : Int} : lessB a b c d = false ↔ ¬ (a < c ∨ (a = c ∧ b < d)) := by rw [← Bool.not_eq_true, lessB_t]
theorem SortOf.uniq : ∀ {out out' : List Rec} {rows : Nat → List Rec} {n : Nat}, SortOf out rows n → SortOf out' rows n → out = out'
  | [], [], _, _, _, _ => rfl
  | [], y :: t', rows, n, h, h' => by
    exfalso
    obtain ⟨j, hj, hk⟩ := h'.mem y List.mem_cons_self
    have e := h.rows j hj
    have e' := h'.rows j hj
    rw [List.filter_cons_of_pos (by simp [isK, hk])] at e'
    rw [List.filter_nil] at e
    rw [← e] at e'
    cases e'
  | x :: t, [], rows, n, h, h' => by
    exfalso
    obtain ⟨j, hj, hk⟩ := h.mem x List.mem_cons_self
    have e := h.rows j hj
    have e' := h'.rows j hj
    rw [List.filter_cons_of_pos (by simp [isK, hk])] at e
    rw [List.filter_nil] at e'
    rw [← e'] at e
    cases e
  | x :: t, y :: t', rows, n, h, h' => by
    obtain ⟨j, hj, hk⟩ := h.mem x List.mem_cons_self
    obtain ⟨j', hj', hk'⟩ := h'.mem y List.mem_cons_self
    have exy : x = y := by
      by_cases e : j = j'
      · subst e
        have e1 := h.rows j hj
        have e2 := h'.rows j hj
        rw [List.filter_cons_of_pos (by simp [isK, hk])] at e1
        rw [List.filter_cons_of_pos (by simp [isK, hk'])] at e2
        rw [← e2] at e1
        exact (List.cons.inj e1).1
      · exfalso
        have hx : x ∈ y :: t' := by
          have e1 := h.rows j hj
          have e2 := h'.rows j hj
          have : x ∈ (x :: t).filter (isK j) := List.mem_filter.2 ⟨List.mem_cons_self, by simp [isK, hk]⟩
          rw [e1, ← e2] at this
          exact (List.mem_filter.1 this).1
        have hy : y ∈ x :: t := by
          have e1 := h.rows j' hj'
          have e2 := h'.rows j' hj'
          have : y ∈ (y :: t').filter (isK j') := List.mem_filter.2 ⟨List.mem_cons_self, by simp [isK, hk']⟩
          rw [e2, ← e1] at this
          exact (List.mem_filter.1 this).1
        have hne : x ≠ y := fun e' => by rw [e'] at hk; rw [hk] at hk'; omega
        rcases List.mem_cons.1 hx with e' | hx
        · exact hne e'
        rcases List.mem_cons.1 hy with e' | hy
        · exact hne e'.symm
        have p1 := (List.pairwise_cons.1 h.sorted).1 y hy
        have p2 := (List.pairwise_cons.1 h'.sorted).1 x hx
        rw [not_less] at p1 p2
        omega
    subst exy
    rw [SortOf.uniq (out := t) (out' := t') (rows := fun j => if isK j x then (rows j).tail else rows j) (n := n) ⟨(List.pairwise_cons.1 h.sorted).2, fun i hi => ?_, fun r hr => h.mem r (List.mem_cons_of_mem _ hr)⟩ ⟨(List.pairwise_cons.1 h'.sorted).2, fun i hi => ?_, fun r hr => h'.mem r (List.mem_cons_of_mem _ hr)⟩]
    · have e1 := h.rows i hi
      by_cases hi2 : isK i x = true
      · rw [List.filter_cons_of_pos hi2] at e1
        rw [if_pos hi2, ← e1]; rfl
      · rw [List.filter_cons_of_neg hi2] at e1
        rw [if_neg hi2, e1]
    · have e1 := h'.rows i hi
      by_cases hi2 : isK i x = true
      · rw [List.filter_cons_of_pos hi2] at e1
        rw [if_pos hi2, ← e1]; rfl
      · rw [List.filter_cons_of_neg hi2] at e1
        rw [if_neg hi2, e1]
/-- Rows as a log holds them: each record bears its core, and the counts do not fall. -/
structure RowsOk (rs : Nat → List Rec) (n : Nat) : Prop where
  core : ∀ j, j < n → ∀ (q : Nat) (r : Rec), (rs j)[q]? = some r → r.k = j
  mono : ∀ j, j < n → ∀ (q q' : Nat) (r r' : Rec), q ≤ q' → (rs j)[q]? = some r → (rs j)[q']? = some r' → r.c ≤ r'.c
theorem mergeFrom_sort {rs : Nat → List Rec} {n : Nat} (ok : RowsOk rs n) : ∀ (f : Nat) (h : Nat → Nat), (∀ j, j < n → h j ≤ (rs j).length) → sumTo h n + f = sumTo (lenOf rs) n → SortOf (pickOf rs (mergeFrom (lenOf rs) (stOf rs) n f h)) (fun j => (rs j).drop (h j)) n
  | 0, h, hle, hs => by
    refine ⟨List.Pairwise.nil, fun j hj => ?_, fun r hr => by cases hr⟩
    have : h j = (rs j).length := by
      rcases Nat.lt_or_ge (h j) (rs j).length with hlt | hge
      · have := sumTo_lt n hle hj hlt
        have e : sumTo (lenOf rs) n = sumTo (fun j => (rs j).length) n := rfl
        omega
      · have := hle j hj; omega
    rw [this, List.drop_length]
    rfl
  | f + 1, h, hle, hs => by
    obtain ⟨l, h1, h2, h3, h4⟩ := merge_step (lenOf rs) h (stOf rs) n f (by omega)
    obtain ⟨r, hr⟩ : ∃ r, (rs l)[h l]? = some r := ⟨_, List.getElem?_eq_getElem h2⟩
    have ih := mergeFrom_sort ok f (upd h l (h l + 1)) (upd_le (ms := lenOf rs) hle h2) (by rw [sumTo_upd, if_pos h1]; omega)
    rw [h4, pickOf_cons hr]
    have hrk := ok.core l h1 _ _ hr
    refine ⟨List.pairwise_cons.2 ⟨fun x hx => ?_, ih.sorted⟩, fun j hj => ?_, fun x hx => ?_⟩
    · obtain ⟨j, hj, hk⟩ := ih.mem x hx
      have hx2 : x ∈ (rs j).drop (upd h l (h l + 1) j) := by
        rw [← ih.rows j hj]
        exact List.mem_filter.2 ⟨hx, by simp [isK, hk]⟩
      obtain ⟨q, hq⟩ := List.getElem?_of_mem hx2
      rw [List.getElem?_drop] at hq
      have hqh : h j ≤ upd h l (h l + 1) j + q := by unfold upd; split <;> (try subst_vars) <;> omega
      have hlt : h j < (rs j).length := by have := (List.getElem?_eq_some_iff.1 hq).1; omega
      obtain ⟨y, hy⟩ : ∃ y, (rs j)[h j]? = some y := ⟨_, List.getElem?_eq_getElem hlt⟩
      have hc := ok.mono j hj _ _ _ _ hqh hy hq
      have hyk := ok.core j hj _ _ hy
      have hno := least_le (lenOf rs) h (stOf rs) n l h3 j hj hlt
      have e1 : stOf rs j (h j) = (y.c, y.k) := by unfold stOf; rw [hy]
      have e2 : stOf rs l (h l) = (r.c, r.k) := by unfold stOf; rw [hr]
      rw [e1, e2, not_less] at hno
      simp only at hno
      rw [not_less]
      omega
    · have e := ih.rows j hj
      by_cases ej : j = l
      · subst ej
        have hu : upd h j (h j + 1) j = h j + 1 := by simp [upd]
        simp only [hu] at e
        rw [List.filter_cons_of_pos (by simp [isK, hrk]), e]
        have hg := List.getElem?_eq_some_iff.1 hr
        rw [List.drop_eq_getElem_cons hg.1, hg.2]
      · have hu : upd h l (h l + 1) j = h j := by simp [upd, ej]
        simp only [hu] at e
        rw [List.filter_cons_of_neg (by simp [isK, hrk]; omega), e]
    · rcases List.mem_cons.1 hx with e | hx
      · subst e; exact ⟨l, h1, hrk⟩
      · exact ih.mem x hx
theorem merge_sort {rs : Nat → List Rec} {n : Nat} (ok : RowsOk rs n) : SortOf (pickOf rs (mergeAll rs n)) rs n := by
  have := mergeFrom_sort ok (sumTo (lenOf rs) n) (fun _ => 0) (fun j hj => by omega) (by rw [sumTo_zero]; omega)
  exact ⟨this.sorted, fun j hj => by have e := this.rows j hj; rw [List.drop_zero] at e; exact e, this.mem⟩
/-- A record that is put in its place, behind all that is not above it. -/
theorem SortOf.insert {l : List Rec} {rows rows' : Nat → List Rec} {n i j : Nat} {r : Rec} (h : SortOf l rows n) (hi : i < n) (hk : r.k = i) (hj : j ≤ l.length) (hup : ∀ (q : Nat) (x : Rec), j ≤ q → l[q]? = some x → lessB r.c r.k x.c x.k = true) (hlo : j = 0 ∨ ∃ x, l[j - 1]? = some x ∧ lessB r.c r.k x.c x.k = false)
    (hrow : ∀ x ∈ l, x.k = i → x.c ≤ r.c) (e1 : rows' i = rows i ++ [r]) (e2 : ∀ j, j < n → j ≠ i → rows' j = rows j) : SortOf (l.take j ++ r :: l.drop j) rows' n := by
  have hsp : l.take j ++ l.drop j = l := List.take_append_drop j l
  have hs := h.sorted
  rw [← hsp, List.pairwise_append] at hs
  obtain ⟨s1, s2, s3⟩ := hs
  have hdrop : ∀ x ∈ l.drop j, lessB r.c r.k x.c x.k = true := fun x hx => by
    obtain ⟨q, hq⟩ := List.getElem?_of_mem hx
    rw [List.getElem?_drop] at hq
    exact hup _ x (by omega) hq
  refine ⟨?_, fun j' hj' => ?_, fun x hx => ?_⟩
  · rw [List.pairwise_append]
    refine ⟨s1, List.pairwise_cons.2 ⟨fun x hx => ?_, s2⟩, fun a ha b hb => ?_⟩
    · have := hdrop x hx
      rw [lessB_t] at this
      rw [not_less]
      omega
    · rcases List.mem_cons.1 hb with e | hb
      · subst e
        rcases hlo with hz | ⟨x, hx, hno⟩
        · subst hz; cases ha
        · obtain ⟨q, hq⟩ := List.getElem?_of_mem ha
          rw [List.getElem?_take] at hq
          split at hq
          · rename_i hqj
            have hpw := List.pairwise_iff_getElem.1 h.sorted
            have hq1 := List.getElem?_eq_some_iff.1 hq
            have hx1 := List.getElem?_eq_some_iff.1 hx
            by_cases hqe : q = j - 1
            · subst hqe
              rw [hq] at hx
              injection hx with hx
              subst hx
              exact hno
            · have := hpw q (j - 1) hq1.1 hx1.1 (by omega)
              rw [hq1.2, hx1.2, not_less] at this
              rw [not_less] at hno ⊢
              omega
          · cases hq
      · exact s3 a ha b hb
  · have e0 : l.filter (isK j') = rows j' := h.rows j' hj'
    rw [← hsp, List.filter_append] at e0
    rw [List.filter_append]
    by_cases ej : j' = i
    · subst ej
      have hd : (l.drop j).filter (isK j') = [] := by
        rw [List.filter_eq_nil_iff]
        intro x hx hxk
        have hxk' : x.k = j' := by simpa [isK] using hxk
        have := hdrop x hx
        have h2 := hrow x (List.mem_of_mem_drop hx) hxk'
        rw [lessB_t] at this
        omega
      rw [hd, List.append_nil] at e0
      rw [List.filter_cons_of_pos (by simp [isK, hk]), hd, e0, e1]
    · rw [List.filter_cons_of_neg (by simp [isK, hk]; omega), e0, e2 j' hj' ej]
  · rcases List.mem_append.1 hx with hx | hx
    · exact h.mem x (List.mem_of_mem_take hx)
    · rcases List.mem_cons.1 hx with e | hx
      · subst e; exact ⟨i, hi, hk⟩
      · exact h.mem x (List.mem_of_mem_drop hx)
end Go.Proofs.Ytpndplbomnjioaa
