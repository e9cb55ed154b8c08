/- The walk of the statement on the rows of a log, plain parts. Conditions: none. -/
import Derived.Test.YtpndplbomnjioaaMLaw
set_option linter.unusedVariables false
namespace Go.Proofs.Ytpndplbomnjioaa
open Go.RowKit
def stCells (ss : List (Int × Int)) : List Value := ss.flatMap fun p => [.int .i64 p.1, .int .i64 p.2]
theorem stCells_add (ss : List (Int × Int)) (p : Int × Int) : stCells (ss ++ [p]) = stCells ss ++ [.int .i64 p.1, .int .i64 p.2] := by simp [stCells]
theorem stCells_at : ∀ (ss : List (Int × Int)) (q : Nat) (p : Int × Int), ss[q]? = some p → (stCells ss)[q * 2]? = some (.int .i64 p.1) ∧ (stCells ss)[q * 2 + 1]? = some (.int .i64 p.2)
  | [], q, p, h => by simp at h
  | s0 :: ss, 0, p, h => by
    obtain rfl : s0 = p := by simpa using h
    exact ⟨rfl, rfl⟩
  | s0 :: ss, q + 1, p, h => by
    have ih := stCells_at ss q p (by simpa using h)
    have e : stCells (s0 :: ss) = .int .i64 s0.1 :: .int .i64 s0.2 :: stCells ss := rfl
    rw [e, show (q + 1) * 2 = q * 2 + 1 + 1 by omega]
    simpa using ih
/-- What the round of OplogRows knows. -/
structure RRound (wa : World) (L i : Nat) (lc : Nat → Int) (rs : Nat → List Rec) (ss : List (Int × Int)) (v : Value) (wr : World) : Prop where
  log : RLog wa.heap.size v.ownBlock.toList wr L 4 rs lc
  own : wr.ownsRow 0 23 2 v i (stCells ss)
  loc : ∀ b, v.ownBlock = some b → wa.heap.size ≤ b
  len : ss.length = i
  okS : ∀ (q : Nat) (p : Int × Int), ss[q]? = some p → 0 ≤ p.1 ∧ p.1 ≤ i ∧ 0 ≤ p.2 ∧ p.2 < 4
  lo : ∀ j, j < 4 → 0 ≤ lc j ∧ lc j ≤ i
  row : ∀ j, j < 4 → ∀ (q : Nat) (r : Rec), (rs j)[q]? = some r → r.core = j ∧ 0 ≤ r.num ∧ r.num < i ∧ r.c ≤ lc j
  inc : ∀ j, j < 4 → ∀ (q q' : Nat) (r r' : Rec), q < q' → (rs j)[q]? = some r → (rs j)[q']? = some r' → r.num < r'.num ∧ r.c < r'.c
  sum : sumTo (lenOf rs) 4 = i
  i60 : i ≤ 60
  bel : Below wa.heap.size wa wr
theorem sumTo_ge {f : Nat → Nat} : ∀ n j, j < n → f j ≤ sumTo f n
  | 0, j, h => by omega
  | n + 1, j, h => by
    simp only [sumTo]
    by_cases e : j = n
    · subst e; omega
    · have := sumTo_ge (f := f) n j (by omega); omega
theorem RRound.next {wa wr wc w1 : World} {L k j x8 : Nat} {lc : Nat → Int} {rs : Nat → List Rec} {ss : List (Int × Int)} {v v' : Value} {M : Int} {o1 o2 : Obj} {p2 : Behind} (H : RRound wa L k lc rs ss v wr) (hj : j < 4) (hM0 : 0 ≤ M) (hM1 : M ≤ k) (hMl : lc j ≤ M) (hk : k < 60)
    (hl2 : RLog wa.heap.size (x8 :: v.ownBlock.toList) wc L 4 (upd rs j (rs j ++ [⟨M + 1, j, 0, j, 0, 0, k, ⟨#[]⟩, ⟨#[]⟩, ⟨#[]⟩⟩])) (upd lc j (M + 1))) (hb2 : Below wa.heap.size wa wc)
    (hown1 : w1.ownsRow 0 23 2 v' (k + 1) (stCells ss ++ [.int .i64 (M + 1), .int .i64 j])) (hgrow : (((wc.alloc o1).junk p2).alloc o2).grownBy w1 v.ownBlock)
    (hloc0 : v'.ownBlock = v.ownBlock ∨ v'.ownBlock = some (wc.heap.size + 1 + p2.len + 1)) :
    RRound wa L (k + 1) (upd lc j (M + 1)) (upd rs j (rs j ++ [⟨M + 1, j, 0, j, 0, 0, k, ⟨#[]⟩, ⟨#[]⟩, ⟨#[]⟩⟩])) (ss ++ [(M + 1, (j : Int))]) v' w1 := by
  have hloc : v'.ownBlock = v.ownBlock ∨ v'.ownBlock = some (((wc.alloc o1).junk p2).alloc o2).heap.size := by
    have e : (((wc.alloc o1).junk p2).alloc o2).heap.size = wc.heap.size + 1 + p2.len + 1 := by simp
    rw [e]; exact hloc0
  have hW : Below wa.heap.size wa (((wc.alloc o1).junk p2).alloc o2) := by
    have h1 := hb2.alloc hb2.size o1
    have h2 := below_junk _ _ _ p2 h1 h1.size
    exact h2.alloc h2.size o2
  refine ⟨?_, by rw [stCells_add]; exact hown1, ?_, by simp [H.len], ?_, ?_, ?_, ?_, ?_, by omega, ?_⟩
  · have h1 := (((hl2.alloc o1).junk p2).alloc o2).more (Nat.le_refl _)
    have h2 := h1.keep ((Keep.refl (fun b => b ∈ _) _).grown hgrow (fun b hb => .inl (by simp [hb])))
    refine h2.less (fun x hx => ?_)
    rcases hloc with e | e
    · rw [e] at hx
      exact List.mem_cons_of_mem _ (List.mem_cons_of_mem _ hx)
    · rw [e] at hx
      have : x = (((wc.alloc o1).junk p2).alloc o2).heap.size := by simpa using hx
      rw [this]
      exact List.mem_cons_self
  · intro b hb
    rcases hloc with e | e
    · exact H.loc b (e.symm.trans hb)
    · rw [e] at hb; injection hb with hb
      have := hW.size
      omega
  · intro q p hq
    by_cases e : q < k
    · rw [List.getElem?_append_left (by rw [H.len]; exact e)] at hq
      have := H.okS q p hq
      omega
    · rw [List.getElem?_append_right (by rw [H.len]; omega), H.len] at hq
      have e0 : q - k = 0 := by
        rcases Nat.eq_zero_or_pos (q - k) with h | h
        · exact h
        · rw [List.getElem?_eq_none (by simp; omega)] at hq
          cases hq
      rw [e0] at hq
      injection hq with hq
      subst hq
      simp only
      omega
  · intro i hi
    unfold upd
    have := H.lo i hi
    split <;> omega
  · intro i hi q r hq
    unfold upd at hq ⊢
    by_cases e : i = j
    · subst e
      rw [if_pos rfl] at hq ⊢
      by_cases e2 : q < (rs i).length
      · rw [List.getElem?_append_left e2] at hq
        have := H.row i hi q r hq
        omega
      · rw [List.getElem?_append_right (by omega)] at hq
        have e0 : q - (rs i).length = 0 := by
          rcases Nat.eq_zero_or_pos (q - (rs i).length) with h | h
          · exact h
          · rw [List.getElem?_eq_none (by simp; omega)] at hq
            cases hq
        rw [e0] at hq
        injection hq with hq
        subst hq
        exact ⟨rfl, by show (0 : Int) ≤ k; omega, by show (k : Int) < ((k + 1 : Nat) : Int); omega, Int.le_refl _⟩
    · rw [if_neg e] at hq ⊢
      have := H.row i hi q r hq
      omega
  · intro i hi q q' r r' hqq hq hq'
    unfold upd at hq hq'
    by_cases e : i = j
    · subst e
      rw [if_pos rfl] at hq hq'
      by_cases e2 : q' < (rs i).length
      · rw [List.getElem?_append_left e2] at hq'
        rw [List.getElem?_append_left (by omega)] at hq
        exact H.inc i hi q q' r r' hqq hq hq'
      · rw [List.getElem?_append_right (by omega)] at hq'
        have e0 : q' - (rs i).length = 0 := by
          rcases Nat.eq_zero_or_pos (q' - (rs i).length) with h | h
          · exact h
          · rw [List.getElem?_eq_none (by simp; omega)] at hq'
            cases hq'
        rw [e0] at hq'
        injection hq' with hq'
        subst hq'
        rw [List.getElem?_append_left (by omega)] at hq
        have := H.row i hi q r hq
        simp only
        omega
    · rw [if_neg e] at hq hq'
      exact H.inc i hi q q' r r' hqq hq hq'
  · have e1 : lenOf (upd rs j (rs j ++ [⟨M + 1, j, 0, j, 0, 0, k, ⟨#[]⟩, ⟨#[]⟩, ⟨#[]⟩⟩])) = upd (lenOf rs) j (lenOf rs j + 1) := by
      funext i
      unfold lenOf upd
      split <;> simp
    rw [e1, sumTo_upd, if_pos hj, H.sum]
  · exact hW.trans (((Keep.refl (fun b => v.ownBlock = some b) _).grown hgrow (fun b hb => .inl hb)).below hW.size (fun i hi h => by have := H.loc i h; omega))
def numBefore (rs : Nat → List Rec) (h j : Nat) : Int := if h = 0 then -1 else match (rs j)[h - 1]? with | some r => r.num | none => -1
theorem numBefore_lt {rs : Nat → List Rec} {h j : Nat} {r : Rec} (hr : (rs j)[h]? = some r) (h0 : 0 ≤ r.num) (inc : ∀ (q q' : Nat) (r r' : Rec), q < q' → (rs j)[q]? = some r → (rs j)[q']? = some r' → r.num < r'.num ∧ r.c < r'.c) : ¬ r.num ≤ numBefore rs h j := by
  unfold numBefore
  split
  · omega
  · split
    · rename_i r1 hr1
      have := (inc _ _ _ _ (by omega) hr1 hr).1
      omega
    · omega
theorem numBefore_succ {rs : Nat → List Rec} {h j : Nat} {r : Rec} (hr : (rs j)[h]? = some r) : numBefore rs (h + 1) j = r.num := by
  unfold numBefore
  rw [if_neg (by omega), Nat.add_sub_cancel, hr]
/-- What the second loop of OplogRows knows. -/
structure SRow (wm : World) (X : Nat) (rs : Nat → List Rec) (P : List Rec) (hd : Nat → Nat) (i : Nat) (wr : World) : Prop where
  bel : Below wm.heap.size wm wr
  last : ∃ lc : Array Value, Blk wr X lc 3 ∧ lc.size = 4 ∧ ∀ j, j < 4 → lc[j]? = some (.int .i64 (numBefore rs (hd j) j))
  le : ∀ j, j < 4 → hd j ≤ (rs j).length
  sum : sumTo hd 4 = i
  ge : i ≤ sumTo (lenOf rs) 4
  rest : ∃ done : List Rec, done.length = i ∧ P = done ++ pickOf rs (mergeFrom (lenOf rs) (stOf rs) 4 (sumTo (lenOf rs) 4 - i) hd)
  prev : ∀ j, j < 4 → ∀ (r0 r : Rec), 0 < i → P[i - 1]? = some r0 → (rs j)[hd j]? = some r → r0.c ≤ r.c
/-- The record that the walk along a merge stands at. -/
theorem SRow.here {wm wr : World} {X i : Nat} {rs : Nat → List Rec} {P : List Rec} {hd : Nat → Nat} (H : SRow wm X rs P hd i wr) (hi : i < sumTo (lenOf rs) 4) :
    ∃ (l : Nat) (r : Rec), l < 4 ∧ hd l < (rs l).length ∧ (rs l)[hd l]? = some r ∧ P[i]? = some r ∧ leastTo (lenOf rs) hd (stOf rs) 4 = some l ∧
      ∃ done : List Rec, done.length = i + 1 ∧ P = done ++ pickOf rs (mergeFrom (lenOf rs) (stOf rs) 4 (sumTo (lenOf rs) 4 - (i + 1)) (upd hd l (hd l + 1))) := by
  obtain ⟨l, h1, h2, h3, h4⟩ := merge_step (lenOf rs) hd (stOf rs) 4 (sumTo (lenOf rs) 4 - (i + 1)) (by rw [H.sum]; exact hi)
  obtain ⟨r, hr⟩ : ∃ r, (rs l)[hd l]? = some r := ⟨_, List.getElem?_eq_getElem h2⟩
  obtain ⟨done, d1, d2⟩ := H.rest
  rw [show sumTo (lenOf rs) 4 - i = sumTo (lenOf rs) 4 - (i + 1) + 1 by omega, h4, pickOf_cons hr] at d2
  refine ⟨l, r, h1, h2, hr, ?_, h3, done ++ [r], by simp [d1], by rw [d2]; simp⟩
  rw [d2, List.getElem?_append_right (by omega), d1, Nat.sub_self]
  rfl
theorem SRow.next {wm wr wr' : World} {X i l : Nat} {rs : Nat → List Rec} {P : List Rec} {hd : Nat → Nat} {r : Rec} (H : SRow wm X rs P hd i wr) (hi : i < sumTo (lenOf rs) 4) (hl : l < 4) (h2 : hd l < (rs l).length) (hr : (rs l)[hd l]? = some r) (hP : P[i]? = some r)
    (h3 : leastTo (lenOf rs) hd (stOf rs) 4 = some l) (hd' : ∃ done : List Rec, done.length = i + 1 ∧ P = done ++ pickOf rs (mergeFrom (lenOf rs) (stOf rs) 4 (sumTo (lenOf rs) 4 - (i + 1)) (upd hd l (hd l + 1))))
    (inc : ∀ (q q' : Nat) (r r' : Rec), q < q' → (rs l)[q]? = some r → (rs l)[q']? = some r' → r.num < r'.num ∧ r.c < r'.c) (hb : Below wm.heap.size wm wr')
    (hlast : ∀ lc : Array Value, Blk wr X lc 3 → Blk wr' X (lc.setIfInBounds l (.int .i64 r.num)) 3) : SRow wm X rs P (upd hd l (hd l + 1)) (i + 1) wr' := by
  refine ⟨hb, ?_, upd_le (ms := lenOf rs) H.le h2, by rw [sumTo_upd, if_pos hl, H.sum], hi, hd', ?_⟩
  · obtain ⟨lc, e1, e2, e3⟩ := H.last
    refine ⟨_, hlast lc e1, by simpa using e2, fun j hj => ?_⟩
    unfold upd
    by_cases e : j = l
    · subst e
      rw [if_pos rfl, Array.getElem?_setIfInBounds_self_of_lt (by omega), numBefore_succ hr]
    · rw [if_neg e, Array.getElem?_setIfInBounds_ne (fun e' => e e'.symm)]
      exact e3 j hj
  · intro j hj r0 r1 _ h0 h1
    rw [Nat.add_sub_cancel, hP] at h0
    injection h0 with h0
    subst h0
    unfold upd at h1
    by_cases e : j = l
    · subst e
      rw [if_pos rfl] at h1
      exact Int.le_of_lt (inc _ _ _ _ (Nat.lt_succ_self _) hr h1).2
    · rw [if_neg e] at h1
      have hlj : hd j < (rs j).length := (List.getElem?_eq_some_iff.1 h1).1
      have := least_le (lenOf rs) hd (stOf rs) 4 l h3 j hj hlj
      have e1 : stOf rs j (hd j) = (r1.c, r1.k) := by unfold stOf; rw [h1]
      have e2 : stOf rs l (hd l) = (r.c, r.k) := by unfold stOf; rw [hr]
      rw [e1, e2, ← Bool.not_eq_true, lessB_t] at this
      simp only at this
      omega
end Go.Proofs.Ytpndplbomnjioaa
