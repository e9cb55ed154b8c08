/- A region that draws its order and only looks, walked one operation at a time behind a wrapper; records as cells; the merge of the rows of a log, as plain Lean. Conditions: none. -/
import Derived.Test.YtpndplbomnjioaaMerge0
set_option linter.unusedVariables false
namespace Go
section
variable {P : Program} {ops : Array Oper} {C : World → Prop} {Q : Act → Prop} {a : Act} {o : Oper} {rest : List Oper}
/-- The walk, hidden from the unifier. -/
structure WQ (P : Program) (ops : Array Oper) (C : World → Prop) (Q : Act → Prop) (l : List Oper) (a : Act) : Prop where
  out : wpQuiet P ops C Q l a
theorem WQ_step (h : ∀ K : Act → Prop, (∀ a, WQ P ops C Q rest a → K a) → if Region.wanted o (yielded ops a.tmps) then o.quiet P a C K else K (a.put o.dst undef)) : WQ P ops C Q (o :: rest) a :=
  ⟨wpQuiet_step fun K hK => h K fun a ha => hK a ha.out⟩
theorem WQ_nil (h : Q a) : WQ P ops C Q [] a := ⟨wpQuiet_nil h⟩
end
end Go
namespace Go.Proofs.Ytpndplbomnjioaa
open Go.RowKit
/-- The cells of an owned row that is not empty. -/
theorem own_cells {w : World} {base : Nat} {e : TypeId} {size n : Nat} {v : Value} {xs : List Value} (h : w.ownsRow base e size v n xs) (hn : 0 < n) :
    ∃ g cap, v = .slice (some ⟨g, 0, none⟩) n cap ∧ g < w.heap.size ∧ n ≤ cap ∧ ∀ i x, i < n * size → xs[i]? = some x → w.cell? ⟨g, i, none⟩ = some x := by
  obtain ⟨_, h0 | ⟨g, cap, cur, rfl, _, hg, hc, _, hs, ht⟩⟩ := h
  · omega
  · refine ⟨g, cap, rfl, (Array.getElem?_eq_some_iff.1 hg).1, hc, fun i x hi hx => ?_⟩
    rw [cell_of_row w g i cur e (0, 0) hg]
    rw [← ht, List.getElem?_take] at hx
    simpa [hi] using hx
/-- A record of a log. -/
structure Rec where
  c : Int
  k : Int
  kind : Int
  core : Int
  fd : Int
  off : Int
  num : Int
  path : ByteArray
  path2 : ByteArray
  data : ByteArray
def Rec.cells (r : Rec) : List Value := [.int .i64 r.c, .int .i64 r.k, .int .i64 r.kind, .int .i64 r.core, .int .i64 r.fd, .int .i64 r.off, .int .i64 r.num, .string r.path, .string r.path2, .string r.data]
def recs (l : List Rec) : List Value := l.flatMap Rec.cells
theorem recs_add (l : List Rec) (r : Rec) : recs (l ++ [r]) = recs l ++ r.cells := by simp [recs]
theorem recs_len : ∀ l : List Rec, (recs l).length = l.length * 10
  | [] => rfl
  | r :: l => by
    have := recs_len l
    simp only [recs] at this
    simp [recs, this, Rec.cells]
    omega
theorem recs_at : ∀ (l : List Rec) (i : Nat) (r : Rec), l[i]? = some r → ∀ q, q < 10 → (recs l)[i * 10 + q]? = r.cells[q]?
  | [], i, r, h, q, hq => by simp at h
  | r0 :: l, 0, r, h, q, hq => by
    obtain rfl : r0 = r := by simpa using h
    show (r0.cells ++ recs l)[0 * 10 + q]? = _
    rw [List.getElem?_append_left (by simp [Rec.cells]; omega)]
    simp
  | r0 :: l, i + 1, r, h, q, hq => by
    have := recs_at l i r (by simpa using h) q hq
    show (r0.cells ++ recs l)[(i + 1) * 10 + q]? = _
    rw [List.getElem?_append_right (by simp [Rec.cells]; omega), ← this]
    congr 1
    simp [Rec.cells]
    omega
/-- The stamp of record i of core j. -/
def stOf (rs : Nat → List Rec) (j i : Nat) : Int × Int := match (rs j)[i]? with
  | some r => (r.c, r.k)
  | none => (0, 0)
def lenOf (rs : Nat → List Rec) (j : Nat) : Nat := (rs j).length
/-- What was merged, as records. -/
def pickOf (rs : Nat → List Rec) (t : List (Nat × Nat)) : List Rec := t.flatMap fun p => (rs p.1)[p.2]?.toList
/-- Which core's head is least. -/
def leastOf (rs : Nat → List Rec) (hd : Nat → Nat) (k : Nat) : Option Nat := leastTo (lenOf rs) hd (stOf rs) k
theorem leastOf_succ_none {rs : Nat → List Rec} {hd : Nat → Nat} {k : Nat} (h : leastOf rs hd k = none) (hm : hd k < (rs k).length) : leastOf rs hd (k + 1) = some k := by
  unfold leastOf at *
  simp [leastTo, h, hm, lenOf]
theorem leastOf_succ_stay {rs : Nat → List Rec} {hd : Nat → Nat} {k : Nat} (hm : ¬ hd k < (rs k).length) : leastOf rs hd (k + 1) = leastOf rs hd k := by
  unfold leastOf
  show (match leastTo (lenOf rs) hd (stOf rs) k with
    | none => if hd k < lenOf rs k then some k else none
    | some l => if hd k < lenOf rs k ∧ lessB (stOf rs k (hd k)).1 (stOf rs k (hd k)).2 (stOf rs l (hd l)).1 (stOf rs l (hd l)).2 = true then some k else some l) = _
  have hm' : ¬ hd k < lenOf rs k := hm
  split
  · rename_i h1
    rw [if_neg hm', h1]
  · rename_i l h1
    rw [if_neg (fun e => hm' e.1), h1]
theorem leastOf_succ_some {rs : Nat → List Rec} {hd : Nat → Nat} {k l : Nat} (h : leastOf rs hd k = some l) (hm : hd k < (rs k).length) {r r' : Rec} (hr : (rs k)[hd k]? = some r) (hr' : (rs l)[hd l]? = some r') :
    leastOf rs hd (k + 1) = if lessB r.c r.k r'.c r'.k = true then some k else some l := by
  unfold leastOf at *
  show (match leastTo (lenOf rs) hd (stOf rs) k with
    | none => if hd k < lenOf rs k then some k else none
    | some l => if hd k < lenOf rs k ∧ lessB (stOf rs k (hd k)).1 (stOf rs k (hd k)).2 (stOf rs l (hd l)).1 (stOf rs l (hd l)).2 = true then some k else some l) = _
  rw [h]
  have e1 : stOf rs k (hd k) = (r.c, r.k) := by unfold stOf; rw [hr]
  have e2 : stOf rs l (hd l) = (r'.c, r'.k) := by unfold stOf; rw [hr']
  simp [lenOf, hm, e1, e2]
def sumTo (f : Nat → Nat) : Nat → Nat
  | 0 => 0
  | n + 1 => sumTo f n + f n
theorem sumTo_le {f g : Nat → Nat} : ∀ n, (∀ j, j < n → f j ≤ g j) → sumTo f n ≤ sumTo g n
  | 0, _ => Nat.le_refl _
  | n + 1, h => by
    have := sumTo_le n (fun j hj => h j (by omega))
    have := h n (by omega)
    simp only [sumTo]; omega
theorem sumTo_lt {f g : Nat → Nat} {l : Nat} : ∀ n, (∀ j, j < n → f j ≤ g j) → l < n → f l < g l → sumTo f n < sumTo g n
  | 0, _, hl, _ => by omega
  | n + 1, h, hl, hlt => by
    have h1 := h n (by omega)
    have h2 := sumTo_le n (fun j hj => h j (by omega))
    simp only [sumTo]
    by_cases e : l = n
    · subst e; omega
    · have := sumTo_lt n (fun j hj => h j (by omega)) (l := l) (by omega) hlt
      omega
theorem sumTo_upd {f : Nat → Nat} {l : Nat} : ∀ n, sumTo (upd f l (f l + 1)) n = sumTo f n + if l < n then 1 else 0
  | 0 => by simp [sumTo]
  | n + 1 => by
    simp only [sumTo, sumTo_upd n, upd]
    by_cases e : n = l
    · subst e; simp; omega
    · rw [if_neg e]
      by_cases h : l < n
      · rw [if_pos h, if_pos (by omega)]; omega
      · rw [if_neg h, if_neg (by omega)]; omega
theorem sumTo_const {f : Nat → Nat} {c : Nat} : ∀ n, (∀ j, j < n → f j ≤ c) → sumTo f n ≤ n * c
  | 0, _ => by simp [sumTo]
  | n + 1, h => by
    have := sumTo_const n (fun j hj => h j (by omega))
    have := h n (by omega)
    simp only [sumTo, Nat.add_mul]; omega
theorem sumTo_zero : ∀ n, sumTo (fun _ => 0) n = 0
  | 0 => rfl
  | n + 1 => by simp [sumTo, sumTo_zero n]
/-- The merge of all rows. -/
def mergeAll (rs : Nat → List Rec) (n : Nat) : List (Nat × Nat) := mergeFrom (lenOf rs) (stOf rs) n (sumTo (lenOf rs) n) (fun _ => 0)
end Go.Proofs.Ytpndplbomnjioaa
