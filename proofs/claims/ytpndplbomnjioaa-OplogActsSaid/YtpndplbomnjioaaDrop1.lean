/- A row of records that is rewritten in its place: words. Conditions: none. -/
import Derived.Test.YtpndplbomnjioaaDrop0
import Derived.Lib.SliceRun
set_option linter.unusedVariables false
namespace Go.Proofs.Ytpndplbomnjioaa
open Go.RowKit
/-- The first records of a row of cells. -/
def CellsOf (cc : Array Value) (l : List Rec) : Prop := ∀ (q : Nat) (r : Rec), l[q]? = some r → ∀ t, t < 10 → cc[q * 10 + t]? = r.cells[t]?
theorem CellsOf.take {cc : Array Value} {l : List Rec} (h : CellsOf cc l) (hs : l.length * 10 ≤ cc.size) : cc.toList.take (l.length * 10) = recs l := by
  apply List.ext_getElem?
  intro x
  rw [List.getElem?_take]
  split
  · rename_i hx
    have hq : x / 10 < l.length := by omega
    obtain ⟨r, hr⟩ : ∃ r, l[x / 10]? = some r := ⟨_, List.getElem?_eq_getElem hq⟩
    have e : x = x / 10 * 10 + x % 10 := by omega
    have h1 := h (x / 10) r hr (x % 10) (by omega)
    have h2 := recs_at l (x / 10) r hr (x % 10) (by omega)
    rw [← e] at h1 h2
    rw [h2, ← h1]
    simp
  · rw [List.getElem?_eq_none (by rw [recs_len]; omega)]
theorem cellsOf_own {cc : Array Value} {l : List Rec} (ht : cc.toList.take (l.length * 10) = recs l) : CellsOf cc l := by
  intro q r hr t h10
  have hq : q < l.length := (List.getElem?_eq_some_iff.1 hr).1
  rw [← recs_at l q r hr t h10, ← ht, List.getElem?_take, if_pos (by omega)]
  simp
/-- Record i of a row, overwritten. -/
def putRec (cc : Array Value) (i : Nat) (r : Rec) : Array Value :=
  (((((((((cc.setIfInBounds (i * 10) (.int .i64 r.c)).setIfInBounds (i * 10 + 1) (.int .i64 r.k)).setIfInBounds (i * 10 + 2) (.int .i64 r.kind)).setIfInBounds (i * 10 + 3) (.int .i64 r.core)).setIfInBounds (i * 10 + 4) (.int .i64 r.fd)).setIfInBounds (i * 10 + 5) (.int .i64 r.off)).setIfInBounds (i * 10 + 6) (.int .i64 r.num)).setIfInBounds (i * 10 + 7) (.string r.path)).setIfInBounds (i * 10 + 8) (.string r.path2)).setIfInBounds (i * 10 + 9) (.string r.data)
theorem putRec_size (cc : Array Value) (i : Nat) (r : Rec) : (putRec cc i r).size = cc.size := by simp [putRec]
theorem putRec_ne (cc : Array Value) (i : Nat) (r : Rec) (x : Nat) (h : x < i * 10 ∨ i * 10 + 10 ≤ x) : (putRec cc i r)[x]? = cc[x]? := by
  unfold putRec
  rw [Array.getElem?_setIfInBounds_ne (by omega), Array.getElem?_setIfInBounds_ne (by omega), Array.getElem?_setIfInBounds_ne (by omega), Array.getElem?_setIfInBounds_ne (by omega), Array.getElem?_setIfInBounds_ne (by omega), Array.getElem?_setIfInBounds_ne (by omega), Array.getElem?_setIfInBounds_ne (by omega), Array.getElem?_setIfInBounds_ne (by omega), Array.getElem?_setIfInBounds_ne (by omega), Array.getElem?_setIfInBounds_ne (by omega)]
theorem putRec_at (cc : Array Value) (i : Nat) (r : Rec) (hs : i * 10 + 10 ≤ cc.size) (t : Nat) (ht : t < 10) : (putRec cc i r)[i * 10 + t]? = r.cells[t]? := by
  unfold putRec Rec.cells
  have h0 : i * 10 + 0 = i * 10 := rfl
  obtain rfl | rfl | rfl | rfl | rfl | rfl | rfl | rfl | rfl | rfl : t = 0 ∨ t = 1 ∨ t = 2 ∨ t = 3 ∨ t = 4 ∨ t = 5 ∨ t = 6 ∨ t = 7 ∨ t = 8 ∨ t = 9 := by omega
  all_goals
    repeat rw [Array.getElem?_setIfInBounds_ne (by omega)]
    try rw [h0]
    rw [Array.getElem?_setIfInBounds_self_of_lt (by first | omega | (simp; omega))]
    rfl
theorem CellsOf.put {cc : Array Value} {l : List Rec} (h : CellsOf cc l) {i : Nat} (r : Rec) (hi : i < l.length) (hs : l.length * 10 ≤ cc.size) : CellsOf (putRec cc i r) (l.set i r) := by
  intro q r' hr t ht
  by_cases e : q = i
  · subst e
    have hr2 : r' = r := by
      rw [List.getElem?_set_self hi] at hr
      exact (Option.some.inj hr).symm
    rw [hr2]
    have hx : q * 10 + 10 ≤ cc.size := by omega
    exact putRec_at cc q r hx t ht
  · rw [List.getElem?_set_ne (fun e' => e e'.symm)] at hr
    have hx : q * 10 + t < i * 10 ∨ i * 10 + 10 ≤ q * 10 + t := by omega
    rw [putRec_ne cc i r _ hx]
    exact h q r' hr t ht
theorem blk_setCells {b : Nat} {t : TypeId} : ∀ (vs : List Value) (o : Nat) (w : World) (c : Array Value), Blk w b c t → ∃ c', Blk (w.setCells b o vs) b c' t ∧ c'.size = c.size ∧ ∀ x, x < o → c'[x]? = c[x]?
  | [], o, w, c, h => ⟨c, h, rfl, fun _ _ => rfl⟩
  | v :: vs, o, w, c, h => by
    obtain ⟨c', h1, h2, h3⟩ := blk_setCells vs (o + 1) _ _ (h.set_ o v)
    refine ⟨c', h1, by rw [h2]; simp, fun x hx => ?_⟩
    rw [h3 x (by omega), Array.getElem?_setIfInBounds_ne (by omega)]
theorem keep_setCells {S : Nat → Prop} {a : World} {b : Nat} (hb : S b) : ∀ (vs : List Value) (o : Nat) (w : World), Keep S a w → Keep S a (w.setCells b o vs)
  | [], _, _, h => h
  | v :: vs, o, w, h => keep_setCells hb vs (o + 1) _ (h.setCell (p := ⟨b, o, none⟩) (.inl hb) v)
/-- 'clear(s)', s a slice of elements of more cells. -/
theorem run_clear_wide {P : Program} (w : World) (t e ty : TypeId) (z : Value) (ht : P.underlying t = some (.slice e)) (hv : ∀ w, (zeroValue e).run P w = .ok z w) (h1 : ∀ v ∈ z.cells, v.oneCell' = true) (b o n c : Nat) (hn : 0 < n)
    (hc : ∀ j, j < (Builtin.zeroCells z.cells n).toList.length → (w.cell? ⟨b, o + j, none⟩).isSome = true) (hf : ∀ j, j < (Builtin.zeroCells z.cells n).toList.length → w.frozen? ⟨b, o + j, none⟩ = false) :
    (Builtin.clear_ #[t] ty #[.slice (some ⟨b, o, none⟩) n c]).run P w = .ok (.tuple #[]) (w.setCells b o (Builtin.zeroCells z.cells n).toList) := by
  have hz : ∀ v ∈ (Builtin.zeroCells z.cells n).toList, v.oneCell' = true := by
    intro v hv'
    simp only [Builtin.zeroCells] at hv'
    obtain ⟨i, hi, rfl⟩ := List.mem_iff_getElem.1 hv'
    simp at hi
    have hpos : 0 < z.cells.size := by
      rcases Nat.eq_zero_or_pos z.cells.size with h | h
      · rw [h] at hi; simp at hi
      · exact h
    have hlt := Nat.mod_lt i hpos
    simp only [Array.getElem_toList, Array.getElem_map, Array.getElem_range]
    rw [getElem!_pos z.cells _ hlt]
    exact h1 _ (Array.getElem_mem hlt)
  have hst := run_storeCells_cells (P := P) b o (Builtin.zeroCells z.cells n).toList 0 w (by simpa using hc) (by simpa using hf) hz
  simp only [Nat.add_zero] at hst
  obtain ⟨m, rfl⟩ : ∃ m, n = m + 1 := ⟨n - 1, by omega⟩
  simp [Builtin.clear_, run_underlying ht, hv, hst]
end Go.Proofs.Ytpndplbomnjioaa
