/- Part of the proof that the calls that look alone commute. Conditions: none. -/
import Derived.Test.YtjkenolgkkknaaaGreatDoorLp07
import Derived.ArgAppend
set_option linter.unusedVariables false
set_option linter.unusedSimpArgs false
set_option maxRecDepth 100000
set_option maxHeartbeats 8000000
/- A queue of ints that a call made: sliced from the front, appended to. Conditions: none. -/
set_option linter.unusedVariables false
set_option linter.unusedSimpArgs false
namespace Go.Proofs.YtjkenolgkkknaaaGreatDoor
open Go.RowKit
theorem info3 : (Tryz.prog.info? 3).map (fun i => (i.zero, i.size, i.bytes)) = some (some (.int .i64 0), 1, 8) := by kernel_rfl
theorem info4 : (Tryz.prog.info? 4).map (fun i => (i.zero, i.size, i.bytes)) = some (some (.bool false), 1, 1) := by kernel_rfl
/-- A queue: a slice of ints in a block that is none of X. -/
def TodoAt (X : Nat → Prop) (w : World) (v : Value) (xs : List Nat) : Prop :=
  ∃ g off cap arr, v = .slice (some ⟨g, off, none⟩) xs.length cap ∧ ¬ X g ∧ Blk w g arr 3 ∧ xs.length ≤ cap ∧ off + cap ≤ arr.size ∧ ∀ (i x : Nat), xs[i]? = some x → arr[off + i]? = some (.int .i64 x)
theorem TodoAt.alloc {X : Nat → Prop} {w : World} {v : Value} {xs : List Nat} (h : TodoAt X w v xs) (o : Obj) : TodoAt X (w.alloc o) v xs := by
  obtain ⟨g, off, cap, arr, e, hx, hb, r⟩ := h
  exact ⟨g, off, cap, arr, e, hx, hb.alloc o, r⟩
theorem TodoAt.junk {X : Nat → Prop} {w : World} {v : Value} {xs : List Nat} (h : TodoAt X w v xs) (o : Behind) : TodoAt X (w.junk o) v xs := by
  obtain ⟨g, off, cap, arr, e, hx, hb, r⟩ := h
  exact ⟨g, off, cap, arr, e, hx, hb.junk o, r⟩
theorem TodoAt.far {X : Nat → Prop} {w : World} {v : Value} {xs : List Nat} (h : TodoAt X w v xs) {a : Addr} (ha : X a.block) (u : Value) : TodoAt X (w.setCell a u) v xs := by
  obtain ⟨g, off, cap, arr, e, hx, hb, r⟩ := h
  exact ⟨g, off, cap, arr, e, hx, hb.far (fun e => hx (by rw [e]; exact ha)) u, r⟩
theorem wpList_append_todo {P : Program} (hP : P.underlying 25 = some (.slice 3)) (hI : (P.info? 3).map (fun i => (i.zero, i.size, i.bytes)) = some (some (.int .i64 0), 1, 8))
    (w : World) {ops : Array Oper} {rest : List Oper} {o : Oper} {a : Act} {Q : Exit → Act → World → Prop} (hg : o.guard = none) (s x : Operand)
    (hop : o.op = Op.call { callee := Callee.builtin Builtin.append, args := #[s, x], argTypes := #[25, 25] }) (X : Nat → Prop) (v : Value) (xs : List Nat) (hs : a.eval s = v) (ht : TodoAt X w v xs) (hX : ∀ g, w.heap.size ≤ g → ¬ X g)
    (ad : Addr) (c k : Nat) (hx : a.eval x = .slice (some ad) 1 c) (hc : w.cell? ad = some (.int .i64 k)) (hlen : xs.length ≤ 1000000)
    (hK : ∀ v' w', TodoAt X w' v' (xs ++ [k]) → Keep (fun g => ¬ X g) w w' → wpList P ops Q rest (a.put o.dst v') w') :
    wpList P ops Q (o :: rest) a w := by
  obtain ⟨i0, hi, hz0, hz1, hz2⟩ := info_parts hI
  obtain ⟨g, off, cap, arr, rfl, hnx, hb, hle, har, hel⟩ := ht
  refine wpList_append_arg w hg s x 25 hop 3 i0 (.int .i64 0) 1 8 hP hi hz0 hz1 hz2 rfl (by decide) g off xs.length cap (xs.map fun y : Nat => .int .i64 y) hs (by simp) ?_ ad 1 c [.int .i64 k] hx rfl ?_ ?_ ?_ (by unfold maxLen; omega) (by omega) ?_ ?_
  · intro j u hj
    rw [List.getElem?_map] at hj
    obtain ⟨y, hy, rfl⟩ := Option.map_eq_some_iff.1 hj
    rw [hb.cell]
    exact hel j y hy
  · intro j u hj
    have : j = 0 := by
      rcases j with _ | j
      · rfl
      · simp at hj
    subst this
    simp only [List.getElem?_cons_zero, Option.some.injEq] at hj
    subst hj
    have e : ad.add 0 = ad := by unfold Addr.add; split <;> simp_all
    rw [e]; exact hc
  · intro u hu
    simp only [List.mem_singleton] at hu
    subst hu; rfl
  · intro hr j hj
    simp only [List.length_cons, List.length_nil] at hj
    obtain rfl : j = 0 := by omega
    rw [hb.cell, hb.frozen, Nat.add_zero, Nat.mul_one]
    refine ⟨?_, rfl⟩
    rw [Array.getElem?_eq_getElem (by omega)]
    rfl
  · intro hr
    refine hK _ _ ⟨g, off, cap, arr.setIfInBounds (off + xs.length) (.int .i64 k), by simp, hnx, ?_, by simp; omega, by simp; omega, ?_⟩ ?_
    · simp only [Nat.mul_one, World.setCells]
      exact hb.set_ _ _
    · intro i y hy
      rw [Array.getElem?_setIfInBounds]
      by_cases hi : i < xs.length
      · rw [List.getElem?_append_left hi] at hy
        rw [if_neg (by omega)]
        exact hel i y hy
      · rw [List.getElem?_append_right (by omega)] at hy
        have h0 : i - xs.length = 0 := by
          rcases hq : i - xs.length with _ | j
          · rfl
          · rw [hq] at hy; simp at hy
        rw [h0] at hy
        simp only [List.getElem?_cons_zero, Option.some.injEq] at hy
        subst hy
        obtain rfl : i = xs.length := by omega
        rw [if_pos rfl, if_pos (by omega)]
    · simp only [Nat.mul_one, World.setCells]
      exact (Keep.refl _ w).setCell (p := ⟨g, _, none⟩) (.inl hnx) _
  · intro hr v' w' hown hgr
    refine hK _ _ ?_ ((Keep.refl _ w).grown hgr (by simp))
    obtain ⟨hl, h0 | ⟨g', cap', cur, rfl, hge, hcur, hnc, hcm, hsz, htk⟩⟩ := hown
    · omega
    · refine ⟨g', 0, cap', cur, by simp, hX g' hge, hcur, by simp; omega, by omega, ?_⟩
      intro i y hy
      have hil : i < xs.length + 1 := by
        obtain ⟨h, _⟩ := List.getElem?_eq_some_iff.1 hy
        simpa using h
      have h2 : (cur.toList.take ((xs.length + 1) * 1))[i]? = some (.int .i64 y) := by
        rw [htk]
        have : (xs.map (fun y : Nat => Value.int .i64 y) ++ [.int .i64 k]) = (xs ++ [k]).map (fun y : Nat => Value.int .i64 y) := by simp
        rw [this, List.getElem?_map, hy]
        rfl
      rw [List.getElem?_take, if_pos (by omega)] at h2
      rw [Nat.zero_add]
      simpa using h2
end Go.Proofs.YtjkenolgkkknaaaGreatDoor
